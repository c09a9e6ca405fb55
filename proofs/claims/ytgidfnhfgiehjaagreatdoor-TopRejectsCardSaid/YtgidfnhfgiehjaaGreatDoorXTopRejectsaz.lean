/-
  Texts of the proof, joined: Delta3. Conditions: as each names.
-/
import Derived.Test.YtgidfnhfgiehjaaGreatDoorXTopRejectsay

section
namespace Go.Proofs.YtgidfnhfgiehjaaGreatDoor
open Go.RowKit Go.PM
set_option maxRecDepth 100000
set_option maxHeartbeats 4000000
attribute [local go_sem ↓] Go.wp_at_zero Go.wp_at_succ
def DfAt (w2:World) (k:Nat) (wr:World):Prop:=∃ (v:Value) (l:List Rv),BlkAt wr w2.heap.size 321 #[.int .u64 1,.int .u64 2,v]∧wr.ownsRow (w2.heap.size+1) 134 2 v k (rvs l)∧l.map Rv.rw=([([([97],[])],2),([([98],[])],2)]:List Rw).take k ∧
 (∀ r ∈ l,RvOk wr (fun q => w2.heap.size+1≤q∧v.ownBlock≠some q) r)∧Below w2.heap.size w2 wr
theorem diff16 (A B xA yA zA:Option Addr) (c xc yc zc:Nat) (x y z:Rv) (w:World) (hT:Tabs w) (hxe:x=⟨[([97],[])],xA,xc,3⟩) (hye:y=⟨[([98],[])],yA,yc,2⟩) (hze:z=⟨[([97],[])],zA,zc,1⟩) (hA:Rd w A (rvs [x,y])) (hB:Rd w B (rvs [z])) (hro:∀ r ∈ [x,y,z],RvOk w (fun _ => True) r) (hsz:∀ r ∈ [x,y,z],ESz r.d∧r.d.length≤9223372036854775807)
 (hc2:tchk echk [x.rw,y.rw]=0) (hc1:tchk echk [z.rw]=0) :
 Calls Tryz.prog 242 #[.agg #[.int .u64 1,.slice B 1 1],.agg #[.int .u64 2,.slice A 2 c]] w fun e w' => ∃ A' c2 b0 e0,e=.returned (.tuple #[.agg #[.int .u64 b0,.int .u64 e0,.slice A' 2 c2],.int .i64 0])∧TbN w.heap.size w' (.slice A' 2 c2) [([([97],[])],2),([([98],[])],2)]∧Below w.heap.size w w':=by
 have hxd:x.d=[([97],[])]:=by rw [hxe]
 have hyd:y.d=[([98],[])]:=by rw [hye]
 have hzd:z.d=[([97],[])]:=by rw [hze]
 have hxn:x.n=3:=by rw [hxe]
 have hzn:z.n=1:=by rw [hze]
 have hax:EMil x.d:=by rw [hxd];exact ⟨by decide,fun e he => by simp only [List.mem_cons,List.not_mem_nil,or_false] at he;subst he;decide⟩
 have h1:=((BlkAt.made w 325 #[.int .u64 1,.slice B 1 1]).more (.cells #[.int .u64 2,.slice A 2 c] 325)).more (.cells #[.int .u64 0,.int .u64 0,.slice none 0 0] 321) |>.more (.cells #[.func (.func 245) #[.agg #[.int .u64 1,.slice B 1 1]] #[],.func (.func 245) #[.agg #[.int .u64 2,.slice A 2 c]] #[]] 113)
 have h2:=((BlkAt.made (w.alloc (.cells #[.int .u64 1,.slice B 1 1] 325)) 325 #[.int .u64 2,.slice A 2 c]).more (.cells #[.int .u64 0,.int .u64 0,.slice none 0 0] 321)).more (.cells #[.func (.func 245) #[.agg #[.int .u64 1,.slice B 1 1]] #[],.func (.func 245) #[.agg #[.int .u64 2,.slice A 2 c]] #[]] 113)
 have h3:=(BlkAt.made ((w.alloc (.cells #[.int .u64 1,.slice B 1 1] 325)).alloc (.cells #[.int .u64 2,.slice A 2 c] 325)) 321 #[.int .u64 0,.int .u64 0,.slice none 0 0]).more (.cells #[.func (.func 245) #[.agg #[.int .u64 1,.slice B 1 1]] #[],.func (.func 245) #[.agg #[.int .u64 2,.slice A 2 c]] #[]] 113)
 have h4:=BlkAt.made (((w.alloc (.cells #[.int .u64 1,.slice B 1 1] 325)).alloc (.cells #[.int .u64 2,.slice A 2 c] 325)).alloc (.cells #[.int .u64 0,.int .u64 0,.slice none 0 0] 321)) 113 #[.func (.func 245) #[.agg #[.int .u64 1,.slice B 1 1]] #[],.func (.func 245) #[.agg #[.int .u64 2,.slice A 2 c]] #[]]
 have hb4:=ba (ba (ba (ba (a:=w) b0 (.cells #[.int .u64 1,.slice B 1 1] 325)) (.cells #[.int .u64 2,.slice A 2 c] 325)) (.cells #[.int .u64 0,.int .u64 0,.slice none 0 0] 321)) (.cells #[.func (.func 245) #[.agg #[.int .u64 1,.slice B 1 1]] #[],.func (.func 245) #[.agg #[.int .u64 2,.slice A 2 c]] #[]] 113)
 obtain ⟨W,hW⟩:∃ W,W=(((w.alloc (.cells #[.int .u64 1,.slice B 1 1] 325)).alloc (.cells #[.int .u64 2,.slice A 2 c] 325)).alloc (.cells #[.int .u64 0,.int .u64 0,.slice none 0 0] 321)).alloc (.cells #[.func (.func 245) #[.agg #[.int .u64 1,.slice B 1 1]] #[],.func (.func 245) #[.agg #[.int .u64 2,.slice A 2 c]] #[]] 113):=⟨_,rfl⟩
 rw [← hW] at h1 h2 h3 h4 hb4
 simp only [World.size_alloc] at h2 h3 h4
 have HCZ:Hid (∀ q,Below w.heap.size w q→Calls Tryz.prog 245 #[.agg #[.int .u64 1,.slice B 1 1]] q fun e w' => e=.returned (.int .i64 0)∧Below q.heap.size q w'):=fun q hq => by
  have:=scheck_any 1 B 1 [z] (fun _ => True) q (hB.below hq) (fun r hr => (hro r (by simp at hr;simp [hr])).below hq) (fun r hr => hsz r (by simp at hr;simp [hr])) (by simp) (hT.below hq)
  rw [show [z].map Rv.rw=[z.rw] from rfl,hc1] at this
  exact this
 have HCA:Hid (∀ q,Below w.heap.size w q→Calls Tryz.prog 245 #[.agg #[.int .u64 2,.slice A 2 c]] q fun e w' => e=.returned (.int .i64 0)∧Below q.heap.size q w'):=fun q hq => by
  have:=scheck_any 2 A c [x,y] (fun _ => True) q (hA.below hq) (fun r hr => (hro r (by simp at hr;rcases hr with rfl | rfl <;> simp)).below hq) (fun r hr => hsz r (by simp at hr;rcases hr with rfl | rfl <;> simp)) (by simp) (hT.below hq)
  rw [show [x,y].map Rv.rw=[x.rw,y.rw] from rfl,hc2] at this
  exact this
 have HF:=Lib.hid (dfirst_two (w.heap.size+1+1+1) 2 _ _ W h4.lt (h4.cell 0) (h4.cell 1) (HCZ.out W hb4) fun q hq => HCA.out q (bb hb4 hq))
 have HAL:Hid (∀ q,Below w.heap.size w q→Calls Tryz.prog 246 #[.slice A 2 c,.slice B 1 1] q fun e w' => e=.returned (.bool true)∧Below q.heap.size q w'):=fun q hq =>
  atleast13 A B c 1 x y z q (hA.below hq) (hB.below hq) ((hro x (by simp)).2.rd.below hq) ((hro z (by simp)).2.rd.below hq) hax (hxd.trans hzd.symm) (by omega) (by
   rw [hzd,exam13k,ByteArray.toList_eq]
   decide) (by
   rw [hzd,exam13k,ByteArray.toList_eq]
   decide)
 have H1:=Lib.hid h1
 have H2:=Lib.hid h2
 have H3:=Lib.hid h3
 have HBW:=Lib.hid hb4
 clear h1 h2 h3 h4 hb4
 subst hW
 go_enter Tryz.func242,Tryz.ntmps242
 go_wp2_with fail
 refine HF.out.mono ?_
 rintro e w1 ⟨rfl,hb1⟩
 have k1:=H1.out.below hb1 H1.out.lt
 have k2:=H2.out.below hb1 H2.out.lt
 have k3:=H3.out.below hb1 H3.out.lt
 have HB1:=Lib.hid (bb HBW.out hb1)
 have HK1:=Lib.hid k1
 have HK2:=Lib.hid k2
 have HK3:=Lib.hid k3
 have a0:=k1.cell 0
 have a1:=k1.cell 1
 have b0':=k2.cell 0
 have b1':=k2.cell 1
 simp at a0 a1 b0' b1'
 clear k1 k2 k3 hb1 H1 H2 H3 HBW HF
 go_wp2_with fail
 refine (HAL.out _ HB1.out).mono ?_
 rintro e w2 ⟨rfl,hb2⟩
 have k1:=HK1.out.below hb2 HK1.out.lt
 have k2:=HK2.out.below hb2 HK2.out.lt
 have k3:=HK3.out.below hb2 HK3.out.lt
 have HB2:=Lib.hid (bb HB1.out hb2)
 have HL1:=Lib.hid k1
 have HL2:=Lib.hid k2
 have HL3:=Lib.hid k3
 clear a0 a1 b0' b1'
 have a0:=k1.cell 0
 have a1:=k1.cell 1
 have b0':=k2.cell 0
 have b1':=k2.cell 1
 simp at a0 a1 b0' b1'
 have l1:=k1.lt
 have l2:=k2.lt
 have l3:=k3.lt
 clear k1 k2 k3 hb2 HK1 HK2 HK3 HB1 HAL
 go_wp2_with fail
 have H0:Hid (DfAt w2 0 (w2.alloc (.cells #[.int .u64 1,.int .u64 2,.slice none 0 0] 321))):=⟨_,[],BlkAt.made w2 321 #[.int .u64 1,.int .u64 2,.slice none 0 0],World.ownsRow_nil _ _ _ _,rfl,by simp,ba b0 _⟩
 go_loopg [8,45] 2 (fun gk lv ki wr => ∃ k:Nat,k≤2∧2 - k≤gk∧ki=.int .i64 (k:Int)∧(k=0→lv=.slice B 1 1)∧(k≠0→∃ B' c2,lv=.slice B' 0 c2)∧Hid (DfAt w2 k wr))
 case atStart => exact ⟨0,by omega,by omega,rfl,fun _ => rfl,fun h => absurd rfl h,H0⟩
 case round =>
  obtain ⟨k,hk,hgk,rfl,hl0,hl1,HS⟩:=hrel
  obtain ⟨v,l,hbo,hown,hlm,hro',hbel⟩:=HS.out
  have hbw:=HB2.out.trans (hbel.mono HB2.out.size)
  rcases Nat.lt_or_ge k 2 with hk2 | hk2
  · obtain ⟨b,off,hAe,hbl,c0,c1⟩:=(hA.below hbw).row (k:=k) (by simpa using hk2)
    rcases Nat.eq_zero_or_pos k with hk0 | hk0
    · subst hk0
      have hlv:=hl0 rfl
      subst hlv
      obtain ⟨bz,oz,hBe,hbz,z0,z1⟩:=(hB.below hbw).row (k:=0) (by simp)
      simp only [List.getElem_cons_zero,Nat.zero_mul,Nat.add_zero,hxe,hze] at c0 c1 z0 z1
      subst hAe hBe
      have hxm:=BlkAt.made wr 134 #[.slice xA 1 xc,.int .u64 3]
      have hbx:=ba (a:=wr) b0 (.cells #[.slice xA 1 xc,.int .u64 3] 134)
      clear a0 a1 b0' b1' HL1 HL2 HL3 HS H0
      go_wp2_with fail
      have HXM:=Lib.hid hxm
      have HBX:=Lib.hid hbx
      have hzr:=(hro z (by simp)).2.rd.below (bb hbw hbx)
      have hxr:=(hro x (by simp)).2.rd.below (bb hbw hbx)
      simp only [hxe,hze] at hzr hxr
      have hoN:=hbo.below hbx hbo.lt
      have hownN:=own_below hown hbx
      generalize wr.alloc (.cells #[.slice xA 1 xc,.int .u64 3] 134)=wN at HXM HBX hzr hxr hoN hownN ⊢
      have n0:∀ n:BelW wN,n.wld.cell? ⟨bz,oz,none⟩=some (.slice zA 1 zc):=fun n => ((bb HBX.out n.bel).cell (p:=⟨bz,oz,none⟩) hbz).trans z0
      have n1:∀ n:BelW wN,n.wld.cell? ⟨wr.heap.size,0,none⟩=some (.slice xA 1 xc):=fun n => (HXM.out.below n.bel HXM.out.lt).cell 0
      have hem:EMil [(([97],[]):Ent)]:=by rw [hxd] at hax;exact hax
      have HCN:Hid (∀ n:BelW wN,Calls Tryz.prog 247 #[.slice zA 1 zc,.slice xA 1 xc] n.wld fun e w' => e=.returned (.int .i64 0)∧Below n.wld.heap.size n.wld w'):=fun n => by
       have:=cmp12_any zA xA zc xc [([97],[])] [([97],[])] n.wld (hzr.below n.bel) (hxr.below n.bel) hem hem
       rw [cmpB_self] at this
       exact this
      refine wp_region_below_lit (by kernel_rfl) (by kernel_rfl) ?_
      repeat (first | go_big_quiet_skip | (go_big_quiet_want;go_big_quiet_op;first | go_big_quiet_on | (apply Exists.intro;refine ⟨fun nq => ?_,?_⟩;(go_at_call 247;exact below_of (HCN.out _));go_big_quiet_on)))
      refine wpQuiet_nil ?_
      intro wq hnq
      obtain ⟨nq,rfl⟩:=hnq
      have hq:=nq.bel
      generalize nq.wld=wq at hq ⊢
      clear nq
      have hbq:=bb HBX.out hq
      have z1':wq.cell? ⟨bz,oz+1,none⟩=some (.int .u64 1):=(hbq.cell (p:=⟨bz,oz+1,none⟩) hbz).trans z1
      have hxq:wq.cell? ⟨wr.heap.size,0,none⟩=some (.slice xA 1 xc):=(HXM.out.below hq HXM.out.lt).cell 0
      go_wp2_with fail
      have HXQ:=Lib.hid (HXM.out.below hq HXM.out.lt)
      have HOQ:=Lib.hid (hoN.below hq hoN.lt)
      have HOWNQ:=Lib.hid (own_below hownN hq)
      have HB2Q:=Lib.hid (hbel.trans (hbq.mono hbel.size))
      have HROQ:Hid (∀ r ∈ l,RvOk wq (fun q => w2.heap.size+1≤q∧v.ownBlock≠some q) r):=fun r hr => (hro' r hr).below hbq
      have HSQ:Hid (wr.heap.size+1≤wq.heap.size):=by
       have:=(HXM.out.below hq HXM.out.lt).lt
       exact this
      have HXN:Hid (∀ q,v.ownBlock=some q→q < wr.heap.size):=fun q e => (hown.lt q e).2
      have hxrq:=hxr.below hq
      have HROW:Hid (∀ q,Below wq.heap.size wq q→Calls Tryz.prog 248 #[.slice xA 1 xc,.int .u64 2] q fun e w' => ∃ A' c',e=.returned (.agg #[.slice A' 1 c',.int .u64 2])∧RvOk w' (wq.heap.size≤·) ⟨[([97],[])],A',c',2⟩∧Below wq.heap.size wq w'):=fun q hq' =>
       (dlrow_any (n:=2) (l:=[([97],[])]) (hxrq.below hq') (by simp) (by simp)).mono fun e w' ⟨A',c',h1,h2,h3⟩ => ⟨A',c',h1,h2.imp fun g _ hg => Nat.le_trans hq'.size hg,bb hq' h3⟩
      have hne1:w2.heap.size≠wr.heap.size:=by have:=hbo.lt;omega
      have hne2:=hne1.symm
      have hlo:=HOQ.out.lt
      have hlx:=HXQ.out.lt
      have hoc:=HOQ.out.cell 2
      simp at hoc
      obtain ⟨i0,hi0,hz0,hz1,hz2⟩:=info_parts info_row
      refine wp_region_noPanic ?_
      refine wp_region_held_drew (S:=fun q => q.cell? ⟨wr.heap.size,0,none⟩=some (.slice xA 1 xc)) (by kernel_rfl) (by (try dsimp only);go_keep) (fun hHeld => ?_)
      refine wpAnyH_take (i:=0) (v:=?_) rfl (by kernel_rfl) (by kernel_rfl) (by kernel_rfl) (fun _ _ _ h => h) (Or.inl ⟨by rfl,?_⟩) (by assumption) ?_
      rotate_left
      · ((intro q hSq;(try dsimp only at hSq);go_simp);with_reducible rfl)
      refine wpAnyH_take (i:=2) (v:=?_) rfl (by kernel_rfl) (by kernel_rfl) (by kernel_rfl) (fun _ _ _ h => h) (Or.inl ⟨by rfl,?_⟩) (by assumption) ?_
      rotate_left
      · ((intro q hSq;(try dsimp only at hSq);go_simp);with_reducible rfl)
      refine wpAnyH_take (i:=3) (v:=?_) rfl (by kernel_rfl) (by kernel_rfl) (by kernel_rfl) (fun _ _ _ h => h) (Or.inl ⟨by rfl,?_⟩) (by assumption) ?_
      rotate_left
      · ((intro q hSq;(try dsimp only at hSq);go_simp);with_reducible rfl)
      refine wpAnyH_take (i:=4) (v:=?_) rfl (by kernel_rfl) (by kernel_rfl) (by kernel_rfl) (fun _ _ _ h => h) (Or.inl ⟨by rfl,?_⟩) (by assumption) ?_
      rotate_left
      · ((intro q hSq;(try dsimp only at hSq);go_simp);with_reducible rfl)
      refine wpAnyH_ready (rs:=[1,5]) (by kernel_rfl) (by simp) ?_
      refine AllReadyH.cons rfl (fun K hK => ?_) ?_
      · go_simp
        refine hK.out _ _ (by (try dsimp only);go_keep) (fun hHeld => ?_)
        clear hK K
        refine wpAnyH_ready (rs:=[5]) (by kernel_rfl) (by simp) ?_
        refine AllReadyH.cons rfl (fun K hK => ?_) AllReadyH.nil
        go_simp
        refine (HROW.out _ (bd b0)).mono ?_
        rintro e' W1 ⟨A1,c1,rfl,hro1,hbW⟩
        have hx1:=HXQ.out.below hbW HXQ.out.lt
        have ho1:=HOQ.out.below hbW HOQ.out.lt
        have hsW:=hbW.size
        have r0':=ho1.cell 2
        have e0':=hx1.cell 0
        have hlO1:=ho1.lt
        have hlX1:=hx1.lt
        simp at r0' e0'
        go_simp
        refine hK.out _ _ (by (try dsimp only);go_keep) (fun hHeld => ?_)
        clear hK K
        refine wpAnyH_ready (rs:=[6]) (by kernel_rfl) (by simp) ?_
        refine AllReadyH.cons rfl (fun K hK => ?_) AllReadyH.nil
        go_simp
        refine hK.out _ _ (by (try dsimp only);go_keep) (fun hHeld => ?_)
        clear hK K
        refine wpAnyH_ready (rs:=[7]) (by kernel_rfl) (by simp) ?_
        refine AllReadyH.cons rfl (fun K hK => ?_) AllReadyH.nil
        refine step_append_lies _ (by rfl) _ _ _ (by rfl) (w2.heap.size+1) 134 i0 _ 2 32 Tryz.underlying26 hi0 hz0 hz1 hz2 rfl (by omega) v 0 (rvs l) (by rfl) ((own_below HOWNQ.out hbW).alloc _) ⟨W1.heap.size,0,none⟩ 1 1 (encR ⟨[([97],[])],A1,c1,2⟩) (by rfl) (by rfl) (World.news_of_block (cs:=#[.slice A1 1 c1,.int .u64 2]) (t:=134) (fr:=(0,0)) (heap_alloc_new W1 _)) (by simp [encR,Value.oneCell']) (by omega) (by unfold maxLen;omega) (by omega) (by have:=HB2Q.out.size;simp;omega) (W1.heap.size+1) (by simp) ?_
        intro g cap3 w3 hown3 hg3 hat3 hlt3
        have hx3:=(hx1.more (.cells #[.slice A1 1 c1,.int .u64 2] 134)).step hg3 (by intro e;have:=HXN.out _ e.symm;omega)
        have ho3:=(ho1.more (.cells #[.slice A1 1 c1,.int .u64 2] 134)).step hg3 (by intro e;have:=(HOWNQ.out.lt _ e.symm).1;omega)
        have p0:=hx3.cell 0
        have q0:=ho3.cell 2
        have q1:=ho3.free 2
        simp at p0 q0
        refine hK.out _ _ (by (try dsimp only);go_keep) (fun hHeld => ?_)
        clear hK K
        refine wpAnyH_take (i:=8) (v:=?_) rfl (by kernel_rfl) (by kernel_rfl) (by kernel_rfl) (fun _ _ _ h => h) (Or.inl ⟨by rfl,?_⟩) (by assumption) ?_
        rotate_left
        · ((intro q hSq;(try dsimp only at hSq);go_simp);with_reducible rfl)
        refine wpAnyH_ready (rs:=[9]) (by kernel_rfl) (by simp) ?_
        refine AllReadyH.cons rfl (fun K hK => ?_) AllReadyH.nil
        go_simp
        refine hK.out _ _ (by (try dsimp only);go_keep) (fun hHeld => ?_)
        clear hK K
        refine wpAnyH_done (by kernel_rfl) ?_ _
        refine NoPanic.normal ?_
        have HN:Hid (DfAt w2 1 (w3.setCell ⟨w2.heap.size,2,none⟩ (.slice (some ⟨g,0,none⟩) 1 cap3))):=by
         refine ⟨_,l++[⟨[([97],[])],A1,c1,2⟩],ho3.put 2 _,?_,?_,?_,?_⟩
         · rw [rvs_app]
           refine own_tch (S:=fun q => q=w2.heap.size) (xs:=rvs l++encR ⟨[([97],[])],A1,c1,2⟩) hown3 ((Tch.refl (fun q => q=w2.heap.size) w3).put (p:=⟨w2.heap.size,2,none⟩) (fun _ => rfl) _) fun q hq e => ?_
           have:=(hown3.lt q hq).1
           omega
         · rw [List.map_append,hlm]
           rfl
         · intro r hr
           rcases List.mem_append.1 hr with hr | hr
           · have h1:=(((HROQ.out r hr).imp (J:=fun q => (w2.heap.size+1≤q∧v.ownBlock≠some q)∧q < wq.heap.size) fun q hl hq => ⟨hq,hl⟩).below hbW).below (ba b0 (.cells #[.slice A1 1 c1,.int .u64 2] 134))
             have h2:=h1.tch (S:=fun q => v.ownBlock=some q) (Tch.grown hg3 fun q hq _ => hq) fun q hq => hq.1.2
             refine (h2.tch (S:=fun q => q=w2.heap.size) ((Tch.refl (fun q => q=w2.heap.size) w3).put (p:=⟨w2.heap.size,2,none⟩) (fun _ => rfl) _) fun q hq e => by have:=hq.1.1;omega).imp fun q hql hq => ⟨hq.1.1,fun e => ?_⟩
             simp only [Value.ownBlock,Option.some.injEq] at e
             subst e
             rcases hat3 with h | h
             · exact hq.1.2 h
             · have:=hq.2
               omega
           · obtain rfl:r=_:=by simpa using hr
             have h1:=(hro1.imp (J:=fun q => wq.heap.size≤q∧q < W1.heap.size) fun q hl hq => ⟨hq,hl⟩).below (ba b0 (.cells #[.slice A1 1 c1,.int .u64 2] 134))
             have h2:=h1.tch (S:=fun q => v.ownBlock=some q) (Tch.grown hg3 fun q hq _ => hq) fun q hq e => by have:=HXN.out q e;have:=hq.1;have:=HSQ.out;omega
             refine (h2.tch (S:=fun q => q=w2.heap.size) ((Tch.refl (fun q => q=w2.heap.size) w3).put (p:=⟨w2.heap.size,2,none⟩) (fun _ => rfl) _) fun q hq e => by have:=hq.1;omega).imp fun q hql hq => ⟨by have:=hq.1;omega,fun e => ?_⟩
             simp only [Value.ownBlock,Option.some.injEq] at e
             subst e
             rcases hat3 with h | h
             · have:=HXN.out _ h
               have:=hq.1
               have:=HSQ.out
               omega
             · have:=hq.2
               omega
         · have h1:=HB2Q.out.trans (hbW.mono HB2Q.out.size)
           have h2:=ba h1 (.cells #[.slice A1 1 c1,.int .u64 2] 134)
           exact (h2.grown hg3 h2.size fun q hq => by have:=(HOWNQ.out.lt q hq).1;omega).setCell (p:=⟨w2.heap.size,2,none⟩) (Nat.le_refl _) _
        clear hx3 ho3 p0 q0 q1 hown3 hg3 hat3 hlt3 hro1 hbW hx1 ho1 r0' e0'
        go_wp2_with fail
        go_roundg (2 - 1)
        case measure => omega
        case rel => exact ⟨1,by omega,by omega,by go_num,fun h => absurd h (by decide),fun _ => ⟨_,_,rfl⟩,HN⟩
      · refine AllReadyH.cons rfl (fun K hK => ?_) AllReadyH.nil
        go_simp
        refine (HROW.out _ (bd b0)).mono ?_
        rintro e' W1 ⟨A1,c1,rfl,hro1,hbW⟩
        have hx1:=HXQ.out.below hbW HXQ.out.lt
        have ho1:=HOQ.out.below hbW HOQ.out.lt
        have hsW:=hbW.size
        have r0':=ho1.cell 2
        have e0':=hx1.cell 0
        have hlO1:=ho1.lt
        have hlX1:=hx1.lt
        simp at r0' e0'
        go_simp
        refine hK.out _ _ (by (try dsimp only);go_keep) (fun hHeld => ?_)
        clear hK K
        refine wpAnyH_ready (rs:=[1,6]) (by kernel_rfl) (by simp) ?_
        refine AllReadyH.cons rfl (fun K hK => ?_) ?_
        · go_simp
          refine hK.out _ _ (by (try dsimp only);go_keep) (fun hHeld => ?_)
          clear hK K
          refine wpAnyH_ready (rs:=[6]) (by kernel_rfl) (by simp) ?_
          refine AllReadyH.cons rfl (fun K hK => ?_) AllReadyH.nil
          go_simp
          refine hK.out _ _ (by (try dsimp only);go_keep) (fun hHeld => ?_)
          clear hK K
          refine wpAnyH_ready (rs:=[7]) (by kernel_rfl) (by simp) ?_
          refine AllReadyH.cons rfl (fun K hK => ?_) AllReadyH.nil
          refine step_append_lies _ (by rfl) _ _ _ (by rfl) (w2.heap.size+1) 134 i0 _ 2 32 Tryz.underlying26 hi0 hz0 hz1 hz2 rfl (by omega) v 0 (rvs l) (by rfl) ((own_below HOWNQ.out hbW).alloc _) ⟨W1.heap.size,0,none⟩ 1 1 (encR ⟨[([97],[])],A1,c1,2⟩) (by rfl) (by rfl) (World.news_of_block (cs:=#[.slice A1 1 c1,.int .u64 2]) (t:=134) (fr:=(0,0)) (heap_alloc_new W1 _)) (by simp [encR,Value.oneCell']) (by omega) (by unfold maxLen;omega) (by omega) (by have:=HB2Q.out.size;simp;omega) (W1.heap.size+1) (by simp) ?_
          intro g cap3 w3 hown3 hg3 hat3 hlt3
          have hx3:=(hx1.more (.cells #[.slice A1 1 c1,.int .u64 2] 134)).step hg3 (by intro e;have:=HXN.out _ e.symm;omega)
          have ho3:=(ho1.more (.cells #[.slice A1 1 c1,.int .u64 2] 134)).step hg3 (by intro e;have:=(HOWNQ.out.lt _ e.symm).1;omega)
          have p0:=hx3.cell 0
          have q0:=ho3.cell 2
          have q1:=ho3.free 2
          simp at p0 q0
          refine hK.out _ _ (by (try dsimp only);go_keep) (fun hHeld => ?_)
          clear hK K
          refine wpAnyH_take (i:=8) (v:=?_) rfl (by kernel_rfl) (by kernel_rfl) (by kernel_rfl) (fun _ _ _ h => h) (Or.inl ⟨by rfl,?_⟩) (by assumption) ?_
          rotate_left
          · ((intro q hSq;(try dsimp only at hSq);go_simp);with_reducible rfl)
          refine wpAnyH_ready (rs:=[9]) (by kernel_rfl) (by simp) ?_
          refine AllReadyH.cons rfl (fun K hK => ?_) AllReadyH.nil
          go_simp
          refine hK.out _ _ (by (try dsimp only);go_keep) (fun hHeld => ?_)
          clear hK K
          refine wpAnyH_done (by kernel_rfl) ?_ _
          refine NoPanic.normal ?_
          have HN:Hid (DfAt w2 1 (w3.setCell ⟨w2.heap.size,2,none⟩ (.slice (some ⟨g,0,none⟩) 1 cap3))):=by
           refine ⟨_,l++[⟨[([97],[])],A1,c1,2⟩],ho3.put 2 _,?_,?_,?_,?_⟩
           · rw [rvs_app]
             refine own_tch (S:=fun q => q=w2.heap.size) (xs:=rvs l++encR ⟨[([97],[])],A1,c1,2⟩) hown3 ((Tch.refl (fun q => q=w2.heap.size) w3).put (p:=⟨w2.heap.size,2,none⟩) (fun _ => rfl) _) fun q hq e => ?_
             have:=(hown3.lt q hq).1
             omega
           · rw [List.map_append,hlm]
             rfl
           · intro r hr
             rcases List.mem_append.1 hr with hr | hr
             · have h1:=(((HROQ.out r hr).imp (J:=fun q => (w2.heap.size+1≤q∧v.ownBlock≠some q)∧q < wq.heap.size) fun q hl hq => ⟨hq,hl⟩).below hbW).below (ba b0 (.cells #[.slice A1 1 c1,.int .u64 2] 134))
               have h2:=h1.tch (S:=fun q => v.ownBlock=some q) (Tch.grown hg3 fun q hq _ => hq) fun q hq => hq.1.2
               refine (h2.tch (S:=fun q => q=w2.heap.size) ((Tch.refl (fun q => q=w2.heap.size) w3).put (p:=⟨w2.heap.size,2,none⟩) (fun _ => rfl) _) fun q hq e => by have:=hq.1.1;omega).imp fun q hql hq => ⟨hq.1.1,fun e => ?_⟩
               simp only [Value.ownBlock,Option.some.injEq] at e
               subst e
               rcases hat3 with h | h
               · exact hq.1.2 h
               · have:=hq.2
                 omega
             · obtain rfl:r=_:=by simpa using hr
               have h1:=(hro1.imp (J:=fun q => wq.heap.size≤q∧q < W1.heap.size) fun q hl hq => ⟨hq,hl⟩).below (ba b0 (.cells #[.slice A1 1 c1,.int .u64 2] 134))
               have h2:=h1.tch (S:=fun q => v.ownBlock=some q) (Tch.grown hg3 fun q hq _ => hq) fun q hq e => by have:=HXN.out q e;have:=hq.1;have:=HSQ.out;omega
               refine (h2.tch (S:=fun q => q=w2.heap.size) ((Tch.refl (fun q => q=w2.heap.size) w3).put (p:=⟨w2.heap.size,2,none⟩) (fun _ => rfl) _) fun q hq e => by have:=hq.1;omega).imp fun q hql hq => ⟨by have:=hq.1;omega,fun e => ?_⟩
               simp only [Value.ownBlock,Option.some.injEq] at e
               subst e
               rcases hat3 with h | h
               · have:=HXN.out _ h
                 have:=hq.1
                 have:=HSQ.out
                 omega
               · have:=hq.2
                 omega
           · have h1:=HB2Q.out.trans (hbW.mono HB2Q.out.size)
             have h2:=ba h1 (.cells #[.slice A1 1 c1,.int .u64 2] 134)
             exact (h2.grown hg3 h2.size fun q hq => by have:=(HOWNQ.out.lt q hq).1;omega).setCell (p:=⟨w2.heap.size,2,none⟩) (Nat.le_refl _) _
          clear hx3 ho3 p0 q0 q1 hown3 hg3 hat3 hlt3 hro1 hbW hx1 ho1 r0' e0'
          go_wp2_with fail
          go_roundg (2 - 1)
          case measure => omega
          case rel => exact ⟨1,by omega,by omega,by go_num,fun h => absurd h (by decide),fun _ => ⟨_,_,rfl⟩,HN⟩
        · refine AllReadyH.cons rfl (fun K hK => ?_) AllReadyH.nil
          go_simp
          refine hK.out _ _ (by (try dsimp only);go_keep) (fun hHeld => ?_)
          clear hK K
          refine wpAnyH_ready (rs:=[1]) (by kernel_rfl) (by simp) ?_
          refine AllReadyH.cons rfl (fun K hK => ?_) AllReadyH.nil
          go_simp
          refine hK.out _ _ (by (try dsimp only);go_keep) (fun hHeld => ?_)
          clear hK K
          refine wpAnyH_ready (rs:=[7]) (by kernel_rfl) (by simp) ?_
          refine AllReadyH.cons rfl (fun K hK => ?_) AllReadyH.nil
          refine step_append_lies _ (by rfl) _ _ _ (by rfl) (w2.heap.size+1) 134 i0 _ 2 32 Tryz.underlying26 hi0 hz0 hz1 hz2 rfl (by omega) v 0 (rvs l) (by rfl) ((own_below HOWNQ.out hbW).alloc _) ⟨W1.heap.size,0,none⟩ 1 1 (encR ⟨[([97],[])],A1,c1,2⟩) (by rfl) (by rfl) (World.news_of_block (cs:=#[.slice A1 1 c1,.int .u64 2]) (t:=134) (fr:=(0,0)) (heap_alloc_new W1 _)) (by simp [encR,Value.oneCell']) (by omega) (by unfold maxLen;omega) (by omega) (by have:=HB2Q.out.size;simp;omega) (W1.heap.size+1) (by simp) ?_
          intro g cap3 w3 hown3 hg3 hat3 hlt3
          have hx3:=(hx1.more (.cells #[.slice A1 1 c1,.int .u64 2] 134)).step hg3 (by intro e;have:=HXN.out _ e.symm;omega)
          have ho3:=(ho1.more (.cells #[.slice A1 1 c1,.int .u64 2] 134)).step hg3 (by intro e;have:=(HOWNQ.out.lt _ e.symm).1;omega)
          have p0:=hx3.cell 0
          have q0:=ho3.cell 2
          have q1:=ho3.free 2
          simp at p0 q0
          refine hK.out _ _ (by (try dsimp only);go_keep) (fun hHeld => ?_)
          clear hK K
          refine wpAnyH_take (i:=8) (v:=?_) rfl (by kernel_rfl) (by kernel_rfl) (by kernel_rfl) (fun _ _ _ h => h) (Or.inl ⟨by rfl,?_⟩) (by assumption) ?_
          rotate_left
          · ((intro q hSq;(try dsimp only at hSq);go_simp);with_reducible rfl)
          refine wpAnyH_ready (rs:=[9]) (by kernel_rfl) (by simp) ?_
          refine AllReadyH.cons rfl (fun K hK => ?_) AllReadyH.nil
          go_simp
          refine hK.out _ _ (by (try dsimp only);go_keep) (fun hHeld => ?_)
          clear hK K
          refine wpAnyH_done (by kernel_rfl) ?_ _
          refine NoPanic.normal ?_
          have HN:Hid (DfAt w2 1 (w3.setCell ⟨w2.heap.size,2,none⟩ (.slice (some ⟨g,0,none⟩) 1 cap3))):=by
           refine ⟨_,l++[⟨[([97],[])],A1,c1,2⟩],ho3.put 2 _,?_,?_,?_,?_⟩
           · rw [rvs_app]
             refine own_tch (S:=fun q => q=w2.heap.size) (xs:=rvs l++encR ⟨[([97],[])],A1,c1,2⟩) hown3 ((Tch.refl (fun q => q=w2.heap.size) w3).put (p:=⟨w2.heap.size,2,none⟩) (fun _ => rfl) _) fun q hq e => ?_
             have:=(hown3.lt q hq).1
             omega
           · rw [List.map_append,hlm]
             rfl
           · intro r hr
             rcases List.mem_append.1 hr with hr | hr
             · have h1:=(((HROQ.out r hr).imp (J:=fun q => (w2.heap.size+1≤q∧v.ownBlock≠some q)∧q < wq.heap.size) fun q hl hq => ⟨hq,hl⟩).below hbW).below (ba b0 (.cells #[.slice A1 1 c1,.int .u64 2] 134))
               have h2:=h1.tch (S:=fun q => v.ownBlock=some q) (Tch.grown hg3 fun q hq _ => hq) fun q hq => hq.1.2
               refine (h2.tch (S:=fun q => q=w2.heap.size) ((Tch.refl (fun q => q=w2.heap.size) w3).put (p:=⟨w2.heap.size,2,none⟩) (fun _ => rfl) _) fun q hq e => by have:=hq.1.1;omega).imp fun q hql hq => ⟨hq.1.1,fun e => ?_⟩
               simp only [Value.ownBlock,Option.some.injEq] at e
               subst e
               rcases hat3 with h | h
               · exact hq.1.2 h
               · have:=hq.2
                 omega
             · obtain rfl:r=_:=by simpa using hr
               have h1:=(hro1.imp (J:=fun q => wq.heap.size≤q∧q < W1.heap.size) fun q hl hq => ⟨hq,hl⟩).below (ba b0 (.cells #[.slice A1 1 c1,.int .u64 2] 134))
               have h2:=h1.tch (S:=fun q => v.ownBlock=some q) (Tch.grown hg3 fun q hq _ => hq) fun q hq e => by have:=HXN.out q e;have:=hq.1;have:=HSQ.out;omega
               refine (h2.tch (S:=fun q => q=w2.heap.size) ((Tch.refl (fun q => q=w2.heap.size) w3).put (p:=⟨w2.heap.size,2,none⟩) (fun _ => rfl) _) fun q hq e => by have:=hq.1;omega).imp fun q hql hq => ⟨by have:=hq.1;omega,fun e => ?_⟩
               simp only [Value.ownBlock,Option.some.injEq] at e
               subst e
               rcases hat3 with h | h
               · have:=HXN.out _ h
                 have:=hq.1
                 have:=HSQ.out
                 omega
               · have:=hq.2
                 omega
           · have h1:=HB2Q.out.trans (hbW.mono HB2Q.out.size)
             have h2:=ba h1 (.cells #[.slice A1 1 c1,.int .u64 2] 134)
             exact (h2.grown hg3 h2.size fun q hq => by have:=(HOWNQ.out.lt q hq).1;omega).setCell (p:=⟨w2.heap.size,2,none⟩) (Nat.le_refl _) _
          clear hx3 ho3 p0 q0 q1 hown3 hg3 hat3 hlt3 hro1 hbW hx1 ho1 r0' e0'
          go_wp2_with fail
          go_roundg (2 - 1)
          case measure => omega
          case rel => exact ⟨1,by omega,by omega,by go_num,fun h => absurd h (by decide),fun _ => ⟨_,_,rfl⟩,HN⟩
    · obtain rfl:k=1:=by omega
      obtain ⟨B',c3,hlv⟩:=hl1 (by decide)
      subst hlv
      simp only [List.getElem_cons_succ,List.getElem_cons_zero,Nat.one_mul,hye] at c0 c1
      subst hAe
      have hxm:=BlkAt.made wr 134 #[.slice yA 1 yc,.int .u64 2]
      have hbx:=ba (a:=wr) b0 (.cells #[.slice yA 1 yc,.int .u64 2] 134)
      clear a0 a1 b0' b1' HL1 HL2 HL3 HS H0
      have hyr:=(hro y (by simp)).2.rd.below (bb hbw hbx)
      simp only [hye] at hyr
      go_wp2_with fail
      go_quiet (fail)
      go_wp2_with fail
      have hq:Below (wr.alloc (.cells #[.slice yA 1 yc,.int .u64 2] 134)).heap.size (wr.alloc (.cells #[.slice yA 1 yc,.int .u64 2] 134)) ((wr.alloc (.cells #[.slice yA 1 yc,.int .u64 2] 134)).drewN nq):=below_drewN b0 nq
      have hbq:=bb hbx hq
      have HXQ:=Lib.hid (hxm.below hq hxm.lt)
      have HOQ:=Lib.hid (hbo.below hbq hbo.lt)
      have HOWNQ:=Lib.hid (own_below hown hbq)
      have HB2Q:=Lib.hid (hbel.trans (hbq.mono hbel.size))
      have HROQ:Hid (∀ r ∈ l,RvOk ((wr.alloc (.cells #[.slice yA 1 yc,.int .u64 2] 134)).drewN nq) (fun q => w2.heap.size+1≤q∧v.ownBlock≠some q) r):=fun r hr => (hro' r hr).below hbq
      have HSQ:Hid (wr.heap.size+1≤((wr.alloc (.cells #[.slice yA 1 yc,.int .u64 2] 134)).drewN nq).heap.size):=by
       have:=HXQ.out.lt
       exact this
      have HXN:Hid (∀ q,v.ownBlock=some q→q < wr.heap.size):=fun q e => (hown.lt q e).2
      have hxrq:=hyr.below hq
      have hne1:w2.heap.size≠wr.heap.size:=by have:=hbo.lt;omega
      clear hbx hxm hyr hq hbq hbo
      generalize (wr.alloc (.cells #[.slice yA 1 yc,.int .u64 2] 134)).drewN nq=wq at HXQ HOQ HOWNQ HB2Q HROQ HSQ hxrq ⊢
      have HROW:Hid (∀ q,Below wq.heap.size wq q→Calls Tryz.prog 248 #[.slice yA 1 yc,.int .u64 2] q fun e w' => ∃ A' c',e=.returned (.agg #[.slice A' 1 c',.int .u64 2])∧RvOk w' (wq.heap.size≤·) ⟨[([98],[])],A',c',2⟩∧Below wq.heap.size wq w'):=fun q hq' =>
       (dlrow_any (n:=2) (l:=[([98],[])]) (hxrq.below hq') (by simp) (by simp)).mono fun e w' ⟨A',c',h1,h2,h3⟩ => ⟨A',c',h1,h2.imp fun g _ hg => Nat.le_trans hq'.size hg,bb hq' h3⟩
      have hlo:=HOQ.out.lt
      have hlx:=HXQ.out.lt
      have hne2:=hne1.symm
      have hoc:=HOQ.out.cell 2
      simp at hoc
      have hxq:wq.cell? ⟨wr.heap.size,0,none⟩=some (.slice yA 1 yc):=HXQ.out.cell 0
      obtain ⟨i0,hi0,hz0,hz1,hz2⟩:=info_parts info_row
      refine wp_region_noPanic ?_
      refine wp_region_held_drew (S:=fun q => q.cell? ⟨wr.heap.size,0,none⟩=some (.slice yA 1 yc)) (by kernel_rfl) (by (try dsimp only);go_keep) (fun hHeld => ?_)
      refine wpAnyH_take (i:=0) (v:=?_) rfl (by kernel_rfl) (by kernel_rfl) (by kernel_rfl) (fun _ _ _ h => h) (Or.inl ⟨by rfl,?_⟩) (by assumption) ?_
      rotate_left
      · ((intro q hSq;(try dsimp only at hSq);go_simp);with_reducible rfl)
      refine wpAnyH_take (i:=2) (v:=?_) rfl (by kernel_rfl) (by kernel_rfl) (by kernel_rfl) (fun _ _ _ h => h) (Or.inl ⟨by rfl,?_⟩) (by assumption) ?_
      rotate_left
      · ((intro q hSq;(try dsimp only at hSq);go_simp);with_reducible rfl)
      refine wpAnyH_take (i:=3) (v:=?_) rfl (by kernel_rfl) (by kernel_rfl) (by kernel_rfl) (fun _ _ _ h => h) (Or.inl ⟨by rfl,?_⟩) (by assumption) ?_
      rotate_left
      · ((intro q hSq;(try dsimp only at hSq);go_simp);with_reducible rfl)
      refine wpAnyH_take (i:=4) (v:=?_) rfl (by kernel_rfl) (by kernel_rfl) (by kernel_rfl) (fun _ _ _ h => h) (Or.inl ⟨by rfl,?_⟩) (by assumption) ?_
      rotate_left
      · ((intro q hSq;(try dsimp only at hSq);go_simp);with_reducible rfl)
      refine wpAnyH_ready (rs:=[1,5]) (by kernel_rfl) (by simp) ?_
      refine AllReadyH.cons rfl (fun K hK => ?_) ?_
      · go_simp
        refine hK.out _ _ (by (try dsimp only);go_keep) (fun hHeld => ?_)
        clear hK K
        refine wpAnyH_ready (rs:=[5]) (by kernel_rfl) (by simp) ?_
        refine AllReadyH.cons rfl (fun K hK => ?_) AllReadyH.nil
        go_simp
        refine (HROW.out _ (bd b0)).mono ?_
        rintro e' W1 ⟨A1,c1,rfl,hro1,hbW⟩
        have hx1:=HXQ.out.below hbW HXQ.out.lt
        have ho1:=HOQ.out.below hbW HOQ.out.lt
        have hsW:=hbW.size
        have r0':=ho1.cell 2
        have e0':=hx1.cell 0
        have hlO1:=ho1.lt
        have hlX1:=hx1.lt
        simp at r0' e0'
        go_simp
        refine hK.out _ _ (by (try dsimp only);go_keep) (fun hHeld => ?_)
        clear hK K
        refine wpAnyH_ready (rs:=[6]) (by kernel_rfl) (by simp) ?_
        refine AllReadyH.cons rfl (fun K hK => ?_) AllReadyH.nil
        go_simp
        refine hK.out _ _ (by (try dsimp only);go_keep) (fun hHeld => ?_)
        clear hK K
        refine wpAnyH_ready (rs:=[7]) (by kernel_rfl) (by simp) ?_
        refine AllReadyH.cons rfl (fun K hK => ?_) AllReadyH.nil
        refine step_append_lies _ (by rfl) _ _ _ (by rfl) (w2.heap.size+1) 134 i0 _ 2 32 Tryz.underlying26 hi0 hz0 hz1 hz2 rfl (by omega) v 1 (rvs l) (by rfl) ((own_below HOWNQ.out hbW).alloc _) ⟨W1.heap.size,0,none⟩ 1 1 (encR ⟨[([98],[])],A1,c1,2⟩) (by rfl) (by rfl) (World.news_of_block (cs:=#[.slice A1 1 c1,.int .u64 2]) (t:=134) (fr:=(0,0)) (heap_alloc_new W1 _)) (by simp [encR,Value.oneCell']) (by omega) (by unfold maxLen;omega) (by omega) (by have:=HB2Q.out.size;simp;omega) (W1.heap.size+1) (by simp) ?_
        intro g cap3 w3 hown3 hg3 hat3 hlt3
        have hx3:=(hx1.more (.cells #[.slice A1 1 c1,.int .u64 2] 134)).step hg3 (by intro e;have:=HXN.out _ e.symm;omega)
        have ho3:=(ho1.more (.cells #[.slice A1 1 c1,.int .u64 2] 134)).step hg3 (by intro e;have:=(HOWNQ.out.lt _ e.symm).1;omega)
        have p0:=hx3.cell 0
        have q0:=ho3.cell 2
        have q1:=ho3.free 2
        simp at p0 q0
        refine hK.out _ _ (by (try dsimp only);go_keep) (fun hHeld => ?_)
        clear hK K
        refine wpAnyH_take (i:=8) (v:=?_) rfl (by kernel_rfl) (by kernel_rfl) (by kernel_rfl) (fun _ _ _ h => h) (Or.inl ⟨by rfl,?_⟩) (by assumption) ?_
        rotate_left
        · ((intro q hSq;(try dsimp only at hSq);go_simp);with_reducible rfl)
        refine wpAnyH_ready (rs:=[9]) (by kernel_rfl) (by simp) ?_
        refine AllReadyH.cons rfl (fun K hK => ?_) AllReadyH.nil
        go_simp
        refine hK.out _ _ (by (try dsimp only);go_keep) (fun hHeld => ?_)
        clear hK K
        refine wpAnyH_done (by kernel_rfl) ?_ _
        refine NoPanic.normal ?_
        have HN:Hid (DfAt w2 2 (w3.setCell ⟨w2.heap.size,2,none⟩ (.slice (some ⟨g,0,none⟩) 2 cap3))):=by
         refine ⟨_,l++[⟨[([98],[])],A1,c1,2⟩],ho3.put 2 _,?_,?_,?_,?_⟩
         · rw [rvs_app]
           refine own_tch (S:=fun q => q=w2.heap.size) (xs:=rvs l++encR ⟨[([98],[])],A1,c1,2⟩) hown3 ((Tch.refl (fun q => q=w2.heap.size) w3).put (p:=⟨w2.heap.size,2,none⟩) (fun _ => rfl) _) fun q hq e => ?_
           have:=(hown3.lt q hq).1
           omega
         · rw [List.map_append,hlm]
           rfl
         · intro r hr
           rcases List.mem_append.1 hr with hr | hr
           · have h1:=(((HROQ.out r hr).imp (J:=fun q => (w2.heap.size+1≤q∧v.ownBlock≠some q)∧q < wq.heap.size) fun q hl hq => ⟨hq,hl⟩).below hbW).below (ba b0 (.cells #[.slice A1 1 c1,.int .u64 2] 134))
             have h2:=h1.tch (S:=fun q => v.ownBlock=some q) (Tch.grown hg3 fun q hq _ => hq) fun q hq => hq.1.2
             refine (h2.tch (S:=fun q => q=w2.heap.size) ((Tch.refl (fun q => q=w2.heap.size) w3).put (p:=⟨w2.heap.size,2,none⟩) (fun _ => rfl) _) fun q hq e => by have:=hq.1.1;omega).imp fun q hql hq => ⟨hq.1.1,fun e => ?_⟩
             simp only [Value.ownBlock,Option.some.injEq] at e
             subst e
             rcases hat3 with h | h
             · exact hq.1.2 h
             · have:=hq.2
               omega
           · obtain rfl:r=_:=by simpa using hr
             have h1:=(hro1.imp (J:=fun q => wq.heap.size≤q∧q < W1.heap.size) fun q hl hq => ⟨hq,hl⟩).below (ba b0 (.cells #[.slice A1 1 c1,.int .u64 2] 134))
             have h2:=h1.tch (S:=fun q => v.ownBlock=some q) (Tch.grown hg3 fun q hq _ => hq) fun q hq e => by have:=HXN.out q e;have:=hq.1;have:=HSQ.out;omega
             refine (h2.tch (S:=fun q => q=w2.heap.size) ((Tch.refl (fun q => q=w2.heap.size) w3).put (p:=⟨w2.heap.size,2,none⟩) (fun _ => rfl) _) fun q hq e => by have:=hq.1;omega).imp fun q hql hq => ⟨by have:=hq.1;omega,fun e => ?_⟩
             simp only [Value.ownBlock,Option.some.injEq] at e
             subst e
             rcases hat3 with h | h
             · have:=HXN.out _ h
               have:=hq.1
               have:=HSQ.out
               omega
             · have:=hq.2
               omega
         · have h1:=HB2Q.out.trans (hbW.mono HB2Q.out.size)
           have h2:=ba h1 (.cells #[.slice A1 1 c1,.int .u64 2] 134)
           exact (h2.grown hg3 h2.size fun q hq => by have:=(HOWNQ.out.lt q hq).1;omega).setCell (p:=⟨w2.heap.size,2,none⟩) (Nat.le_refl _) _
        clear hx3 ho3 p0 q0 q1 hown3 hg3 hat3 hlt3 hro1 hbW hx1 ho1 r0' e0'
        go_wp2_with fail
        go_roundg (2 - 2)
        case measure => omega
        case rel => exact ⟨2,by omega,by omega,by go_num,fun h => absurd h (by decide),fun _ => ⟨_,_,rfl⟩,HN⟩
      · refine AllReadyH.cons rfl (fun K hK => ?_) AllReadyH.nil
        go_simp
        refine (HROW.out _ (bd b0)).mono ?_
        rintro e' W1 ⟨A1,c1,rfl,hro1,hbW⟩
        have hx1:=HXQ.out.below hbW HXQ.out.lt
        have ho1:=HOQ.out.below hbW HOQ.out.lt
        have hsW:=hbW.size
        have r0':=ho1.cell 2
        have e0':=hx1.cell 0
        have hlO1:=ho1.lt
        have hlX1:=hx1.lt
        simp at r0' e0'
        go_simp
        refine hK.out _ _ (by (try dsimp only);go_keep) (fun hHeld => ?_)
        clear hK K
        refine wpAnyH_ready (rs:=[1,6]) (by kernel_rfl) (by simp) ?_
        refine AllReadyH.cons rfl (fun K hK => ?_) ?_
        · go_simp
          refine hK.out _ _ (by (try dsimp only);go_keep) (fun hHeld => ?_)
          clear hK K
          refine wpAnyH_ready (rs:=[6]) (by kernel_rfl) (by simp) ?_
          refine AllReadyH.cons rfl (fun K hK => ?_) AllReadyH.nil
          go_simp
          refine hK.out _ _ (by (try dsimp only);go_keep) (fun hHeld => ?_)
          clear hK K
          refine wpAnyH_ready (rs:=[7]) (by kernel_rfl) (by simp) ?_
          refine AllReadyH.cons rfl (fun K hK => ?_) AllReadyH.nil
          refine step_append_lies _ (by rfl) _ _ _ (by rfl) (w2.heap.size+1) 134 i0 _ 2 32 Tryz.underlying26 hi0 hz0 hz1 hz2 rfl (by omega) v 1 (rvs l) (by rfl) ((own_below HOWNQ.out hbW).alloc _) ⟨W1.heap.size,0,none⟩ 1 1 (encR ⟨[([98],[])],A1,c1,2⟩) (by rfl) (by rfl) (World.news_of_block (cs:=#[.slice A1 1 c1,.int .u64 2]) (t:=134) (fr:=(0,0)) (heap_alloc_new W1 _)) (by simp [encR,Value.oneCell']) (by omega) (by unfold maxLen;omega) (by omega) (by have:=HB2Q.out.size;simp;omega) (W1.heap.size+1) (by simp) ?_
          intro g cap3 w3 hown3 hg3 hat3 hlt3
          have hx3:=(hx1.more (.cells #[.slice A1 1 c1,.int .u64 2] 134)).step hg3 (by intro e;have:=HXN.out _ e.symm;omega)
          have ho3:=(ho1.more (.cells #[.slice A1 1 c1,.int .u64 2] 134)).step hg3 (by intro e;have:=(HOWNQ.out.lt _ e.symm).1;omega)
          have p0:=hx3.cell 0
          have q0:=ho3.cell 2
          have q1:=ho3.free 2
          simp at p0 q0
          refine hK.out _ _ (by (try dsimp only);go_keep) (fun hHeld => ?_)
          clear hK K
          refine wpAnyH_take (i:=8) (v:=?_) rfl (by kernel_rfl) (by kernel_rfl) (by kernel_rfl) (fun _ _ _ h => h) (Or.inl ⟨by rfl,?_⟩) (by assumption) ?_
          rotate_left
          · ((intro q hSq;(try dsimp only at hSq);go_simp);with_reducible rfl)
          refine wpAnyH_ready (rs:=[9]) (by kernel_rfl) (by simp) ?_
          refine AllReadyH.cons rfl (fun K hK => ?_) AllReadyH.nil
          go_simp
          refine hK.out _ _ (by (try dsimp only);go_keep) (fun hHeld => ?_)
          clear hK K
          refine wpAnyH_done (by kernel_rfl) ?_ _
          refine NoPanic.normal ?_
          have HN:Hid (DfAt w2 2 (w3.setCell ⟨w2.heap.size,2,none⟩ (.slice (some ⟨g,0,none⟩) 2 cap3))):=by
           refine ⟨_,l++[⟨[([98],[])],A1,c1,2⟩],ho3.put 2 _,?_,?_,?_,?_⟩
           · rw [rvs_app]
             refine own_tch (S:=fun q => q=w2.heap.size) (xs:=rvs l++encR ⟨[([98],[])],A1,c1,2⟩) hown3 ((Tch.refl (fun q => q=w2.heap.size) w3).put (p:=⟨w2.heap.size,2,none⟩) (fun _ => rfl) _) fun q hq e => ?_
             have:=(hown3.lt q hq).1
             omega
           · rw [List.map_append,hlm]
             rfl
           · intro r hr
             rcases List.mem_append.1 hr with hr | hr
             · have h1:=(((HROQ.out r hr).imp (J:=fun q => (w2.heap.size+1≤q∧v.ownBlock≠some q)∧q < wq.heap.size) fun q hl hq => ⟨hq,hl⟩).below hbW).below (ba b0 (.cells #[.slice A1 1 c1,.int .u64 2] 134))
               have h2:=h1.tch (S:=fun q => v.ownBlock=some q) (Tch.grown hg3 fun q hq _ => hq) fun q hq => hq.1.2
               refine (h2.tch (S:=fun q => q=w2.heap.size) ((Tch.refl (fun q => q=w2.heap.size) w3).put (p:=⟨w2.heap.size,2,none⟩) (fun _ => rfl) _) fun q hq e => by have:=hq.1.1;omega).imp fun q hql hq => ⟨hq.1.1,fun e => ?_⟩
               simp only [Value.ownBlock,Option.some.injEq] at e
               subst e
               rcases hat3 with h | h
               · exact hq.1.2 h
               · have:=hq.2
                 omega
             · obtain rfl:r=_:=by simpa using hr
               have h1:=(hro1.imp (J:=fun q => wq.heap.size≤q∧q < W1.heap.size) fun q hl hq => ⟨hq,hl⟩).below (ba b0 (.cells #[.slice A1 1 c1,.int .u64 2] 134))
               have h2:=h1.tch (S:=fun q => v.ownBlock=some q) (Tch.grown hg3 fun q hq _ => hq) fun q hq e => by have:=HXN.out q e;have:=hq.1;have:=HSQ.out;omega
               refine (h2.tch (S:=fun q => q=w2.heap.size) ((Tch.refl (fun q => q=w2.heap.size) w3).put (p:=⟨w2.heap.size,2,none⟩) (fun _ => rfl) _) fun q hq e => by have:=hq.1;omega).imp fun q hql hq => ⟨by have:=hq.1;omega,fun e => ?_⟩
               simp only [Value.ownBlock,Option.some.injEq] at e
               subst e
               rcases hat3 with h | h
               · have:=HXN.out _ h
                 have:=hq.1
                 have:=HSQ.out
                 omega
               · have:=hq.2
                 omega
           · have h1:=HB2Q.out.trans (hbW.mono HB2Q.out.size)
             have h2:=ba h1 (.cells #[.slice A1 1 c1,.int .u64 2] 134)
             exact (h2.grown hg3 h2.size fun q hq => by have:=(HOWNQ.out.lt q hq).1;omega).setCell (p:=⟨w2.heap.size,2,none⟩) (Nat.le_refl _) _
          clear hx3 ho3 p0 q0 q1 hown3 hg3 hat3 hlt3 hro1 hbW hx1 ho1 r0' e0'
          go_wp2_with fail
          go_roundg (2 - 2)
          case measure => omega
          case rel => exact ⟨2,by omega,by omega,by go_num,fun h => absurd h (by decide),fun _ => ⟨_,_,rfl⟩,HN⟩
        · refine AllReadyH.cons rfl (fun K hK => ?_) AllReadyH.nil
          go_simp
          refine hK.out _ _ (by (try dsimp only);go_keep) (fun hHeld => ?_)
          clear hK K
          refine wpAnyH_ready (rs:=[1]) (by kernel_rfl) (by simp) ?_
          refine AllReadyH.cons rfl (fun K hK => ?_) AllReadyH.nil
          go_simp
          refine hK.out _ _ (by (try dsimp only);go_keep) (fun hHeld => ?_)
          clear hK K
          refine wpAnyH_ready (rs:=[7]) (by kernel_rfl) (by simp) ?_
          refine AllReadyH.cons rfl (fun K hK => ?_) AllReadyH.nil
          refine step_append_lies _ (by rfl) _ _ _ (by rfl) (w2.heap.size+1) 134 i0 _ 2 32 Tryz.underlying26 hi0 hz0 hz1 hz2 rfl (by omega) v 1 (rvs l) (by rfl) ((own_below HOWNQ.out hbW).alloc _) ⟨W1.heap.size,0,none⟩ 1 1 (encR ⟨[([98],[])],A1,c1,2⟩) (by rfl) (by rfl) (World.news_of_block (cs:=#[.slice A1 1 c1,.int .u64 2]) (t:=134) (fr:=(0,0)) (heap_alloc_new W1 _)) (by simp [encR,Value.oneCell']) (by omega) (by unfold maxLen;omega) (by omega) (by have:=HB2Q.out.size;simp;omega) (W1.heap.size+1) (by simp) ?_
          intro g cap3 w3 hown3 hg3 hat3 hlt3
          have hx3:=(hx1.more (.cells #[.slice A1 1 c1,.int .u64 2] 134)).step hg3 (by intro e;have:=HXN.out _ e.symm;omega)
          have ho3:=(ho1.more (.cells #[.slice A1 1 c1,.int .u64 2] 134)).step hg3 (by intro e;have:=(HOWNQ.out.lt _ e.symm).1;omega)
          have p0:=hx3.cell 0
          have q0:=ho3.cell 2
          have q1:=ho3.free 2
          simp at p0 q0
          refine hK.out _ _ (by (try dsimp only);go_keep) (fun hHeld => ?_)
          clear hK K
          refine wpAnyH_take (i:=8) (v:=?_) rfl (by kernel_rfl) (by kernel_rfl) (by kernel_rfl) (fun _ _ _ h => h) (Or.inl ⟨by rfl,?_⟩) (by assumption) ?_
          rotate_left
          · ((intro q hSq;(try dsimp only at hSq);go_simp);with_reducible rfl)
          refine wpAnyH_ready (rs:=[9]) (by kernel_rfl) (by simp) ?_
          refine AllReadyH.cons rfl (fun K hK => ?_) AllReadyH.nil
          go_simp
          refine hK.out _ _ (by (try dsimp only);go_keep) (fun hHeld => ?_)
          clear hK K
          refine wpAnyH_done (by kernel_rfl) ?_ _
          refine NoPanic.normal ?_
          have HN:Hid (DfAt w2 2 (w3.setCell ⟨w2.heap.size,2,none⟩ (.slice (some ⟨g,0,none⟩) 2 cap3))):=by
           refine ⟨_,l++[⟨[([98],[])],A1,c1,2⟩],ho3.put 2 _,?_,?_,?_,?_⟩
           · rw [rvs_app]
             refine own_tch (S:=fun q => q=w2.heap.size) (xs:=rvs l++encR ⟨[([98],[])],A1,c1,2⟩) hown3 ((Tch.refl (fun q => q=w2.heap.size) w3).put (p:=⟨w2.heap.size,2,none⟩) (fun _ => rfl) _) fun q hq e => ?_
             have:=(hown3.lt q hq).1
             omega
           · rw [List.map_append,hlm]
             rfl
           · intro r hr
             rcases List.mem_append.1 hr with hr | hr
             · have h1:=(((HROQ.out r hr).imp (J:=fun q => (w2.heap.size+1≤q∧v.ownBlock≠some q)∧q < wq.heap.size) fun q hl hq => ⟨hq,hl⟩).below hbW).below (ba b0 (.cells #[.slice A1 1 c1,.int .u64 2] 134))
               have h2:=h1.tch (S:=fun q => v.ownBlock=some q) (Tch.grown hg3 fun q hq _ => hq) fun q hq => hq.1.2
               refine (h2.tch (S:=fun q => q=w2.heap.size) ((Tch.refl (fun q => q=w2.heap.size) w3).put (p:=⟨w2.heap.size,2,none⟩) (fun _ => rfl) _) fun q hq e => by have:=hq.1.1;omega).imp fun q hql hq => ⟨hq.1.1,fun e => ?_⟩
               simp only [Value.ownBlock,Option.some.injEq] at e
               subst e
               rcases hat3 with h | h
               · exact hq.1.2 h
               · have:=hq.2
                 omega
             · obtain rfl:r=_:=by simpa using hr
               have h1:=(hro1.imp (J:=fun q => wq.heap.size≤q∧q < W1.heap.size) fun q hl hq => ⟨hq,hl⟩).below (ba b0 (.cells #[.slice A1 1 c1,.int .u64 2] 134))
               have h2:=h1.tch (S:=fun q => v.ownBlock=some q) (Tch.grown hg3 fun q hq _ => hq) fun q hq e => by have:=HXN.out q e;have:=hq.1;have:=HSQ.out;omega
               refine (h2.tch (S:=fun q => q=w2.heap.size) ((Tch.refl (fun q => q=w2.heap.size) w3).put (p:=⟨w2.heap.size,2,none⟩) (fun _ => rfl) _) fun q hq e => by have:=hq.1;omega).imp fun q hql hq => ⟨by have:=hq.1;omega,fun e => ?_⟩
               simp only [Value.ownBlock,Option.some.injEq] at e
               subst e
               rcases hat3 with h | h
               · have:=HXN.out _ h
                 have:=hq.1
                 have:=HSQ.out
                 omega
               · have:=hq.2
                 omega
           · have h1:=HB2Q.out.trans (hbW.mono HB2Q.out.size)
             have h2:=ba h1 (.cells #[.slice A1 1 c1,.int .u64 2] 134)
             exact (h2.grown hg3 h2.size fun q hq => by have:=(HOWNQ.out.lt q hq).1;omega).setCell (p:=⟨w2.heap.size,2,none⟩) (Nat.le_refl _) _
          clear hx3 ho3 p0 q0 q1 hown3 hg3 hat3 hlt3 hro1 hbW hx1 ho1 r0' e0'
          go_wp2_with fail
          go_roundg (2 - 2)
          case measure => omega
          case rel => exact ⟨2,by omega,by omega,by go_num,fun h => absurd h (by decide),fun _ => ⟨_,_,rfl⟩,HN⟩
  · obtain rfl:k=2:=by omega
    obtain ⟨A',c',rfl,hrd,hcap,hbk⟩:=Rd.own hown
    have o0:=hbo.cell 0
    have o1:=hbo.cell 1
    have o2:=hbo.cell 2
    have hlo:=hbo.lt
    simp at o0 o1 o2
    clear a0 a1 b0' b1'
    have hl3:=HL3.out.below hbel HL3.out.lt
    have f0:=hl3.free 0
    have f1:=hl3.free 1
    have f2:=hl3.free 2
    have d0:=hl3.cell 0
    have d1:=hl3.cell 1
    have d2:=hl3.cell 2
    have hll:=hl3.lt
    simp at d0 d1 d2
    have HE:Hid (∀ w',Tch (fun j => j=w.heap.size+1+1) wr w'→TbN w.heap.size w' (.slice A' 2 c') [([([97],[])],2),([([98],[])],2)]∧Below w.heap.size w w'):=fun w' ht => by
     have hl2:l.length=2:=by
      have:=congrArg List.length hlm
      simpa using this
     refine ⟨⟨l,A',c',by rw [hl2],by rw [hlm];rfl,?_,fun r hr => ?_,by omega,fun b off e => ?_⟩,hbw.trans (ht.toBelowB hbw.size fun g hg e => by omega)⟩
     · refine hrd.tch ht fun b off e e2 => ?_
       have:=(hbk b off e).2
       omega
     · refine ((hro' r hr).tch ht fun g hg e => by have:=hg.1;omega).imp fun g _ hg => by have:=hg.1;omega
     · have:=(hbk b off e).2
       omega
    clear HL1 HL2 HL3 HS H0 hro' hown hrd hbk hbo hl3
    go_wp2_with fail
    refine bodyPost_ret (v:=.tuple #[.agg #[.int .u64 1,.int .u64 2,.slice A' 2 c'],.int .i64 0]) (by simp [results,Tryz.results242,go_sem,d0,d1,d2];try rfl) rfl ⟨A',c',1,2,rfl,HE.out _ ?_⟩
    exact (((Tch.refl (fun j => j=w.heap.size+1+1) wr).put (p:=⟨w.heap.size+1+1,0,none⟩) (fun _ => rfl) _).put (p:=⟨w.heap.size+1+1,1,none⟩) (fun _ => rfl) _).put (p:=⟨w.heap.size+1+1,2,none⟩) (fun _ => rfl) _
end Go.Proofs.YtgidfnhfgiehjaaGreatDoor
end
