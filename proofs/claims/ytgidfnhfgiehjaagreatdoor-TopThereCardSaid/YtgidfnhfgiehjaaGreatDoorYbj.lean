/-
  Parts of the proof. Conditions: as each names.
-/
import Derived.Test.YtgidfnhfgiehjaaGreatDoorYbf
namespace Go.Proofs.YtgidfnhfgiehjaaGreatDoor
open Go.PM Go.RowKit Go.Proofs.Tryz
set_option maxRecDepth 100000
set_option maxHeartbeats 4000000
attribute [local go_sem ↓] Go.wp_at_zero Go.wp_at_succ
def zu(w2:World)(k:Nat)(wr:World):Prop:=∃(v:Value) (l:List Rv),dU wr w2.heap.size 321 #[.int .u64 1,.int .u64 2,v]∧wr.ownsRow (w2.heap.size+1) 134 2 v k (gZ l)∧l.map Rv.rw=([([([97],[])],2),([([98],[])],2)]:List Rw).take k∧
 (∀r∈l,gJ wr (fun q=>w2.heap.size+1≤q∧v.ownBlock≠some q) r)∧Below w2.heap.size w2 wr
theorem Gn{w2 wq W1 w3:World}{v:Value}{l:List Rv}{n g cap3 N:Nat}{r0:Rv}{cs:Array Value}{T:TypeId}(hl:(l++[r0]).map Rv.rw=([([([97],[])],2),([([98],[])],2)]:List Rw).take (n+1))
 (ho3:dU w3 w2.heap.size 321 #[.int .u64 1,.int .u64 2,v]) (hown3:w3.ownsRow (w2.heap.size+1) 134 2 (.slice (some ⟨g,0,none⟩) (n+1) cap3) (n+1) (gZ l++encR r0))
 (hg3:(W1.alloc (.cells cs T)).grownBy w3 v.ownBlock) (iF:v.ownBlock=some g∨g=W1.heap.size+1) (hbW:Below wq.heap.size wq W1)
 (yG:∀r∈l,gJ wq (fun q=>w2.heap.size+1≤q∧v.ownBlock≠some q) r) (qj:gJ W1 (wq.heap.size≤·) r0) (rU:∀q,v.ownBlock=some q→q<N) (zK:N+1≤wq.heap.size)
 (oN:wq.ownsRow (w2.heap.size+1) 134 2 v n (gZ l)) (qO:Below w2.heap.size w2 wq) (hlo:w2.heap.size<wq.heap.size):zu w2 (n+1) (w3.setCell ⟨w2.heap.size,2,none⟩ (.slice (some ⟨g,0,none⟩) (n+1) cap3)):=by
 refine⟨_,l++[r0],ho3.put 2 _,?_,hl,?_,?_⟩
 ·rw[Pq]
  refine tK (S:=fun q=>q=w2.heap.size) (xs:=gZ l++encR r0) hown3 ((dX.refl (fun q=>q=w2.heap.size) w3).put (p:=⟨w2.heap.size,2,none⟩) (fun _=>rfl) _) fun q hq e=>?_;have:=(hown3.lt q hq).1;omega
 ·intro r hr
  rcases bZ.1 hr with hr|hr
  ·have h1:=(((yG r hr).imp (J:=fun q=>(w2.heap.size+1≤q∧v.ownBlock≠some q)∧q<wq.heap.size) fun q hl hq=>⟨hq,hl⟩).below hbW).below (ba b0 (.cells cs T))
   have h2:=h1.fE (S:=fun q=>v.ownBlock=some q) (dX.grown hg3 fun q hq _=>hq) fun q hq=>hq.1.2;refine(h2.fE (S:=fun q=>q=w2.heap.size) ((dX.refl (fun q=>q=w2.heap.size) w3).put (p:=⟨w2.heap.size,2,none⟩) (fun _=>rfl) _) fun q hq e=>by have:=hq.1.1;omega).imp fun q Ag hq=>⟨hq.1.1,fun e=>?_⟩;simp only[Value.ownBlock,bJ]at e;subst e;rcases iF with h|h
   ·exact hq.1.2 h
   have:=hq.2;have:=hbW.size;omega
  obtain rfl:r=r0:=by simpa using hr
  have h1:=(qj.imp (J:=fun q=>wq.heap.size≤q∧q<W1.heap.size) fun q hl hq=>⟨hq,hl⟩).below (ba b0 (.cells cs T));have h2:=h1.fE (S:=fun q=>v.ownBlock=some q) (dX.grown hg3 fun q hq _=>hq) fun q hq e=>by have:=rU q e;have:=hq.1;omega
  refine(h2.fE (S:=fun q=>q=w2.heap.size) ((dX.refl (fun q=>q=w2.heap.size) w3).put (p:=⟨w2.heap.size,2,none⟩) (fun _=>rfl) _) fun q hq e=>by have:=hq.1;omega).imp fun q Ag hq=>⟨by have:=hq.1;omega,fun e=>?_⟩;simp only[Value.ownBlock,bJ]at e;subst e;rcases iF with h|h
  ·have:=rU _ h
   have:=hq.1;omega
  have:=hq.2;omega
 ·have h1:=qO.trans (hbW.mono qO.size)
  have h2:=ba h1 (.cells cs T);exact(h2.grown hg3 h2.size fun q hq=>by have:=(oN.lt q hq).1;omega).setCell (p:=⟨w2.heap.size,2,none⟩) (au _) _
theorem af8(A B xA yA zA:Option Addr)(c xc yc zc:Nat)(x y z:Rv)(w:World)(hT:Tabs w)(hxe:x=⟨[([97],[])],xA,xc,3⟩)(hye:y=⟨[([98],[])],yA,yc,2⟩)(hze:z=⟨[([97],[])],zA,zc,1⟩)(hA:Rd w A (gZ [x,y]))(hB:Rd w B (gZ [z]))(hro:∀r∈[x,y,z],gJ w (fun _=>True) r)(hsz:∀r∈[x,y,z],lg r.d∧r.d.length≤9223372036854775807)
 (hc2:jv dV [x.rw,y.rw]=0) (hc1:jv dV [z.rw]=0) :
 Calls prog 242 #[.agg #[.int .u64 1,.slice B 1 1],.agg #[.int .u64 2,.slice A 2 c]] w fun e w'=>∃A' c2 b0 e0,e=.returned (.tuple #[.agg #[.int .u64 b0,.int .u64 e0,.slice A' 2 c2],.int .i64 0])∧l7 w.heap.size w' (.slice A' 2 c2) [([([97],[])],2),([([98],[])],2)]∧Below w.heap.size w w':=by
 have hxd:x.d=[([97],[])]:=by rw[hxe]
 have hyd:y.d=[([98],[])]:=by rw[hye]
 have hzd:z.d=[([97],[])]:=by rw[hze]
 have hxn:x.n=3:=by rw[hxe]
 have hzn:z.n=1:=by rw[hze]
 have hax:um x.d:=by rw[hxd];exact⟨by decide,fun e he=>by simp only[bC,bW,or_false]at he;subst he;decide⟩
 have h1:=((dU.made w 325 #[.int .u64 1,.slice B 1 1]).more (.cells #[.int .u64 2,.slice A 2 c] 325)).more (.cells #[.int .u64 0,.int .u64 0,.slice none 0 0] 321) |>.more (.cells #[.func (.func 245) #[.agg #[.int .u64 1,.slice B 1 1]] #[],.func (.func 245) #[.agg #[.int .u64 2,.slice A 2 c]] #[]] 113)
 have h2:=((dU.made (w.alloc (.cells #[.int .u64 1,.slice B 1 1] 325)) 325 #[.int .u64 2,.slice A 2 c]).more (.cells #[.int .u64 0,.int .u64 0,.slice none 0 0] 321)).more (.cells #[.func (.func 245) #[.agg #[.int .u64 1,.slice B 1 1]] #[],.func (.func 245) #[.agg #[.int .u64 2,.slice A 2 c]] #[]] 113)
 have h3:=(dU.made ((w.alloc (.cells #[.int .u64 1,.slice B 1 1] 325)).alloc (.cells #[.int .u64 2,.slice A 2 c] 325)) 321 #[.int .u64 0,.int .u64 0,.slice none 0 0]).more (.cells #[.func (.func 245) #[.agg #[.int .u64 1,.slice B 1 1]] #[],.func (.func 245) #[.agg #[.int .u64 2,.slice A 2 c]] #[]] 113)
 have h4:=dU.made (((w.alloc (.cells #[.int .u64 1,.slice B 1 1] 325)).alloc (.cells #[.int .u64 2,.slice A 2 c] 325)).alloc (.cells #[.int .u64 0,.int .u64 0,.slice none 0 0] 321)) 113 #[.func (.func 245) #[.agg #[.int .u64 1,.slice B 1 1]] #[],.func (.func 245) #[.agg #[.int .u64 2,.slice A 2 c]] #[]]
 have hb4:=ba (ba (ba (ba (a:=w) b0 (.cells #[.int .u64 1,.slice B 1 1] 325)) (.cells #[.int .u64 2,.slice A 2 c] 325)) (.cells #[.int .u64 0,.int .u64 0,.slice none 0 0] 321)) (.cells #[.func (.func 245) #[.agg #[.int .u64 1,.slice B 1 1]] #[],.func (.func 245) #[.agg #[.int .u64 2,.slice A 2 c]] #[]] 113)
 obtain⟨W,hW⟩:∃W,W=(((w.alloc (.cells #[.int .u64 1,.slice B 1 1] 325)).alloc (.cells #[.int .u64 2,.slice A 2 c] 325)).alloc (.cells #[.int .u64 0,.int .u64 0,.slice none 0 0] 321)).alloc (.cells #[.func (.func 245) #[.agg #[.int .u64 1,.slice B 1 1]] #[],.func (.func 245) #[.agg #[.int .u64 2,.slice A 2 c]] #[]] 113):=⟨_,rfl⟩
 rw[← hW]at h1 h2 h3 h4 hb4
 simp only[World.size_alloc]at h2 h3 h4
 have HCZ:Hid (∀q,Below w.heap.size w q→Calls prog 245 #[.agg #[.int .u64 1,.slice B 1 1]] q (aj q (.int .i64 0))):=fun q hq=>by
  have:=ac5 1 B 1 [z] (fun _=>True) q (hB.below hq) (fun r hr=>(hro r (by simp at hr;simp[hr])).below hq) (fun r hr=>hsz r (by simp at hr;simp[hr])) (by simp) (hT.below hq);rw[show[z].map Rv.rw=[z.rw]from rfl,hc1]at this;exact this
 have lu:Hid (∀q,Below w.heap.size w q→Calls prog 245 #[.agg #[.int .u64 2,.slice A 2 c]] q (aj q (.int .i64 0))):=fun q hq=>by
  have:=ac5 2 A c [x,y] (fun _=>True) q (hA.below hq) (fun r hr=>(hro r (by simp at hr;rcases hr with rfl|rfl<;>simp)).below hq) (fun r hr=>hsz r (by simp at hr;rcases hr with rfl|rfl<;>simp)) (by simp) (hT.below hq);rw[show[x,y].map Rv.rw=[x.rw,y.rw]from rfl,hc2]at this;exact this
 have HF:=ah (af7 (w.heap.size+1+1+1) 2 _ _ W h4.lt (h4.cell 0) (h4.cell 1) (HCZ.out W hb4) fun q hq=>lu.out q (bb hb4 hq))
 have sJ:Hid (∀q,Below w.heap.size w q→Calls prog 246 #[.slice A 2 c,.slice B 1 1] q (aj q (.bool true))):=fun q hq=>
  aeJ A B c 1 x y z q (hA.below hq) (hB.below hq) ((hro x (by simp)).2.rd.below hq) ((hro z (by simp)).2.rd.below hq) hax (hxd.trans hzd.symm) (by omega) (by
   rw[hzd,yT,ByteArray.toList_eq];decide) (by
   rw[hzd,yT,ByteArray.toList_eq];decide)
 have H1:=ah h1
 have H2:=ah h2
 have H3:=ah h3
 have iW:=ah hb4
 clear h1 h2 h3 h4 hb4
 subst hW
 go_enter func242,ntmps242
 go_wp2_with fail
 refine HF.out.mono ?_
 rintro e w1 ⟨rfl,hb1⟩
 have k1:=H1.out.below hb1 H1.out.lt
 have k2:=H2.out.below hb1 H2.out.lt
 have k3:=H3.out.below hb1 H3.out.lt
 have HB1:=ah (bb iW.out hb1)
 have Qr:=ah k1
 have uo:=ah k2
 have Qs:=ah k3
 have a0:=k1.cell 0
 have a1:=k1.cell 1
 have b0':=k2.cell 0
 have b1':=k2.cell 1
 simp at a0 a1 b0' b1'
 clear k1 k2 k3 hb1 H1 H2 H3 iW HF
 go_wp2_with fail
 refine(sJ.out _ HB1.out).mono ?_
 rintro e w2 ⟨rfl,hb2⟩
 have k1:=Qr.out.below hb2 Qr.out.lt
 have k2:=uo.out.below hb2 uo.out.lt
 have k3:=Qs.out.below hb2 Qs.out.lt
 have HB2:=ah (bb HB1.out hb2)
 have Qv:=ah k1
 have HL2:=ah k2
 have Iw:=ah k3
 clear a0 a1 b0' b1'
 have a0:=k1.cell 0
 have a1:=k1.cell 1
 have b0':=k2.cell 0
 have b1':=k2.cell 1
 simp at a0 a1 b0' b1'
 have l1:=k1.lt
 have l2:=k2.lt
 have l3:=k3.lt
 clear k1 k2 k3 hb2 Qr uo Qs HB1 sJ
 go_wp2_with fail
 have H0:Hid (zu w2 0 (w2.alloc (.cells #[.int .u64 1,.int .u64 2,.slice none 0 0] 321))):=⟨_,[],dU.made w2 321 #[.int .u64 1,.int .u64 2,.slice none 0 0],World.ownsRow_nil _ _ _ _,rfl,by simp,ba b0 _⟩
 go_loopg [8,45] 2 (fun gk lv ki wr=>∃k:Nat,k≤2∧2 - k≤gk∧ki=.int .i64 (k:Int)∧(k=0→lv=.slice B 1 1)∧(k≠0→∃B' c2,lv=.slice B' 0 c2)∧Hid (zu w2 k wr))
 case atStart=>exact⟨0,by omega,by omega,rfl,fun _=>rfl,fun h=>aJ rfl h,H0⟩
 case round=>
  obtain⟨k,hk,hgk,rfl,hl0,hl1,HS⟩:=hrel;obtain⟨v,l,eU,hown,hlm,Oq,hbel⟩:=HS.out;have hbw:=HB2.out.trans (hbel.mono HB2.out.size);rcases Nat.lt_or_ge k 2 with hk2|hk2
  ·obtain⟨b,off,iL,hbl,c0,c1⟩:=(hA.below hbw).row (k:=k) (by simpa using hk2)
   rcases Nat.eq_zero_or_pos k with hk0|hk0
   ·subst hk0
    have hlv:=hl0 rfl;subst hlv;obtain⟨bz,oz,hBe,hbz,z0,z1⟩:=(hB.below hbw).row (k:=0) (by simp);simp only[dN,Nat.zero_mul,Nat.add_zero,hxe,hze]at c0 c1 z0 z1;subst iL hBe;have hxm:=dU.made wr 134 #[.slice xA 1 xc,.int .u64 3];have hbx:=ba (a:=wr) b0 (.cells #[.slice xA 1 xc,.int .u64 3] 134);clear a0 a1 b0' b1' Qv HL2 Iw HS H0;go_wp2_with fail;have lX:=ah hxm;have iy:=ah hbx;have UQ:=(hro z (by simp)).2.rd.below (bb hbw hbx);have hxr:=(hro x (by simp)).2.rd.below (bb hbw hbx);simp only[hxe,hze]at UQ hxr;have Ux:=eU.below hbx eU.lt;have abt:=own_below hown hbx;generalize wr.alloc (.cells #[.slice xA 1 xc,.int .u64 3] 134)=wN at lX iy UQ hxr Ux abt⊢;have n0:∀n:fV wN,n.wld.cell? ⟨bz,oz,none⟩=some (.slice zA 1 zc):=fun n=>((bb iy.out n.bel).cell (p:=⟨bz,oz,none⟩) hbz).trans z0
    have n1:∀n:fV wN,n.wld.cell? ⟨wr.heap.size,0,none⟩=some (.slice xA 1 xc):=fun n=>(lX.out.below n.bel lX.out.lt).cell 0;have hem:um [(([97],[]):fD)]:=(by rw[hxd]at hax;exact hax);have HCN:Hid (∀n:fV wN,Calls prog 247 #[.slice zA 1 zc,.slice xA 1 xc] n.wld (aj n.wld (.int .i64 0))):=fun n=>by
     have:=afH zA xA zc xc [([97],[])] [([97],[])] n.wld (UQ.below n.bel) (hxr.below n.bel) hem hem;rw[Na]at this;exact this
    refine kM (by kernel_rfl) (by kernel_rfl) ?_;repeat(first|go_big_quiet_skip|(go_big_quiet_want;go_big_quiet_op;first|go_big_quiet_on|(apply Exists.intro;refine⟨fun nq=>?_,?_⟩;(go_at_call 247;exact jW (HCN.out _));go_big_quiet_on)))
    refine wpQuiet_nil ?_;intro wq hnq;obtain⟨nq,rfl⟩:=hnq;have hq:=nq.bel;generalize nq.wld=wq at hq⊢;clear nq;have hbq:=bb iy.out hq;have z1':wq.cell? ⟨bz,oz+1,none⟩=some (.int .u64 1):=(hbq.cell (p:=⟨bz,oz+1,none⟩) hbz).trans z1;have hxq:wq.cell? ⟨wr.heap.size,0,none⟩=some (.slice xA 1 xc):=(lX.out.below hq lX.out.lt).cell 0;go_wp2_with fail;have uy:=ah (lX.out.below hq lX.out.lt);have uw:=ah (Ux.below hq Ux.lt);have oN:=ah (own_below abt hq);have qO:=ah (hbel.trans (hbq.mono hbel.size));have yG:Hid (∀r∈l,gJ wq (fun q=>w2.heap.size+1≤q∧v.ownBlock≠some q) r):=fun r hr=>(Oq r hr).below hbq;have zK:Hid (wr.heap.size+1≤wq.heap.size):=by
     have:=(lX.out.below hq lX.out.lt).lt;exact this
    have rU:Hid (∀q,v.ownBlock=some q→q<wr.heap.size):=fun q e=>(hown.lt q e).2;have OD:=hxr.below hq;have IG:Hid (∀q,Below wq.heap.size wq q→Calls prog 248 #[.slice xA 1 xc,.int .u64 2] q fun e w'=>∃A' c',e=.returned (.agg #[.slice A' 1 c',.int .u64 2])∧gJ w' (wq.heap.size≤·) ⟨[([97],[])],A',c',2⟩∧Below wq.heap.size wq w'):=fun q hq'=>
     (Zw (n:=2) (l:=[([97],[])]) (OD.below hq') (by simp) (by simp)).mono fun e w' ⟨A',c',h1,h2,h3⟩=>⟨A',c',h1,h2.imp fun g _ hg=>aI hq'.size hg,bb hq' h3⟩
    have hne1:w2.heap.size≠wr.heap.size:=(by have:=eU.lt;omega);have hne2:=hne1.symm;have hlo:=uw.out.lt;have hlx:=uy.out.lt;have hoc:=uw.out.cell 2;simp at hoc;obtain⟨i0,hi0,hz0,hz1,hz2⟩:=info_parts JY;refine wp_region_noPanic ?_;refine wp_region_held_drew (S:=fun q=>q.cell? ⟨wr.heap.size,0,none⟩=some (.slice xA 1 xc)) (by kernel_rfl) (by(try dsimp only);go_keep) (fun hHeld=>?_);refine dO (i:=0) (v:=?_) rfl ⟨by rfl,?_⟩ ?_;rotate_left
    ·((intro q dS;(try dsimp only at dS);go_simp);with_reducible rfl)
    refine dO (i:=2) (v:=?_) rfl ⟨by rfl,?_⟩ ?_;rotate_left
    ·((intro q dS;(try dsimp only at dS);go_simp);with_reducible rfl)
    refine dO (i:=3) (v:=?_) rfl ⟨by rfl,?_⟩ ?_;rotate_left
    ·((intro q dS;(try dsimp only at dS);go_simp);with_reducible rfl)
    refine dO (i:=4) (v:=?_) rfl ⟨by rfl,?_⟩ ?_;rotate_left
    ·((intro q dS;(try dsimp only at dS);go_simp);with_reducible rfl)
    refine wpAnyH_ready (rs:=[1,5]) (by kernel_rfl) (by simp) ?_;refine AllReadyH.cons rfl (fun K hK=>?_) ?_
    ·go_simp
     refine hK.out _ _ (by(try dsimp only);go_keep) (fun hHeld=>?_);clear hK K;refine wpAnyH_ready (rs:=[5]) (by kernel_rfl) (by simp) ?_;refine dP rfl fun K hK=>?_;go_simp;refine(IG.out _ (bd b0)).mono ?_;rintro e' W1 ⟨A1,c1,rfl,qj,hbW⟩;have hx1:=uy.out.below hbW uy.out.lt;have ho1:=uw.out.below hbW uw.out.lt;have hsW:=hbW.size;have r0':=ho1.cell 2;have e0':=hx1.cell 0;have Uo:=ho1.lt;have JK:=hx1.lt;simp at r0' e0';go_simp;refine hK.out _ _ (by(try dsimp only);go_keep) (fun hHeld=>?_);clear hK K;refine wpAnyH_ready (rs:=[6]) (by kernel_rfl) (by simp) ?_;refine dP rfl fun K hK=>?_;go_simp;refine hK.out _ _ (by(try dsimp only);go_keep) (fun hHeld=>?_);clear hK K;refine wpAnyH_ready (rs:=[7]) (by kernel_rfl) (by simp) ?_;refine dP rfl fun K hK=>?_
     refine step_append_lies _ (by rfl) _ _ _ (by rfl) (w2.heap.size+1) 134 i0 _ 2 32 underlying26 hi0 hz0 hz1 hz2 rfl (by omega) v 0 (gZ l) (by rfl) ((own_below oN.out hbW).alloc _) ⟨W1.heap.size,0,none⟩ 1 1 (encR ⟨[([97],[])],A1,c1,2⟩) (by rfl) (by rfl) (World.news_of_block (cs:=#[.slice A1 1 c1,.int .u64 2]) (t:=134) (fr:=(0,0)) (heap_alloc_new W1 _)) (by simp[encR,Value.oneCell']) (by omega) (by unfold maxLen;omega) (by omega) (by have:=qO.out.size;simp;omega) (W1.heap.size+1) (by simp) ?_;intro g cap3 w3 hown3 hg3 iF hlt3;have hx3:=(hx1.more (.cells #[.slice A1 1 c1,.int .u64 2] 134)).step hg3 (by intro e;have:=rU.out _ e.symm;omega);have ho3:=(ho1.more (.cells #[.slice A1 1 c1,.int .u64 2] 134)).step hg3 (by intro e;have:=(oN.out.lt _ e.symm).1;omega);have p0:=hx3.cell 0;have q0:=ho3.cell 2;have q1:=ho3.free 2;simp at p0 q0
     refine hK.out _ _ (by(try dsimp only);go_keep) (fun hHeld=>?_);clear hK K;refine dO (i:=8) (v:=?_) rfl ⟨by rfl,?_⟩ ?_;rotate_left
     ·((intro q dS;(try dsimp only at dS);go_simp);with_reducible rfl)
     refine wpAnyH_ready (rs:=[9]) (by kernel_rfl) (by simp) ?_;refine dP rfl fun K hK=>?_;go_simp;refine hK.out _ _ (by(try dsimp only);go_keep) (fun hHeld=>?_);clear hK K;refine wpAnyH_done (by kernel_rfl) ?_ _;refine NoPanic.normal ?_;have HN:Hid (zu w2 1 (w3.setCell ⟨w2.heap.size,2,none⟩ (.slice (some ⟨g,0,none⟩) 1 cap3))):=Gn (by rw[List.map_append,hlm];rfl) ho3 hown3 hg3 iF hbW yG.out qj rU.out zK.out oN.out qO.out hlo;clear hx3 ho3 p0 q0 q1 hown3 hg3 iF hlt3 qj hbW hx1 ho1 r0' e0';go_wp2_with fail;go_roundg (2 - 1)
     case measure=>omega
     case rel=>exact⟨1,by omega,by omega,by go_num,fun h=>aJ h (by decide),fun _=>⟨_,_,rfl⟩,HN⟩
    refine dP rfl fun K hK=>?_;go_simp;refine(IG.out _ (bd b0)).mono ?_;rintro e' W1 ⟨A1,c1,rfl,qj,hbW⟩;have hx1:=uy.out.below hbW uy.out.lt;have ho1:=uw.out.below hbW uw.out.lt;have hsW:=hbW.size;have r0':=ho1.cell 2;have e0':=hx1.cell 0;have Uo:=ho1.lt;have JK:=hx1.lt;simp at r0' e0';go_simp;refine hK.out _ _ (by(try dsimp only);go_keep) (fun hHeld=>?_);clear hK K;refine wpAnyH_ready (rs:=[1,6]) (by kernel_rfl) (by simp) ?_;refine AllReadyH.cons rfl (fun K hK=>?_) ?_
    ·go_simp
     refine hK.out _ _ (by(try dsimp only);go_keep) (fun hHeld=>?_);clear hK K;refine wpAnyH_ready (rs:=[6]) (by kernel_rfl) (by simp) ?_;refine dP rfl fun K hK=>?_;go_simp;refine hK.out _ _ (by(try dsimp only);go_keep) (fun hHeld=>?_);clear hK K;refine wpAnyH_ready (rs:=[7]) (by kernel_rfl) (by simp) ?_;refine dP rfl fun K hK=>?_
     refine step_append_lies _ (by rfl) _ _ _ (by rfl) (w2.heap.size+1) 134 i0 _ 2 32 underlying26 hi0 hz0 hz1 hz2 rfl (by omega) v 0 (gZ l) (by rfl) ((own_below oN.out hbW).alloc _) ⟨W1.heap.size,0,none⟩ 1 1 (encR ⟨[([97],[])],A1,c1,2⟩) (by rfl) (by rfl) (World.news_of_block (cs:=#[.slice A1 1 c1,.int .u64 2]) (t:=134) (fr:=(0,0)) (heap_alloc_new W1 _)) (by simp[encR,Value.oneCell']) (by omega) (by unfold maxLen;omega) (by omega) (by have:=qO.out.size;simp;omega) (W1.heap.size+1) (by simp) ?_;intro g cap3 w3 hown3 hg3 iF hlt3;have hx3:=(hx1.more (.cells #[.slice A1 1 c1,.int .u64 2] 134)).step hg3 (by intro e;have:=rU.out _ e.symm;omega);have ho3:=(ho1.more (.cells #[.slice A1 1 c1,.int .u64 2] 134)).step hg3 (by intro e;have:=(oN.out.lt _ e.symm).1;omega);have p0:=hx3.cell 0;have q0:=ho3.cell 2;have q1:=ho3.free 2;simp at p0 q0
     refine hK.out _ _ (by(try dsimp only);go_keep) (fun hHeld=>?_);clear hK K;refine dO (i:=8) (v:=?_) rfl ⟨by rfl,?_⟩ ?_;rotate_left
     ·((intro q dS;(try dsimp only at dS);go_simp);with_reducible rfl)
     refine wpAnyH_ready (rs:=[9]) (by kernel_rfl) (by simp) ?_;refine dP rfl fun K hK=>?_;go_simp;refine hK.out _ _ (by(try dsimp only);go_keep) (fun hHeld=>?_);clear hK K;refine wpAnyH_done (by kernel_rfl) ?_ _;refine NoPanic.normal ?_;have HN:Hid (zu w2 1 (w3.setCell ⟨w2.heap.size,2,none⟩ (.slice (some ⟨g,0,none⟩) 1 cap3))):=Gn (by rw[List.map_append,hlm];rfl) ho3 hown3 hg3 iF hbW yG.out qj rU.out zK.out oN.out qO.out hlo;clear hx3 ho3 p0 q0 q1 hown3 hg3 iF hlt3 qj hbW hx1 ho1 r0' e0';go_wp2_with fail;go_roundg (2 - 1)
     case measure=>omega
     case rel=>exact⟨1,by omega,by omega,by go_num,fun h=>aJ h (by decide),fun _=>⟨_,_,rfl⟩,HN⟩
    refine dP rfl fun K hK=>?_;go_simp;refine hK.out _ _ (by(try dsimp only);go_keep) (fun hHeld=>?_);clear hK K;refine wpAnyH_ready (rs:=[1]) (by kernel_rfl) (by simp) ?_;refine dP rfl fun K hK=>?_;go_simp;refine hK.out _ _ (by(try dsimp only);go_keep) (fun hHeld=>?_);clear hK K;refine wpAnyH_ready (rs:=[7]) (by kernel_rfl) (by simp) ?_;refine dP rfl fun K hK=>?_
    refine step_append_lies _ (by rfl) _ _ _ (by rfl) (w2.heap.size+1) 134 i0 _ 2 32 underlying26 hi0 hz0 hz1 hz2 rfl (by omega) v 0 (gZ l) (by rfl) ((own_below oN.out hbW).alloc _) ⟨W1.heap.size,0,none⟩ 1 1 (encR ⟨[([97],[])],A1,c1,2⟩) (by rfl) (by rfl) (World.news_of_block (cs:=#[.slice A1 1 c1,.int .u64 2]) (t:=134) (fr:=(0,0)) (heap_alloc_new W1 _)) (by simp[encR,Value.oneCell']) (by omega) (by unfold maxLen;omega) (by omega) (by have:=qO.out.size;simp;omega) (W1.heap.size+1) (by simp) ?_;intro g cap3 w3 hown3 hg3 iF hlt3;have hx3:=(hx1.more (.cells #[.slice A1 1 c1,.int .u64 2] 134)).step hg3 (by intro e;have:=rU.out _ e.symm;omega);have ho3:=(ho1.more (.cells #[.slice A1 1 c1,.int .u64 2] 134)).step hg3 (by intro e;have:=(oN.out.lt _ e.symm).1;omega);have p0:=hx3.cell 0;have q0:=ho3.cell 2;have q1:=ho3.free 2;simp at p0 q0
    refine hK.out _ _ (by(try dsimp only);go_keep) (fun hHeld=>?_);clear hK K;refine dO (i:=8) (v:=?_) rfl ⟨by rfl,?_⟩ ?_;rotate_left
    ·((intro q dS;(try dsimp only at dS);go_simp);with_reducible rfl)
    refine wpAnyH_ready (rs:=[9]) (by kernel_rfl) (by simp) ?_;refine dP rfl fun K hK=>?_;go_simp;refine hK.out _ _ (by(try dsimp only);go_keep) (fun hHeld=>?_);clear hK K;refine wpAnyH_done (by kernel_rfl) ?_ _;refine NoPanic.normal ?_;have HN:Hid (zu w2 1 (w3.setCell ⟨w2.heap.size,2,none⟩ (.slice (some ⟨g,0,none⟩) 1 cap3))):=Gn (by rw[List.map_append,hlm];rfl) ho3 hown3 hg3 iF hbW yG.out qj rU.out zK.out oN.out qO.out hlo;clear hx3 ho3 p0 q0 q1 hown3 hg3 iF hlt3 qj hbW hx1 ho1 r0' e0';go_wp2_with fail;go_roundg (2 - 1)
    case measure=>omega
    case rel=>exact⟨1,by omega,by omega,by go_num,fun h=>aJ h (by decide),fun _=>⟨_,_,rfl⟩,HN⟩
   obtain rfl:k=1:=(by omega);obtain⟨B',c3,hlv⟩:=hl1 (by decide);subst hlv;simp only[List.getElem_cons_succ,dN,Nat.one_mul,hye]at c0 c1;subst iL;have hxm:=dU.made wr 134 #[.slice yA 1 yc,.int .u64 2];have hbx:=ba (a:=wr) b0 (.cells #[.slice yA 1 yc,.int .u64 2] 134);clear a0 a1 b0' b1' Qv HL2 Iw HS H0;have UO:=(hro y (by simp)).2.rd.below (bb hbw hbx);simp only[hye]at UO;go_wp2_with fail;go_quiet(fail);go_wp2_with fail;have hq:Below (wr.alloc (.cells #[.slice yA 1 yc,.int .u64 2] 134)).heap.size (wr.alloc (.cells #[.slice yA 1 yc,.int .u64 2] 134)) ((wr.alloc (.cells #[.slice yA 1 yc,.int .u64 2] 134)).drewN nq):=PM.below_drewN b0 nq;have hbq:=bb hbx hq;have uy:=ah (hxm.below hq hxm.lt);have uw:=ah (eU.below hbq eU.lt);have oN:=ah (own_below hown hbq);have qO:=ah (hbel.trans (hbq.mono hbel.size))
   have yG:Hid (∀r∈l,gJ ((wr.alloc (.cells #[.slice yA 1 yc,.int .u64 2] 134)).drewN nq) (fun q=>w2.heap.size+1≤q∧v.ownBlock≠some q) r):=fun r hr=>(Oq r hr).below hbq;have zK:Hid (wr.heap.size+1≤((wr.alloc (.cells #[.slice yA 1 yc,.int .u64 2] 134)).drewN nq).heap.size):=by
    have:=uy.out.lt;exact this
   have rU:Hid (∀q,v.ownBlock=some q→q<wr.heap.size):=fun q e=>(hown.lt q e).2;have OD:=UO.below hq;have hne1:w2.heap.size≠wr.heap.size:=(by have:=eU.lt;omega);clear hbx hxm UO hq hbq eU;generalize(wr.alloc (.cells #[.slice yA 1 yc,.int .u64 2] 134)).drewN nq=wq at uy uw oN qO yG zK OD⊢;have IG:Hid (∀q,Below wq.heap.size wq q→Calls prog 248 #[.slice yA 1 yc,.int .u64 2] q fun e w'=>∃A' c',e=.returned (.agg #[.slice A' 1 c',.int .u64 2])∧gJ w' (wq.heap.size≤·) ⟨[([98],[])],A',c',2⟩∧Below wq.heap.size wq w'):=fun q hq'=>
    (Zw (n:=2) (l:=[([98],[])]) (OD.below hq') (by simp) (by simp)).mono fun e w' ⟨A',c',h1,h2,h3⟩=>⟨A',c',h1,h2.imp fun g _ hg=>aI hq'.size hg,bb hq' h3⟩
   have hlo:=uw.out.lt;have hlx:=uy.out.lt;have hne2:=hne1.symm;have hoc:=uw.out.cell 2;simp at hoc;have hxq:wq.cell? ⟨wr.heap.size,0,none⟩=some (.slice yA 1 yc):=uy.out.cell 0;obtain⟨i0,hi0,hz0,hz1,hz2⟩:=info_parts JY;refine wp_region_noPanic ?_;refine wp_region_held_drew (S:=fun q=>q.cell? ⟨wr.heap.size,0,none⟩=some (.slice yA 1 yc)) (by kernel_rfl) (by(try dsimp only);go_keep) (fun hHeld=>?_);refine dO (i:=0) (v:=?_) rfl ⟨by rfl,?_⟩ ?_;rotate_left
   ·((intro q dS;(try dsimp only at dS);go_simp);with_reducible rfl)
   refine dO (i:=2) (v:=?_) rfl ⟨by rfl,?_⟩ ?_;rotate_left
   ·((intro q dS;(try dsimp only at dS);go_simp);with_reducible rfl)
   refine dO (i:=3) (v:=?_) rfl ⟨by rfl,?_⟩ ?_;rotate_left
   ·((intro q dS;(try dsimp only at dS);go_simp);with_reducible rfl)
   refine dO (i:=4) (v:=?_) rfl ⟨by rfl,?_⟩ ?_;rotate_left
   ·((intro q dS;(try dsimp only at dS);go_simp);with_reducible rfl)
   refine wpAnyH_ready (rs:=[1,5]) (by kernel_rfl) (by simp) ?_;refine AllReadyH.cons rfl (fun K hK=>?_) ?_
   ·go_simp
    refine hK.out _ _ (by(try dsimp only);go_keep) (fun hHeld=>?_);clear hK K;refine wpAnyH_ready (rs:=[5]) (by kernel_rfl) (by simp) ?_;refine dP rfl fun K hK=>?_;go_simp;refine(IG.out _ (bd b0)).mono ?_;rintro e' W1 ⟨A1,c1,rfl,qj,hbW⟩;have hx1:=uy.out.below hbW uy.out.lt;have ho1:=uw.out.below hbW uw.out.lt;have hsW:=hbW.size;have r0':=ho1.cell 2;have e0':=hx1.cell 0;have Uo:=ho1.lt;have JK:=hx1.lt;simp at r0' e0';go_simp;refine hK.out _ _ (by(try dsimp only);go_keep) (fun hHeld=>?_);clear hK K;refine wpAnyH_ready (rs:=[6]) (by kernel_rfl) (by simp) ?_;refine dP rfl fun K hK=>?_;go_simp;refine hK.out _ _ (by(try dsimp only);go_keep) (fun hHeld=>?_);clear hK K;refine wpAnyH_ready (rs:=[7]) (by kernel_rfl) (by simp) ?_;refine dP rfl fun K hK=>?_
    refine step_append_lies _ (by rfl) _ _ _ (by rfl) (w2.heap.size+1) 134 i0 _ 2 32 underlying26 hi0 hz0 hz1 hz2 rfl (by omega) v 1 (gZ l) (by rfl) ((own_below oN.out hbW).alloc _) ⟨W1.heap.size,0,none⟩ 1 1 (encR ⟨[([98],[])],A1,c1,2⟩) (by rfl) (by rfl) (World.news_of_block (cs:=#[.slice A1 1 c1,.int .u64 2]) (t:=134) (fr:=(0,0)) (heap_alloc_new W1 _)) (by simp[encR,Value.oneCell']) (by omega) (by unfold maxLen;omega) (by omega) (by have:=qO.out.size;simp;omega) (W1.heap.size+1) (by simp) ?_;intro g cap3 w3 hown3 hg3 iF hlt3;have hx3:=(hx1.more (.cells #[.slice A1 1 c1,.int .u64 2] 134)).step hg3 (by intro e;have:=rU.out _ e.symm;omega);have ho3:=(ho1.more (.cells #[.slice A1 1 c1,.int .u64 2] 134)).step hg3 (by intro e;have:=(oN.out.lt _ e.symm).1;omega);have p0:=hx3.cell 0;have q0:=ho3.cell 2;have q1:=ho3.free 2;simp at p0 q0
    refine hK.out _ _ (by(try dsimp only);go_keep) (fun hHeld=>?_);clear hK K;refine dO (i:=8) (v:=?_) rfl ⟨by rfl,?_⟩ ?_;rotate_left
    ·((intro q dS;(try dsimp only at dS);go_simp);with_reducible rfl)
    refine wpAnyH_ready (rs:=[9]) (by kernel_rfl) (by simp) ?_;refine dP rfl fun K hK=>?_;go_simp;refine hK.out _ _ (by(try dsimp only);go_keep) (fun hHeld=>?_);clear hK K;refine wpAnyH_done (by kernel_rfl) ?_ _;refine NoPanic.normal ?_;have HN:Hid (zu w2 2 (w3.setCell ⟨w2.heap.size,2,none⟩ (.slice (some ⟨g,0,none⟩) 2 cap3))):=Gn (by rw[List.map_append,hlm];rfl) ho3 hown3 hg3 iF hbW yG.out qj rU.out zK.out oN.out qO.out hlo;clear hx3 ho3 p0 q0 q1 hown3 hg3 iF hlt3 qj hbW hx1 ho1 r0' e0';go_wp2_with fail;go_roundg (2 - 2)
    case measure=>omega
    case rel=>exact⟨2,by omega,by omega,by go_num,fun h=>aJ h (by decide),fun _=>⟨_,_,rfl⟩,HN⟩
   refine dP rfl fun K hK=>?_;go_simp;refine(IG.out _ (bd b0)).mono ?_;rintro e' W1 ⟨A1,c1,rfl,qj,hbW⟩;have hx1:=uy.out.below hbW uy.out.lt;have ho1:=uw.out.below hbW uw.out.lt;have hsW:=hbW.size;have r0':=ho1.cell 2;have e0':=hx1.cell 0;have Uo:=ho1.lt;have JK:=hx1.lt;simp at r0' e0';go_simp;refine hK.out _ _ (by(try dsimp only);go_keep) (fun hHeld=>?_);clear hK K;refine wpAnyH_ready (rs:=[1,6]) (by kernel_rfl) (by simp) ?_;refine AllReadyH.cons rfl (fun K hK=>?_) ?_
   ·go_simp
    refine hK.out _ _ (by(try dsimp only);go_keep) (fun hHeld=>?_);clear hK K;refine wpAnyH_ready (rs:=[6]) (by kernel_rfl) (by simp) ?_;refine dP rfl fun K hK=>?_;go_simp;refine hK.out _ _ (by(try dsimp only);go_keep) (fun hHeld=>?_);clear hK K;refine wpAnyH_ready (rs:=[7]) (by kernel_rfl) (by simp) ?_;refine dP rfl fun K hK=>?_
    refine step_append_lies _ (by rfl) _ _ _ (by rfl) (w2.heap.size+1) 134 i0 _ 2 32 underlying26 hi0 hz0 hz1 hz2 rfl (by omega) v 1 (gZ l) (by rfl) ((own_below oN.out hbW).alloc _) ⟨W1.heap.size,0,none⟩ 1 1 (encR ⟨[([98],[])],A1,c1,2⟩) (by rfl) (by rfl) (World.news_of_block (cs:=#[.slice A1 1 c1,.int .u64 2]) (t:=134) (fr:=(0,0)) (heap_alloc_new W1 _)) (by simp[encR,Value.oneCell']) (by omega) (by unfold maxLen;omega) (by omega) (by have:=qO.out.size;simp;omega) (W1.heap.size+1) (by simp) ?_;intro g cap3 w3 hown3 hg3 iF hlt3;have hx3:=(hx1.more (.cells #[.slice A1 1 c1,.int .u64 2] 134)).step hg3 (by intro e;have:=rU.out _ e.symm;omega);have ho3:=(ho1.more (.cells #[.slice A1 1 c1,.int .u64 2] 134)).step hg3 (by intro e;have:=(oN.out.lt _ e.symm).1;omega);have p0:=hx3.cell 0;have q0:=ho3.cell 2;have q1:=ho3.free 2;simp at p0 q0
    refine hK.out _ _ (by(try dsimp only);go_keep) (fun hHeld=>?_);clear hK K;refine dO (i:=8) (v:=?_) rfl ⟨by rfl,?_⟩ ?_;rotate_left
    ·((intro q dS;(try dsimp only at dS);go_simp);with_reducible rfl)
    refine wpAnyH_ready (rs:=[9]) (by kernel_rfl) (by simp) ?_;refine dP rfl fun K hK=>?_;go_simp;refine hK.out _ _ (by(try dsimp only);go_keep) (fun hHeld=>?_);clear hK K;refine wpAnyH_done (by kernel_rfl) ?_ _;refine NoPanic.normal ?_;have HN:Hid (zu w2 2 (w3.setCell ⟨w2.heap.size,2,none⟩ (.slice (some ⟨g,0,none⟩) 2 cap3))):=Gn (by rw[List.map_append,hlm];rfl) ho3 hown3 hg3 iF hbW yG.out qj rU.out zK.out oN.out qO.out hlo;clear hx3 ho3 p0 q0 q1 hown3 hg3 iF hlt3 qj hbW hx1 ho1 r0' e0';go_wp2_with fail;go_roundg (2 - 2)
    case measure=>omega
    case rel=>exact⟨2,by omega,by omega,by go_num,fun h=>aJ h (by decide),fun _=>⟨_,_,rfl⟩,HN⟩
   refine dP rfl fun K hK=>?_;go_simp;refine hK.out _ _ (by(try dsimp only);go_keep) (fun hHeld=>?_);clear hK K;refine wpAnyH_ready (rs:=[1]) (by kernel_rfl) (by simp) ?_;refine dP rfl fun K hK=>?_;go_simp;refine hK.out _ _ (by(try dsimp only);go_keep) (fun hHeld=>?_);clear hK K;refine wpAnyH_ready (rs:=[7]) (by kernel_rfl) (by simp) ?_;refine dP rfl fun K hK=>?_
   refine step_append_lies _ (by rfl) _ _ _ (by rfl) (w2.heap.size+1) 134 i0 _ 2 32 underlying26 hi0 hz0 hz1 hz2 rfl (by omega) v 1 (gZ l) (by rfl) ((own_below oN.out hbW).alloc _) ⟨W1.heap.size,0,none⟩ 1 1 (encR ⟨[([98],[])],A1,c1,2⟩) (by rfl) (by rfl) (World.news_of_block (cs:=#[.slice A1 1 c1,.int .u64 2]) (t:=134) (fr:=(0,0)) (heap_alloc_new W1 _)) (by simp[encR,Value.oneCell']) (by omega) (by unfold maxLen;omega) (by omega) (by have:=qO.out.size;simp;omega) (W1.heap.size+1) (by simp) ?_;intro g cap3 w3 hown3 hg3 iF hlt3;have hx3:=(hx1.more (.cells #[.slice A1 1 c1,.int .u64 2] 134)).step hg3 (by intro e;have:=rU.out _ e.symm;omega);have ho3:=(ho1.more (.cells #[.slice A1 1 c1,.int .u64 2] 134)).step hg3 (by intro e;have:=(oN.out.lt _ e.symm).1;omega);have p0:=hx3.cell 0;have q0:=ho3.cell 2;have q1:=ho3.free 2;simp at p0 q0
   refine hK.out _ _ (by(try dsimp only);go_keep) (fun hHeld=>?_);clear hK K;refine dO (i:=8) (v:=?_) rfl ⟨by rfl,?_⟩ ?_;rotate_left
   ·((intro q dS;(try dsimp only at dS);go_simp);with_reducible rfl)
   refine wpAnyH_ready (rs:=[9]) (by kernel_rfl) (by simp) ?_;refine dP rfl fun K hK=>?_;go_simp;refine hK.out _ _ (by(try dsimp only);go_keep) (fun hHeld=>?_);clear hK K;refine wpAnyH_done (by kernel_rfl) ?_ _;refine NoPanic.normal ?_;have HN:Hid (zu w2 2 (w3.setCell ⟨w2.heap.size,2,none⟩ (.slice (some ⟨g,0,none⟩) 2 cap3))):=Gn (by rw[List.map_append,hlm];rfl) ho3 hown3 hg3 iF hbW yG.out qj rU.out zK.out oN.out qO.out hlo;clear hx3 ho3 p0 q0 q1 hown3 hg3 iF hlt3 qj hbW hx1 ho1 r0' e0';go_wp2_with fail;go_roundg (2 - 2)
   case measure=>omega
   case rel=>exact⟨2,by omega,by omega,by go_num,fun h=>aJ h (by decide),fun _=>⟨_,_,rfl⟩,HN⟩
  obtain rfl:k=2:=by omega
  obtain⟨A',c',rfl,hrd,hcap,hbk⟩:=Rd.own hown;have o0:=eU.cell 0;have o1:=eU.cell 1;have o2:=eU.cell 2;have hlo:=eU.lt;simp at o0 o1 o2;clear a0 a1 b0' b1';have hl3:=Iw.out.below hbel Iw.out.lt;have f0:=hl3.free 0;have f1:=hl3.free 1;have f2:=hl3.free 2;have d0:=hl3.cell 0;have d1:=hl3.cell 1;have d2:=hl3.cell 2;have hll:=hl3.lt;simp at d0 d1 d2;have HE:Hid (∀w',dX (fun j=>j=w.heap.size+1+1) wr w'→l7 w.heap.size w' (.slice A' 2 c') [([([97],[])],2),([([98],[])],2)]∧Below w.heap.size w w'):=fun w' ht=>by
   have hl2:l.length=2:=by
    have:=congrArg List.length hlm;simpa using this
   refine⟨⟨l,A',c',by rw[hl2],by rw[hlm];rfl,?_,fun r hr=>?_,by omega,fun b off e=>?_⟩,hbw.trans (ht.iI hbw.size fun g hg e=>by omega)⟩
   ·refine hrd.fE ht fun b off e e2=>?_
    have:=(hbk b off e).2;omega
   ·refine((Oq r hr).fE ht fun g hg e=>by have:=hg.1;omega).imp fun g _ hg=>by have:=hg.1;omega
   have:=(hbk b off e).2;omega
  clear Qv HL2 Iw HS H0 Oq hown hrd hbk eU hl3;go_wp2_with fail;refine bodyPost_ret (v:=.tuple #[.agg #[.int .u64 1,.int .u64 2,.slice A' 2 c'],.int .i64 0]) (by simp[results,results242,go_sem,d0,d1,d2];try rfl) rfl ⟨A',c',1,2,rfl,HE.out _ ?_⟩;exact(((dX.refl (fun j=>j=w.heap.size+1+1) wr).put (p:=⟨w.heap.size+1+1,0,none⟩) (fun _=>rfl) _).put (p:=⟨w.heap.size+1+1,1,none⟩) (fun _=>rfl) _).put (p:=⟨w.heap.size+1+1,2,none⟩) (fun _=>rfl) _
theorem Zm(k:List UInt8):nV none k=0:=rfl
theorem agY(a:UInt8)(n:Nat)(ha:jE [a]=true)(hn:n≠0):jv dV [([([a],[])],n)]=0:=by
 unfold jv;rw[ay (by simp),kW,ay (by rw[Gs a n ha hn];decide),ay (by rw[Zm];decide)];rfl
theorem agZ:jv dV [([([97],[])],3),([([98],[])],2)]=0:=by
 unfold jv;rw[ay (by simp),kW,ay (by rw[Gs 97 3 Nr (by decide)];decide),ay (by rw[Zm];decide),kW,ay (by rw[Gs 98 2 Z8 (by decide)];decide),ay (by rw[yT,yT];decide)];rfl
theorem aeZ(w:World)(hT:Tabs w) :
 Calls prog 241 #[] w (aj w (.bool true)):=by
 have hx0:=dU.made w 132 #[.string ⟨#[97]⟩,.string ⟨#[]⟩]
 have hb0:=ba (a:=w) b0 (.cells #[.string ⟨#[97]⟩,.string ⟨#[]⟩] 132)
 obtain⟨wa,vP⟩:∃wa,wa=w.alloc (.cells #[.string ⟨#[97]⟩,.string ⟨#[]⟩] 132):=⟨_,rfl⟩
 have hsa:wa.heap.size=w.heap.size+1:=by rw[vP];simp
 rw[← vP]at hx0 hb0
 have hx1:=dU.made wa 132 #[.string ⟨#[98]⟩,.string ⟨#[]⟩]
 have hb1:=ba hb0 (.cells #[.string ⟨#[98]⟩,.string ⟨#[]⟩] 132)
 have Ez:=hx0.more (.cells #[.string ⟨#[98]⟩,.string ⟨#[]⟩] 132)
 obtain⟨wb,hwb⟩:∃wb,wb=wa.alloc (.cells #[.string ⟨#[98]⟩,.string ⟨#[]⟩] 132):=⟨_,rfl⟩
 have hsb:wb.heap.size=w.heap.size+1+1:=by rw[hwb];simp[hsa]
 rw[← hwb]at hx1 hb1 Ez
 rw[hsa]at hx1
 have hx2:=dU.made wb 134 #[.slice (some ⟨w.heap.size,0,none⟩) 1 1,.int .u64 1]
 have hb2:=ba hb1 (.cells #[.slice (some ⟨w.heap.size,0,none⟩) 1 1,.int .u64 1] 134)
 have EC:=Ez.more (.cells #[.slice (some ⟨w.heap.size,0,none⟩) 1 1,.int .u64 1] 134)
 have ED:=hx1.more (.cells #[.slice (some ⟨w.heap.size,0,none⟩) 1 1,.int .u64 1] 134)
 obtain⟨wc,hwc⟩:∃wc,wc=wb.alloc (.cells #[.slice (some ⟨w.heap.size,0,none⟩) 1 1,.int .u64 1] 134):=⟨_,rfl⟩
 have hsc:wc.heap.size=w.heap.size+1+1+1:=by rw[hwc];simp[hsb]
 rw[← hwc]at hx2 hb2 EC ED
 rw[hsb]at hx2
 have hx3:=dU.made wc 134 #[.slice (some ⟨w.heap.size,0,none⟩) 1 1,.int .u64 3,.slice (some ⟨w.heap.size+1,0,none⟩) 1 1,.int .u64 2]
 have hb3:=ba hb2 (.cells #[.slice (some ⟨w.heap.size,0,none⟩) 1 1,.int .u64 3,.slice (some ⟨w.heap.size+1,0,none⟩) 1 1,.int .u64 2] 134)
 have OB:=EC.more (.cells #[.slice (some ⟨w.heap.size,0,none⟩) 1 1,.int .u64 3,.slice (some ⟨w.heap.size+1,0,none⟩) 1 1,.int .u64 2] 134)
 have UJ:=ED.more (.cells #[.slice (some ⟨w.heap.size,0,none⟩) 1 1,.int .u64 3,.slice (some ⟨w.heap.size+1,0,none⟩) 1 1,.int .u64 2] 134)
 have OC:=hx2.more (.cells #[.slice (some ⟨w.heap.size,0,none⟩) 1 1,.int .u64 3,.slice (some ⟨w.heap.size+1,0,none⟩) 1 1,.int .u64 2] 134)
 obtain⟨wd,hwd⟩:∃wd,wd=wc.alloc (.cells #[.slice (some ⟨w.heap.size,0,none⟩) 1 1,.int .u64 3,.slice (some ⟨w.heap.size+1,0,none⟩) 1 1,.int .u64 2] 134):=⟨_,rfl⟩
 rw[← hwd]at hx3 hb3 OB UJ OC
 rw[hsc]at hx3
 have hA:Rd wd (some ⟨w.heap.size+1+1+1,0,none⟩) (gZ [⟨[([97],[])],some ⟨w.heap.size,0,none⟩,1,3⟩,⟨[([98],[])],some ⟨w.heap.size+1,0,none⟩,1,2⟩]):=by
  refine .inr ⟨_,0,rfl,hx3.lt,fun j u hj=>?_⟩;rw[aX,hx3.cell j,List.getElem?_toArray];exact hj
 have hB:Rd wd (some ⟨w.heap.size+1+1,0,none⟩) (gZ [⟨[([97],[])],some ⟨w.heap.size,0,none⟩,1,1⟩]):=by
  refine .inr ⟨_,0,rfl,OC.lt,fun j u hj=>?_⟩;rw[aX,OC.cell j,List.getElem?_toArray];exact hj
 have hro:∀r∈([⟨[([97],[])],some ⟨w.heap.size,0,none⟩,1,3⟩,⟨[([98],[])],some ⟨w.heap.size+1,0,none⟩,1,2⟩,⟨[([97],[])],some ⟨w.heap.size,0,none⟩,1,1⟩]:List Rv),gJ wd (fun _=>True) r:=fun r hr=>by
  simp only[bC,bW,or_false]at hr;rcases hr with rfl|rfl|rfl
  ·exact⟨au 1,(Ky OB).zi fun _ _ _=>trivial⟩
  ·exact⟨au 1,(Ky UJ).zi fun _ _ _=>trivial⟩
  exact⟨au 1,(Ky OB).zi fun _ _ _=>trivial⟩
 have hz:∀r∈([⟨[([97],[])],some ⟨w.heap.size,0,none⟩,1,3⟩,⟨[([98],[])],some ⟨w.heap.size+1,0,none⟩,1,2⟩,⟨[([97],[])],some ⟨w.heap.size,0,none⟩,1,1⟩]:List Rv),lg r.d∧r.d.length≤9223372036854775807:=fun r hr=>by
  simp only[bC,bW,or_false]at hr;rcases hr with rfl|rfl|rfl<;>exact⟨fun e he=>by simp only[bC,bW,or_false]at he;subst he;simp,by simp⟩
 have HO:=ah (af8 _ _ _ _ _ 2 1 1 1 _ _ _ wd (hT.below hb3) rfl rfl rfl hA hB hro hz agZ (agY 97 1 Nr (by decide)))
 have HB3:=ah hb3
 have HA:Hid (∀x:World,Below w.heap.size w x→Calls prog 243 #[] x (aj x (.bool true))):=fun x hx=>afi x (hT.below hx)
 clear hA hB hro hz hx0 Ez EC OB hx1 ED UJ hx2 OC hx3 hb0 hb1 hb2 hb3 hT hsa hsb hsc
 subst hwd hwc hwb vP
 go_enter func241,ntmps241
 go_wp2_with fail
 refine HO.out.mono ?_
 rintro e w3 ⟨A',c2,bb0,ZI,rfl,⟨l,A,c,hs,hl,hrl,hol,hlc,hfr⟩,hb4⟩
 obtain⟨r0,r1,rfl⟩:∃r0 r1,l=[r0,r1]:=ab2 (by have:=congrArg List.length hl;rw[aY]at this;exact this.symm)
 have hn0:r0.n=2:=by simp only[dK,List.cons.injEq]at hl;have:=congrArg Prod.snd hl.1;simpa[Rv.rw]using this.symm
 have hn1:r1.n=2:=by simp only[dK,List.cons.injEq]at hl;have:=congrArg Prod.snd hl.2.1;simpa[Rv.rw]using this.symm
 injection hs with e1 _ e3
 subst e1 e3
 have HB4:=ah (bb HB3.out hb4)
 have hbd:=ba (a:=w3) b0 (.cells #[.int .u64 bb0,.int .u64 ZI,.slice A' 2 c2] 321)
 have HX:=ah (dU.made w3 321 #[.int .u64 bb0,.int .u64 ZI,.slice A' 2 c2])
 have mZ:=ah (hrl.below hbd)
 have wY:=ah (bb HB4.out hbd)
 clear hl hol hlc hfr hb4 hrl HO HB3 hbd
 go_wp2_with fail
 refine(HA.out _ wY.out).mono ?_
 rintro e w4 ⟨rfl,hb5⟩
 have rX:=mZ.out.below hb5
 have hx4:=HX.out.below hb5 HX.out.lt
 have d2:=hx4.cell 2
 have hlx:=hx4.lt
 simp at d2
 obtain⟨b,off,hA,hbl,_,c1⟩:=rX.row (k:=0) (by simp)
 obtain⟨b',off',hA',_,_,c3⟩:=rX.row (k:=1) (by simp)
 rw[hA]at hA'
 injection hA' with hA'
 injection hA' with e1 e2
 subst e1 e2 hA
 simp only[dN,List.getElem_cons_succ,hn0,hn1,Nat.zero_mul,Nat.one_mul,Nat.add_zero]at c1 c3
 have iE:=ah (bb wY.out hb5)
 clear hb5 rX mZ HA HB4 wY hn0 hn1 hx4 HX
 go_wp2_with fail
 go_ret
 exact⟨rfl,iE.out⟩
theorem afj(w:World)(hT:Tabs w):Calls prog 238 #[] w (aj w (.bool true)):=by
 have H:=ah (aeZ w hT);clear hT;go_enter func238,ntmps238;go_wp2_with fail;refine H.out.mono ?_;rintro e w' ⟨rfl,hb⟩;go_wp2;go_ret;exact⟨rfl,hb⟩
theorem ae0(w:World)(hT:Tabs w) :
 Calls prog 237 #[] w (aj w (.bool true)):=by
 have H:=ah (afj w hT)
 have DF:Hid (∀x:World,Calls prog 41 #[.int .i64 7,.int .i64 2] x fun e w'=>∃A c,e=.returned (.slice A 1 c)∧Rd w' A (mY [1])∧1≤c∧Below x.heap.size x w'):=fun x=>adp 7 2 x (by decide) (by decide) (by decide) (by decide)
 have Dn:Hid (∀x:World,Calls prog 240 #[.int .i64 7] x (aj x (.string ⟨#[65,99,107]⟩))):=fun x=>ajH 7 x (by unfold iK;decide)
 clear hT
 have hs:(ByteArray.mk #[65,99,107]).toList=[65,99,107]:=by rw[ByteArray.toList_eq]
 go_enter func237,ntmps237
 go_wp2_with fail
 refine H.out.mono ?_
 rintro e w1 ⟨rfl,hb1⟩
 have HB1:=ah hb1
 clear hb1 H
 go_wp2_with fail
 refine(DF.out _).mono ?_
 rintro e w2 ⟨A,c,rfl,hrd,hc,hb2⟩
 have HB2:=ah (bb HB1.out hb2)
 have hx:=dU.made w2 22 #[.int .u64 1]
 have hbx:=ba (a:=w2) b0 (.cells #[.int .u64 1] 22)
 have hr2:Rd (w2.alloc (.cells #[.int .u64 1] 22)) (some ⟨w2.heap.size,0,none⟩) (mY [1]):=by
  refine .inr ⟨_,0,rfl,hx.lt,fun j u hj=>?_⟩;rw[aX,hx.cell j,List.getElem?_toArray];exact hj
 have yx:=ah (ZW A _ c 1 [1] _ (hrd.below hbx) hr2 (by decide))
 have iy:=ah (bb HB2.out hbx)
 clear hrd hc hb2 hx hbx hr2
 go_wp2_with fail
 refine yx.out.mono ?_
 rintro e w3 ⟨rfl,hb3⟩
 have HB3:=ah (bb iy.out hb3)
 clear hb3 yx
 go_wp2_with fail
 refine(Dn.out _).mono ?_
 rintro e w4 ⟨rfl,hb4⟩
 have HB4:=ah (bb HB3.out hb4)
 clear hb4
 go_wp2_with fail
 go_ret
 exact⟨rfl,HB4.out⟩
theorem afk(w:World)(hT:Tabs w):Calls prog 236 #[] w (aj w (.bool true)):=by
 have H:=ah (ae0 w hT);clear hT;go_enter func236,ntmps236;go_wp2_with fail;refine H.out.mono ?_;rintro e w' ⟨rfl,hb⟩;go_wp2;go_ret;exact⟨rfl,hb⟩
