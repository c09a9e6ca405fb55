/-
  Parts of the proof. Conditions: as each names.
-/
import Derived.Test.YtgidfnhfgiehjaaGreatDoorYbd
import Derived.Test.YtgidfnhfgiehjaaGreatDoorYbb
namespace Go.Proofs.YtgidfnhfgiehjaaGreatDoor
open Go.PM Go.RowKit Go.Proofs.Tryz
set_option maxRecDepth 100000
set_option maxHeartbeats 4000000
attribute [local go_sem ↓] Go.wp_at_zero Go.wp_at_succ
def aoa:Value:=.agg #[.slice none 0 0,.int .u64 0,.string ⟨#[]⟩]
theorem aiH:(prog.info? 333).map (fun i=>(i.zero,i.size,i.bytes))=some (some aoa,3,48):=by kernel_rfl
def IX(w:World)(l:List Rv)(k:Nat)(wr:World):Prop:=∃v,dU wr w.heap.size 331 #[v]∧wr.ownsRow (w.heap.size+1) 333 3 v k ((l.take k).flatMap lH)∧Below w.heap.size w wr
theorem acU(w:World)(r:Rv)(A:Option Addr)(h:r.A=A):Rd (w.alloc (.cells #[.slice A r.d.length r.c,.int .u64 (r.n:Int)] 134)) (some ⟨w.heap.size,0,none⟩) (gZ [r]):=by
 subst h;refine .inr ⟨_,_,rfl,by simp,fun j u hj=>?_⟩;have hy:=World.news_of_block (cs:=#[.slice r.A r.d.length r.c,.int .u64 (r.n:Int)]) (t:=134) (fr:=(0,0)) (heap_alloc_new w (.cells #[.slice r.A r.d.length r.c,.int .u64 (r.n:Int)] 134)) j u hj
 rwa [rV,← aX j]at hy
theorem aj9(A:Option Addr)(c:Nat)(l:List Rv)(x y:Rv)(I:Nat→Prop)(w:World)(hxy:l=[x,y])(hr:Rd w A (gZ l))(ho:∀r∈l,gJ w I r)(hz:∀r∈l,lg r.d∧r.d.length≤9223372036854775807)(hc:∀r∈l,kJ dV r.rw=0)(hT:Tabs w)
 (hlt:EI y x=true) (hnk:((txt (eG x.d)).toList==(txt (eG y.d)).toList)=false) :
 Calls prog 258 #[.slice A l.length c] w fun e w'=>∃v,e=.returned (.tuple #[v,.int .i64 0])∧l7 w.heap.size w' v [y.rw,x.rw]∧Below w.heap.size w w':=by
 obtain⟨i0,hi0,hz0,hz1,hz2⟩:=info_parts aiH
 have h2:l.length=2:=by rw[hxy];rfl
 have h256:¬(256:Int)<(l.length:Int):=by omega
 have eU:=ba (a:=w) b0 (.cells #[.slice none 0 0] 331)
 have H0:Hid (IX w l 0 (w.alloc (.cells #[.slice none 0 0] 331))):=⟨_,dU.made w 331 #[.slice none 0 0],World.ownsRow_nil _ _ _ _,eU⟩
 have HR:=ah hr
 have HO:=ah ho
 have HZ:=ah hz
 have HT:=ah hT
 have jw:=ah hc
 have Rj:=ah hxy
 have HL2:=ah h2
 clear hr ho hz hc hT eU hxy h2
 go_enter func258,ntmps258
 go_wp2_with fail
 go_loopg [16] l.length (fun gk ki wr=>∃k:Nat,k≤l.length∧l.length - k≤gk∧ki=.int .i64 (k:Int)∧Hid (IX w l k wr))
 case atStart=>exact⟨0,aW _,by omega,rfl,H0⟩
 case round=>
  obtain⟨k,hk,hgk,rfl,HS⟩:=hrel;obtain⟨v,hRv,hown,hbel⟩:=HS.out;by_cases hlt2:k<l.length
  ·obtain⟨b,off,rfl,hblt,c0,c1⟩:=(HR.out.below hbel).row hlt2
   obtain⟨z0,z1⟩:=HZ.out _ (aS hlt2);have hck:=jw.out _ (aS hlt2);have hro:=(HO.out _ (aS hlt2)).below hbel;have htk:l.take (k+1)=l.take k++[l[k]]:=(aT hlt2).symm;generalize l[k]=r at *;have JQ:=(uH (Hu hck)).1;have eU:=ba (a:=wr) b0 (.cells #[.slice r.A r.d.length r.c,.int .u64 (r.n:Int)] 134);have Qh:=ah (ac2 r I _ (hro.below eU) z0 z1 (HT.out.below (bb hbel eU)));rw[hck]at Qh;have HX:=ah (dU.made wr 134 #[.slice r.A r.d.length r.c,.int .u64 (r.n:Int)]);have II:=ah (hRv.more (.cells #[.slice r.A r.d.length r.c,.int .u64 (r.n:Int)] 134));have HOWN:=ah (own_below hown eU);have lq:=ah (bb hbel eU);have qX:=ah (hro.2.rd.below eU);have jZ:=ah htk;have HOL:=ah hown;have nR:=ah hbel.size;have mZ:=ah hRv.lt
   clear hRv hown hbel hro htk eU HS H0 hck z0 z1;go_wp2_with fail;refine Qh.out.mono ?_;rintro e w2 ⟨rfl,hb2⟩;have hB2:=bb lq.out hb2;have hx2:=HX.out.below hb2 HX.out.lt;have hr2:=II.out.below hb2 II.out.lt;have hown2:=own_below HOWN.out hb2;have BP:=qX.out.below hb2;have hsz2:=hb2.size;rw[World.size_alloc]at hsz2;clear Qh HX II HOWN lq qX hb2 c0 c1;go_wp2_with fail;have r0:=hr2.cell 0;have e0:=hx2.cell 0;have e1:=hx2.cell 1;simp at r0 e0 e1;have qp:Hid (∀q:World,Below w2.heap.size w2 q→Calls prog 76 #[.slice r.A r.d.length r.c] q (aj q (.string (txt (eG r.d))))):=fun q hq=>zf r.A r.c r.d q (BP.below hq) JQ;have kC:=ah hx2;have HR2:=ah hr2;have yD:=ah hown2;have HB2:=ah hB2;have hRv:=hB2.size;clear hx2 hr2 hown2 BP hB2 JQ;have hbW:Below w2.heap.size w2 w2:=b0;have hlR:=HR2.out.lt
   have air:w.heap.size≠wr.heap.size:=(by have:=mZ.out;omega);have aoN:=air.symm;clear hbW;refine wp_region_held_drew (S:=(fun q=>q.cell? ⟨wr.heap.size,0,none⟩=some (.slice r.A r.d.length r.c)∧q.cell? ⟨wr.heap.size,1,none⟩=some (.int .u64 (r.n:Int)))) (by kernel_rfl) (by(try dsimp only);go_keep) (fun hHeld=>?_);refine dO (i:=1) (v:=?_) rfl ⟨by rfl,?_⟩ ?_;rotate_left
   ·((intro q dS;(try dsimp only at dS);go_simp);with_reducible rfl)
   refine dO (i:=2) (v:=?_) rfl ⟨by rfl,?_⟩ ?_;rotate_left
   ·((intro q dS;(try dsimp only at dS);go_simp);with_reducible rfl)
   refine dO (i:=3) (v:=?_) rfl ⟨by rfl,?_⟩ ?_;rotate_left
   ·((intro q dS;(try dsimp only at dS);go_simp);with_reducible rfl)
   refine wpAnyH_ready (rs:=[0,4]) (by kernel_rfl) (by simp) ?_;refine AllReadyH.cons rfl (fun K hK=>?_) ?_
   ·go_simp
    refine hK.out _ _ (by(try dsimp only);go_keep) (fun hHeld=>?_);clear hK K;refine wpAnyH_ready (rs:=[4]) (by kernel_rfl) (by simp) ?_;refine dP rfl fun K hK=>?_;go_simp;refine(qp.out _ (bd b0)).mono ?_;rintro e' W1 ⟨rfl,hb1'⟩;have hbW:Below w2.heap.size w2 W1:=bb (bd b0) hb1';have hx1:=kC.out.below hbW kC.out.lt;have hr1:=HR2.out.below hbW HR2.out.lt;have hsW:=hbW.size;have r0':=hr1.cell 0;have e0':=hx1.cell 0;have e1':=hx1.cell 1;have ain:=hr1.lt;have JK:=hx1.lt;simp at r0' e0' e1';go_simp;refine hK.out _ _ (by(try dsimp only);go_keep) (fun hHeld=>?_);clear hK K;refine dO (i:=5) (v:=?_) rfl ⟨by rfl,?_⟩ ?_;rotate_left
    ·((intro q dS;(try dsimp only at dS);go_simp);with_reducible rfl)
    refine wpAnyH_ready (rs:=[6]) (by kernel_rfl) (by simp) ?_;refine dP rfl fun K hK=>?_;go_simp;refine hK.out _ _ (by(try dsimp only);go_keep) (fun hHeld=>?_);clear hK K;refine wpAnyH_ready (rs:=[7]) (by kernel_rfl) (by simp) ?_;refine dP rfl fun K hK=>?_;refine step_append_lies _ (by rfl) _ _ _ (by rfl) (w.heap.size+1) 333 i0 _ 3 48 underlying331 hi0 hz0 hz1 hz2 rfl (by omega) v k ((l.take k).flatMap lH) (by rfl) ((own_below yD.out hbW).alloc _) ⟨W1.heap.size,0,none⟩ 1 1 (lH r) (by rfl) (by rfl) (World.news_of_block (cs:=#[.slice r.A r.d.length r.c,.int .u64 (r.n:Int),.string (txt (eG r.d))]) (t:=333) (fr:=(0,0)) (heap_alloc_new W1 _)) (by simp[lH,Value.oneCell']) (by omega) (by unfold maxLen;omega) (by omega) (by have:=hbW.size;simp;omega) (W1.heap.size+1) (by simp) ?_
    intro g cap3 w3 hown3 hg3 iF hlt3;have hx3:=(hx1.more (.cells #[.slice r.A r.d.length r.c,.int .u64 (r.n:Int),.string (txt (eG r.d))] 333)).step hg3 (by intro e;have:=(HOL.out.lt _ e.symm).2;omega);have hr3:=(hr1.more (.cells #[.slice r.A r.d.length r.c,.int .u64 (r.n:Int),.string (txt (eG r.d))] 333)).step hg3 (by intro e;have:=(HOL.out.lt _ e.symm).1;omega);have p0:=hx3.cell 0;have p1:=hx3.cell 1;have q0:=hr3.cell 0;have q1:=hr3.free 0;simp at p0 p1 q0;refine hK.out _ _ (by(try dsimp only);go_keep) (fun hHeld=>?_);clear hK K;refine wpAnyH_ready (rs:=[8]) (by kernel_rfl) (by simp) ?_;refine dP rfl fun K hK=>?_;go_simp;refine hK.out _ _ (by(try dsimp only);go_keep) (fun hHeld=>?_);clear hK K;refine wpAnyH_done (by kernel_rfl) ?_ _;have HN:Hid (IX w l (k+1) (w3.setCell ⟨w.heap.size,0,none⟩ (.slice (some ⟨g,0,none⟩) (k+1) cap3))):=by
     refine⟨_,hr3.put 0 _,?_,?_⟩
     ·rw[jZ.out,List.flatMap_append]
      refine tK (S:=fun q=>q=w.heap.size) (xs:=(l.take k).flatMap lH++[r].flatMap lH) (by simpa using hown3) ((dX.refl (fun q=>q=w.heap.size) w3).put (p:=⟨w.heap.size,0,none⟩) (fun _=>rfl) _) fun q hq e=>?_;have:=(hown3.lt q hq).1;omega
     have h1:=HB2.out.trans (hbW.mono hRv);have h2:=ba h1 (.cells #[.slice r.A r.d.length r.c,.int .u64 (r.n:Int),.string (txt (eG r.d))] 333);exact(h2.grown hg3 h2.size fun q hq=>by have:=(HOL.out.lt q hq).1;omega).setCell (p:=⟨w.heap.size,0,none⟩) (au _) _
    clear hr3 hx3 p0 p1 q0 q1 hown3 hg3 iF hlt3 hbW hr1 hx1 r0' e0' e1' r0 e0 e1 kC HR2 yD HB2 qp jZ;go_wp2_with fail;go_roundg (l.length - (k+1))
    case measure=>omega
    case rel=>exact⟨k+1,by omega,au _,by go_num,HN⟩
   refine dP rfl fun K hK=>?_;go_simp;refine(qp.out _ (bd b0)).mono ?_;rintro e' W1 ⟨rfl,hb1'⟩;have hbW:Below w2.heap.size w2 W1:=bb (bd b0) hb1';have hx1:=kC.out.below hbW kC.out.lt;have hr1:=HR2.out.below hbW HR2.out.lt;have hsW:=hbW.size;have r0':=hr1.cell 0;have e0':=hx1.cell 0;have e1':=hx1.cell 1;have ain:=hr1.lt;have JK:=hx1.lt;simp at r0' e0' e1';go_simp;refine hK.out _ _ (by(try dsimp only);go_keep) (fun hHeld=>?_);clear hK K;refine dO (i:=5) (v:=?_) rfl ⟨by rfl,?_⟩ ?_;rotate_left
   ·((intro q dS;(try dsimp only at dS);go_simp);with_reducible rfl)
   refine wpAnyH_ready (rs:=[0,6]) (by kernel_rfl) (by simp) ?_;refine AllReadyH.cons rfl (fun K hK=>?_) ?_
   ·go_simp
    refine hK.out _ _ (by(try dsimp only);go_keep) (fun hHeld=>?_);clear hK K;refine wpAnyH_ready (rs:=[6]) (by kernel_rfl) (by simp) ?_;refine dP rfl fun K hK=>?_;go_simp;refine hK.out _ _ (by(try dsimp only);go_keep) (fun hHeld=>?_);clear hK K;refine wpAnyH_ready (rs:=[7]) (by kernel_rfl) (by simp) ?_;refine dP rfl fun K hK=>?_
    refine step_append_lies _ (by rfl) _ _ _ (by rfl) (w.heap.size+1) 333 i0 _ 3 48 underlying331 hi0 hz0 hz1 hz2 rfl (by omega) v k ((l.take k).flatMap lH) (by rfl) ((own_below yD.out hbW).alloc _) ⟨W1.heap.size,0,none⟩ 1 1 (lH r) (by rfl) (by rfl) (World.news_of_block (cs:=#[.slice r.A r.d.length r.c,.int .u64 (r.n:Int),.string (txt (eG r.d))]) (t:=333) (fr:=(0,0)) (heap_alloc_new W1 _)) (by simp[lH,Value.oneCell']) (by omega) (by unfold maxLen;omega) (by omega) (by have:=hbW.size;simp;omega) (W1.heap.size+1) (by simp) ?_;intro g cap3 w3 hown3 hg3 iF hlt3;have hx3:=(hx1.more (.cells #[.slice r.A r.d.length r.c,.int .u64 (r.n:Int),.string (txt (eG r.d))] 333)).step hg3 (by intro e;have:=(HOL.out.lt _ e.symm).2;omega)
    have hr3:=(hr1.more (.cells #[.slice r.A r.d.length r.c,.int .u64 (r.n:Int),.string (txt (eG r.d))] 333)).step hg3 (by intro e;have:=(HOL.out.lt _ e.symm).1;omega);have p0:=hx3.cell 0;have p1:=hx3.cell 1;have q0:=hr3.cell 0;have q1:=hr3.free 0;simp at p0 p1 q0;refine hK.out _ _ (by(try dsimp only);go_keep) (fun hHeld=>?_);clear hK K;refine wpAnyH_ready (rs:=[8]) (by kernel_rfl) (by simp) ?_;refine dP rfl fun K hK=>?_;go_simp;refine hK.out _ _ (by(try dsimp only);go_keep) (fun hHeld=>?_);clear hK K;refine wpAnyH_done (by kernel_rfl) ?_ _;have HN:Hid (IX w l (k+1) (w3.setCell ⟨w.heap.size,0,none⟩ (.slice (some ⟨g,0,none⟩) (k+1) cap3))):=by
     refine⟨_,hr3.put 0 _,?_,?_⟩
     ·rw[jZ.out,List.flatMap_append]
      refine tK (S:=fun q=>q=w.heap.size) (xs:=(l.take k).flatMap lH++[r].flatMap lH) (by simpa using hown3) ((dX.refl (fun q=>q=w.heap.size) w3).put (p:=⟨w.heap.size,0,none⟩) (fun _=>rfl) _) fun q hq e=>?_;have:=(hown3.lt q hq).1;omega
     have h1:=HB2.out.trans (hbW.mono hRv);have h2:=ba h1 (.cells #[.slice r.A r.d.length r.c,.int .u64 (r.n:Int),.string (txt (eG r.d))] 333);exact(h2.grown hg3 h2.size fun q hq=>by have:=(HOL.out.lt q hq).1;omega).setCell (p:=⟨w.heap.size,0,none⟩) (au _) _
    clear hr3 hx3 p0 p1 q0 q1 hown3 hg3 iF hlt3 hbW hr1 hx1 r0' e0' e1' r0 e0 e1 kC HR2 yD HB2 qp jZ;go_wp2_with fail;go_roundg (l.length - (k+1))
    case measure=>omega
    case rel=>exact⟨k+1,by omega,au _,by go_num,HN⟩
   refine dP rfl fun K hK=>?_;go_simp;refine hK.out _ _ (by(try dsimp only);go_keep) (fun hHeld=>?_);clear hK K;refine wpAnyH_ready (rs:=[0]) (by kernel_rfl) (by simp) ?_;refine dP rfl fun K hK=>?_;go_simp;refine hK.out _ _ (by(try dsimp only);go_keep) (fun hHeld=>?_);clear hK K;refine wpAnyH_ready (rs:=[7]) (by kernel_rfl) (by simp) ?_;refine dP rfl fun K hK=>?_
   refine step_append_lies _ (by rfl) _ _ _ (by rfl) (w.heap.size+1) 333 i0 _ 3 48 underlying331 hi0 hz0 hz1 hz2 rfl (by omega) v k ((l.take k).flatMap lH) (by rfl) ((own_below yD.out hbW).alloc _) ⟨W1.heap.size,0,none⟩ 1 1 (lH r) (by rfl) (by rfl) (World.news_of_block (cs:=#[.slice r.A r.d.length r.c,.int .u64 (r.n:Int),.string (txt (eG r.d))]) (t:=333) (fr:=(0,0)) (heap_alloc_new W1 _)) (by simp[lH,Value.oneCell']) (by omega) (by unfold maxLen;omega) (by omega) (by have:=hbW.size;simp;omega) (W1.heap.size+1) (by simp) ?_;intro g cap3 w3 hown3 hg3 iF hlt3;have hx3:=(hx1.more (.cells #[.slice r.A r.d.length r.c,.int .u64 (r.n:Int),.string (txt (eG r.d))] 333)).step hg3 (by intro e;have:=(HOL.out.lt _ e.symm).2;omega)
   have hr3:=(hr1.more (.cells #[.slice r.A r.d.length r.c,.int .u64 (r.n:Int),.string (txt (eG r.d))] 333)).step hg3 (by intro e;have:=(HOL.out.lt _ e.symm).1;omega);have p0:=hx3.cell 0;have p1:=hx3.cell 1;have q0:=hr3.cell 0;have q1:=hr3.free 0;simp at p0 p1 q0;refine hK.out _ _ (by(try dsimp only);go_keep) (fun hHeld=>?_);clear hK K;refine wpAnyH_ready (rs:=[8]) (by kernel_rfl) (by simp) ?_;refine dP rfl fun K hK=>?_;go_simp;refine hK.out _ _ (by(try dsimp only);go_keep) (fun hHeld=>?_);clear hK K;refine wpAnyH_done (by kernel_rfl) ?_ _;have HN:Hid (IX w l (k+1) (w3.setCell ⟨w.heap.size,0,none⟩ (.slice (some ⟨g,0,none⟩) (k+1) cap3))):=by
    refine⟨_,hr3.put 0 _,?_,?_⟩
    ·rw[jZ.out,List.flatMap_append]
     refine tK (S:=fun q=>q=w.heap.size) (xs:=(l.take k).flatMap lH++[r].flatMap lH) (by simpa using hown3) ((dX.refl (fun q=>q=w.heap.size) w3).put (p:=⟨w.heap.size,0,none⟩) (fun _=>rfl) _) fun q hq e=>?_;have:=(hown3.lt q hq).1;omega
    have h1:=HB2.out.trans (hbW.mono hRv);have h2:=ba h1 (.cells #[.slice r.A r.d.length r.c,.int .u64 (r.n:Int),.string (txt (eG r.d))] 333);exact(h2.grown hg3 h2.size fun q hq=>by have:=(HOL.out.lt q hq).1;omega).setCell (p:=⟨w.heap.size,0,none⟩) (au _) _
   clear hr3 hx3 p0 p1 q0 q1 hown3 hg3 iF hlt3 hbW hr1 hx1 r0' e0' e1' r0 e0 e1 kC HR2 yD HB2 qp jZ;go_wp2_with fail;go_roundg (l.length - (k+1))
   case measure=>omega
   case rel=>exact⟨k+1,by omega,au _,by go_num,HN⟩
  obtain rfl:k=l.length:=by omega
  rw[aU (au _),HL2.out,Rj.out]at hown;obtain⟨g,cap,hv,hgR⟩:∃g cap,v=.slice (some ⟨g,0,none⟩) 2 cap∧w.heap.size<g:=by
   rcases hown.2 with⟨_,h0⟩|⟨g,cap,cur,hv,hb,_⟩
   ·exact aJ h0 (by decide)
   exact⟨g,cap,hv,by omega⟩
  subst hv;have TS:wr.cell? ⟨w.heap.size,0,none⟩=some (.slice (some ⟨g,0,none⟩) 2 cap):=hRv.cell 0;have zJ:=ah (amN hown TS (by omega) hRv.lt hlt);have II:=ah hRv;have jd:=ah hbel;have hgw:g<wr.heap.size:=by
   rcases hown.2 with⟨h0,_⟩|⟨g',cap',cur,hv,hb,hg,_⟩
   ·cases h0
   injection hv with e1;injection e1 with e1;injection e1 with e1;subst e1;exact(bY.1 hg).1
  have hpart:∀r∈l,Rd w r.A (ents r.d)∧r.d≠[]∧r.d.length≤1000000:=fun r hr=>by
   obtain⟨h1,h2,h3⟩:=uH (Hu (jw.out r hr));exact⟨(HO.out r hr).2.rd,h3,aI h2 (by decide)⟩
  obtain⟨hx1,hx2,hx3⟩:=hpart x (by rw[Rj.out];simp);obtain⟨hy1',aiC,hy3⟩:=hpart y (by rw[Rj.out];simp);clear hpart hRv hown hbel HS H0 hlt HR HO HZ HT jw;obtain⟨i1,hi1,hy0,hy1,hy2⟩:=info_parts JY;go_wp2_with fail;refine zJ.out.mono ?_;rintro e w5 ⟨rfl,hown5,hg5⟩;have Om:=II.out.step hg5 (by intro e;injection e with e;omega);have r5:w5.cell? ⟨w.heap.size,0,none⟩=some (.slice (some ⟨g,0,none⟩) 2 cap):=Om.cell 0;obtain⟨w6,hmk,hown6,NZ⟩:=run_make_own (P:=prog) w5 w5.heap.size 26 134 i1 Fb 2 underlying26 hi1 hy0 hy1 .i64 .i64 2 (by rw[hy2];omega) (by unfold maxLen;omega) (au _);have hb5:Below w.heap.size w w5:=jd.out.trans (Bv hg5 (Nat.le_of_lt hgR) jd.out.size);have UA:=Om.step NZ (by simp);have r6:w6.cell? ⟨w.heap.size,0,none⟩=some (.slice (some ⟨g,0,none⟩) 2 cap):=UA.cell 0;have abp:=own_below hown5 (below_of_grown NZ)
  have hb6:=hb5.trans ((below_of_grown NZ).mono hb5.size);have hkd:Rd w6 (some ⟨g,0,none⟩) ([y,x].flatMap lH):=by
   obtain⟨A',c',h1,h2,_⟩:=Rd.own abp;injection h1 with h1 _ h3;rw[h1];exact h2
  have hc6:∀(j:Nat) (u:Value),([y,x].flatMap lH)[j]?=some u→w6.cell? ⟨g,j,none⟩=some u:=fun j u hj=>by
   rcases hkd with h|⟨b',off',e,_,hc⟩
   ·cases h
   injection e with e;injection e with e1 e2;subst e1 e2;have:=hc j u hj
   rwa [aX]at this
  have g0:=hc6 0 _ rfl;have g1:=hc6 1 _ rfl;have g2:=hc6 2 _ rfl;have aoM:Sem.run prog (Instr.makeSlice 26 (Value.int IntKind.i64 0) (Value.int IntKind.i64 2)) w5=Result.ok (Value.slice (some ⟨w5.heap.size,0,none⟩) 0 2) w6:=hmk;have YB:=ah (hy1'.below hb6);have Yx:=ah hx1;have hgl:g<w5.heap.size:=aQ hgw hg5.size;have aol:=Om.lt;have aoS:=NZ.size;have aoG:w5.heap.size<w6.heap.size:=(hown6.lt _ rfl).2;have XP:=ah hown6;have zI:=ah UA;have Xv:=ah hkd;have iE:=ah hb6;clear hmk hown6 UA hkd hb6 abp hown5 Om hb5 hc6 hx1 hy1';go_wp2_with fail;refine wp_loop_rounds 3 ?_;rw[rounds_succ];go_wp2_with fail;go_quiet(fail);go_wp2_with fail;have hq6:Below w6.heap.size w6 ((w6.alloc (.cells #[.slice y.A y.d.length y.c,.int .u64 (y.n:Int),.string (txt (eG y.d))] 333)).drewN nq):=PM.below_drewN (ba b0 _) nq
  refine(acS (YB.out.below hq6) hy3 aiC).mono ?_;rintro e w7 ⟨A7,c7,rfl,abw,hb7⟩;have NP:Below w6.heap.size w6 w7:=bb hq6 hb7;have hs7:=NP.size;obtain⟨A8,c8,w8,hrun8,abq,Oa,aaS⟩:=VB (l:=[]) (r:=⟨y.d,A7,c7,y.n⟩) (w:=w7.alloc (.cells #[.slice A7 y.d.length c7,.int .u64 (y.n:Int)] 134)) (g:=w7.heap.size) (d:=1) 26 26 134 i1 underlying26 hi1 hy0 hy1 hy2 ((own_below XP.out NP).alloc _) (acU w7 ⟨y.d,A7,c7,y.n⟩ A7 rfl) (by decide) (by simp;omega);have abx:gJ w7 (w6.heap.size≤·) ⟨y.d,A7,c7,y.n⟩:=abw.imp fun q _ hq=>by simp at hq;omega
  have NR:w6.grownBy w8 (some w5.heap.size):=jB (oH (ba NP (.cells #[.slice A7 y.d.length c7,.int .u64 (y.n:Int)] 134)) _) Oa fun q e hq=>by
   rw[← e];rfl
  have hr8:=zI.out.step NR (by intro e;injection e with e;omega);have hk8:=Xv.out.fE (S:=fun q=>q=w5.heap.size) (dX.grown NR fun q hq _=>by injection hq with hq;exact hq.symm) fun b off e=>by injection e with e;injection e with e1;omega
  have kN:Hid (Below w.heap.size w w8):=iE.out.trans (Bv NR (by have:=iE.out.size;omega) iE.out.size);have X3:Hid (gJ w8 (fun q=>w6.heap.size≤q∧q<w7.heap.size) ⟨y.d,A7,c7,y.n⟩):=by
   have h1:=abx.imp (J:=fun q=>w6.heap.size≤q∧q<w7.heap.size) fun q hq h=>⟨h,hq⟩;refine(h1.below (ba b0 (.cells #[.slice A7 y.d.length c7,.int .u64 (y.n:Int)] 134))).fE (S:=fun q=>q=w5.heap.size) (dX.grown Oa fun q hq _=>by injection hq with hq;exact hq.symm) fun q hq e=>?_;have:=hq.1;omega
  have hrunA:Sem.run prog (Builtin.append_ #[26,26] 26 #[.slice (some ⟨w5.heap.size,0,none⟩) 0 2,.slice (some ⟨w7.heap.size,0,none⟩) 1 1]) (w7.alloc (.cells #[.slice A7 y.d.length c7,.int .u64 (y.n:Int)] 134))=.ok (.slice A8 1 c8) w8:=hrun8;have hownA:w8.ownsRow w5.heap.size 134 2 (.slice A8 1 c8) 1 (gZ [⟨y.d,A7,c7,y.n⟩]):=abq;have aaT:(Value.slice A8 1 c8).ownBlock=some w5.heap.size∨(Value.slice A8 1 c8).ownBlock=some (w7.heap.size+1):=by
   rcases aaS with h|h
   ·left;exact h
   right;rw[World.size_alloc]at h;exact h
  have hs8:=Oa.size;rw[World.size_alloc]at hs8;have yF:=ah hrunA;have Iz:=ah hownA;have WG:=ah aaT;have yE:=ah hr8;have Xt:=ah hk8;clear hrun8 abq Oa aaS abw abx hb7 hq6 NP NR hr8 hk8 hrunA hownA aaT g0 g1 g2 r6 YB zI Xv iE XP;go_wp2_with(at_builtin;(refine wpList_append_run rfl _ _ _ _ rfl _ _ _ rfl rfl yF.out ?_));have hc8:∀(j:Nat) (u:Value),([y,x].flatMap lH)[j]?=some u→w8.cell? ⟨g,j,none⟩=some u:=fun j u hj=>by
   rcases Xt.out with h|⟨b',off',e,_,hc⟩
   ·cases h
   injection e with e;injection e with e1 e2;subst e1 e2;have:=hc j u hj
   rwa [aX]at this
  have g2:=hc8 2 _ rfl;have g3:=hc8 3 _ rfl;have g4:=hc8 4 _ rfl;have g5:=hc8 5 _ rfl;have r8:w8.cell? ⟨w.heap.size,0,none⟩=some (.slice (some ⟨g,0,none⟩) 2 cap):=yE.out.cell 0;have aoK:g<w8.heap.size:=by omega
  have aoI:w.heap.size<w8.heap.size:=by omega
  clear hc8;rw[rounds_succ];go_wp2_with fail;go_quiet(fail);go_wp2_with fail;have hq8:Below w8.heap.size w8 ((w8.alloc (.cells #[.slice x.A x.d.length x.c,.int .u64 (x.n:Int),.string (txt (eG x.d))] 333)).drewN nq):=PM.below_drewN (ba b0 _) nq;refine(acS (Yx.out.below (kN.out.trans (hq8.mono kN.out.size))) hx3 hx2).mono ?_;rintro e w9 ⟨A9,c9,rfl,abz,uK⟩;have GH:Below w8.heap.size w8 w9:=bb hq8 uK;have hs9:=GH.size;obtain⟨KO,c10,w10,hrun10,abo,JF,ahS⟩:=VB (l:=[⟨y.d,A7,c7,y.n⟩]) (r:=⟨x.d,A9,c9,x.n⟩) (w:=w9.alloc (.cells #[.slice A9 x.d.length c9,.int .u64 (x.n:Int)] 134)) (g:=w9.heap.size) (d:=1) (A:=A8) (c:=c8) 26 26 134 i1 underlying26 hi1 hy0 hy1 hy2 ((own_below Iz.out GH).alloc _) (acU w9 ⟨x.d,A9,c9,x.n⟩ A9 rfl) (by simp) (by simp;omega);have GU:=fun q (hq:(Value.slice A8 1 c8).ownBlock=some q)=>Iz.out.lt q hq
  have abA:gJ w10 (w.heap.size≤·) ⟨x.d,A9,c9,x.n⟩:=by
   have h1:=abz.imp (J:=fun q=>w8.heap.size≤q) fun q _ hq=>(by simp at hq;omega);refine((h1.below (ba b0 (.cells #[.slice A9 x.d.length c9,.int .u64 (x.n:Int)] 134))).fE (S:=fun q=>(Value.slice A8 1 c8).ownBlock=some q) (dX.grown JF fun q hq _=>hq) fun q hq e=>?_).imp fun q _ hq=>aI kN.out.size hq;have:=(GU q e).2;omega
  have aby:gJ w10 (w.heap.size≤·) ⟨y.d,A7,c7,y.n⟩:=by
   refine(((X3.out.below GH).below (ba b0 (.cells #[.slice A9 x.d.length c9,.int .u64 (x.n:Int)] 134))).fE (S:=fun q=>(Value.slice A8 1 c8).ownBlock=some q) (dX.grown JF fun q hq _=>hq) fun q hq e=>?_).imp fun q _ hq=>(by have:=hq.1;omega);rcases WG.out with h|h
   ·rw[h]at e
    injection e with e;have:=hq.1;omega
   rw[h]at e;injection e with e;have:=hq.2;omega
  have abC:Sem.run prog (Builtin.append_ #[26,26] 26 #[.slice A8 1 c8,.slice (some ⟨w9.heap.size,0,none⟩) 1 1]) (w9.alloc (.cells #[.slice A9 x.d.length c9,.int .u64 (x.n:Int)] 134))=.ok (.slice KO 2 c10) w10:=hrun10;have abr:w10.ownsRow w5.heap.size 134 2 (.slice KO 2 c10) 2 (gZ [⟨y.d,A7,c7,y.n⟩,⟨x.d,A9,c9,x.n⟩]):=abo;have aaP:Below w.heap.size w w10:=by
   have h1:=kN.out.trans (GH.mono kN.out.size);exact(ba h1 (.cells #[.slice A9 x.d.length c9,.int .u64 (x.n:Int)] 134)).grown JF (ba h1 (.cells #[.slice A9 x.d.length c9,.int .u64 (x.n:Int)] 134)).size fun q hq=>by have:=(GU q hq).1;omega
  have HE:Hid (l7 w.heap.size w10 (.slice KO 2 c10) [y.rw,x.rw]∧Below w.heap.size w w10):=by
   obtain⟨A',c',h1,h2,h3,h4⟩:=Rd.own abr;injection h1 with e1 _ e3;subst e1 e3;exact⟨⟨[⟨y.d,A7,c7,y.n⟩,⟨x.d,A9,c9,x.n⟩],KO,c10,rfl,rfl,h2,fun r hr=>by
    simp only[bC,bW,or_false]at hr;rcases hr with rfl|rfl
    ·exact aby
    ·exact abA,h3,fun b off e=>by have:=(h4 b off e).2;omega⟩,aaP⟩
  have aoH:=yE.out.lt;have HRB:=ah abC;have aoP:w10.cell? ⟨w.heap.size,0,none⟩=some (.slice (some ⟨g,0,none⟩) 2 cap):=(((yE.out.below GH yE.out.lt).more (.cells #[.slice A9 x.d.length c9,.int .u64 (x.n:Int)] 134)).step JF (by intro e;have:=(GU _ e.symm).1;omega)).cell 0;clear hrun10 abo JF ahS abz abA aby uK hq8 GH abC abr aaP GU g2 g3 g4 g5 r8 yF Iz WG yE Xt X3 kN Yx;go_wp2_with(at_builtin;(refine wpList_append_run rfl _ _ _ _ rfl _ _ _ rfl rfl HRB.out ?_));rw[rounds_succ];go_wp2_with fail;go_ret2;exact⟨_,rfl,HE.out.1,HE.out.2⟩
theorem agS(a:UInt8)(ha:jE [a]=true):dV [a] []=0:=by
 unfold dV jJ;rw[ha,ug];simp
theorem Gs(a:UInt8)(n:Nat)(ha:jE [a]=true)(hn:n≠0):kJ dV ([([a],[])],n)=0:=by
 have e1:=agS a ha;have e2:iZ dV [([a],[])]=0:=by
  unfold iZ;rw[ay (by show¬kR 1≠0;decide),mJ,ay (by rw[e1];decide),ay (by show¬(0:Int)≠0;decide)];rfl
 unfold kJ;rw[ay (by rw[e2];decide),ay hn]
theorem yT(a:UInt8):eG [([a],[])]=[1,1,a,0]:=by
 have e1:dY 1=[1]:=by rw[kL (by omega)];rfl
 have e0:dY 0=[0]:=by rw[kL (by omega)];rfl
 show dY 1++((dY 1++([a]++(dY 0++[])))++[])=_;rw[e1,e0];rfl
theorem Nr:jE [97]=true:=by rw[sG (by decide)];exact ug
theorem Z8:jE [98]=true:=by rw[sG (by decide)];exact ug
theorem aff(w:World)(hT:Tabs w):Calls prog 259 #[] w (aj w (.bool true)):=by
 have H:=ah (aeV w hT);clear hT;go_enter func259,ntmps259;go_wp2_with fail;refine H.out.mono ?_;rintro e w' ⟨rfl,hb⟩;go_wp2;go_ret;exact⟨rfl,hb⟩
theorem Ky{w:World}{b:Nat}{a:UInt8}(h:dU w b 132 #[.string ⟨#[a]⟩,.string ⟨#[]⟩]):Rd w (some ⟨b,0,none⟩) (ents [([a],[])]):=by
 refine .inr ⟨b,0,rfl,h.lt,fun j u hj=>?_⟩;rw[aX,h.cell j,List.getElem?_toArray];exact hj
theorem ab2{α:Type}:∀{l:List α},l.length=2→∃a b,l=[a,b]
 |[a,b],_=>⟨a,b,rfl⟩
 |[],h|[_],h|_::_::_::_,h=>by simp at h
theorem aja{α:Type}:∀{l:List α},l.length=1→∃a,l=[a]
 |[a],_=>⟨a,rfl⟩
 |[],h|_::_::_,h=>by simp at h
theorem aeW(w:World)(hT:Tabs w) :
 Calls prog 257 #[] w (aj w (.bool true)):=by
 have hx0:=dU.made w 132 #[.string ⟨#[97]⟩,.string ⟨#[]⟩]
 have hb0:=ba (a:=w) b0 (.cells #[.string ⟨#[97]⟩,.string ⟨#[]⟩] 132)
 obtain⟨wa,vP⟩:∃wa,wa=w.alloc (.cells #[.string ⟨#[97]⟩,.string ⟨#[]⟩] 132):=⟨_,rfl⟩
 have hsa:wa.heap.size=w.heap.size+1:=by rw[vP];simp
 rw[← vP]at hx0 hb0
 have hx1:=dU.made wa 132 #[.string ⟨#[98]⟩,.string ⟨#[]⟩]
 have hb1:=ba hb0 (.cells #[.string ⟨#[98]⟩,.string ⟨#[]⟩] 132)
 have Ez:=hx0.more (.cells #[.string ⟨#[98]⟩,.string ⟨#[]⟩] 132)
 obtain⟨wb,hwb⟩:∃wb,wb=wa.alloc (.cells #[.string ⟨#[98]⟩,.string ⟨#[]⟩] 132):=⟨_,rfl⟩
 have hsb:wb.heap.size=w.heap.size+2:=by rw[hwb];simp[hsa]
 rw[← hwb]at hx1 hb1 Ez
 rw[hsa]at hx1
 have hx2:=dU.made wb 134 #[.slice (some ⟨w.heap.size+1,0,none⟩) 1 1,.int .u64 2,.slice (some ⟨w.heap.size,0,none⟩) 1 1,.int .u64 1]
 have hb2:=ba hb1 (.cells #[.slice (some ⟨w.heap.size+1,0,none⟩) 1 1,.int .u64 2,.slice (some ⟨w.heap.size,0,none⟩) 1 1,.int .u64 1] 134)
 have EC:=Ez.more (.cells #[.slice (some ⟨w.heap.size+1,0,none⟩) 1 1,.int .u64 2,.slice (some ⟨w.heap.size,0,none⟩) 1 1,.int .u64 1] 134)
 have ED:=hx1.more (.cells #[.slice (some ⟨w.heap.size+1,0,none⟩) 1 1,.int .u64 2,.slice (some ⟨w.heap.size,0,none⟩) 1 1,.int .u64 1] 134)
 obtain⟨wc,hwc⟩:∃wc,wc=wb.alloc (.cells #[.slice (some ⟨w.heap.size+1,0,none⟩) 1 1,.int .u64 2,.slice (some ⟨w.heap.size,0,none⟩) 1 1,.int .u64 1] 134):=⟨_,rfl⟩
 rw[← hwc]at hx2 hb2 EC ED
 rw[hsb]at hx2
 have hrd:Rd wc (some ⟨w.heap.size+2,0,none⟩) (gZ [⟨[([98],[])],some ⟨w.heap.size+1,0,none⟩,1,2⟩,⟨[([97],[])],some ⟨w.heap.size,0,none⟩,1,1⟩]):=by
  refine .inr ⟨_,0,rfl,hx2.lt,fun j u hj=>?_⟩;rw[aX,hx2.cell j,List.getElem?_toArray];exact hj
 have hro:∀r∈([⟨[([98],[])],some ⟨w.heap.size+1,0,none⟩,1,2⟩,⟨[([97],[])],some ⟨w.heap.size,0,none⟩,1,1⟩]:List Rv),gJ wc (fun _=>True) r:=fun r hr=>by
  simp only[bC,bW,or_false]at hr;rcases hr with rfl|rfl
  ·exact⟨au 1,(Ky ED).zi fun _ _ _=>trivial⟩
  exact⟨au 1,(Ky EC).zi fun _ _ _=>trivial⟩
 have hz:∀r∈([⟨[([98],[])],some ⟨w.heap.size+1,0,none⟩,1,2⟩,⟨[([97],[])],some ⟨w.heap.size,0,none⟩,1,1⟩]:List Rv),lg r.d∧r.d.length≤9223372036854775807:=fun r hr=>by
  simp only[bC,bW,or_false]at hr;rcases hr with rfl|rfl
  ·exact⟨fun e he=>by simp only[bC,bW,or_false]at he;subst he;simp,by simp⟩
  exact⟨fun e he=>by simp only[bC,bW,or_false]at he;subst he;simp,by simp⟩
 have hck:∀r∈([⟨[([98],[])],some ⟨w.heap.size+1,0,none⟩,1,2⟩,⟨[([97],[])],some ⟨w.heap.size,0,none⟩,1,1⟩]:List Rv),kJ dV r.rw=0:=fun r hr=>by
  simp only[bC,bW,or_false]at hr;rcases hr with rfl|rfl
  ·exact Gs 98 2 Z8 (by decide)
  exact Gs 97 1 Nr (by decide)
 have hof:=aj9 (some ⟨w.heap.size+2,0,none⟩) 2 _ _ _ (fun _=>True) wc rfl hrd hro hz hck (hT.below hb2) (by
  unfold EI;rw[yT,yT,ByteArray.toList_eq,ByteArray.toList_eq];decide) (by
  rw[yT,yT,ByteArray.toList_eq,ByteArray.toList_eq];decide)
 have HO:=ah hof
 have HB2:=ah hb2
 have HA:Hid (∀x:World,Below w.heap.size w x→Calls prog 259 #[] x (aj x (.bool true))):=fun x hx=>aff x (hT.below hx)
 clear hof hrd hro hz hck hx0 Ez EC hx1 ED hx2 hb0 hb1 hb2 hT hsa hsb
 subst hwc hwb vP
 go_enter func257,ntmps257
 go_wp2_with fail
 refine HO.out.mono ?_
 rintro e w3 ⟨v,rfl,⟨l,A,c,rfl,hl,hrl,hol,hlc,hfr⟩,hb3⟩
 obtain⟨r0,r1,rfl⟩:∃r0 r1,l=[r0,r1]:=ab2 (by have:=congrArg List.length hl;rw[aY]at this;exact this.symm)
 have hn0:r0.n=1:=by simp only[dK,List.cons.injEq]at hl;have:=congrArg Prod.snd hl.1;simpa[Rv.rw]using this.symm
 have hn1:r1.n=2:=by simp only[dK,List.cons.injEq]at hl;have:=congrArg Prod.snd hl.2.1;simpa[Rv.rw]using this.symm
 have HB3:=ah (bb HB2.out hb3)
 have mZ:=ah hrl
 clear hl hol hlc hfr hb3 hrl HO HB2
 go_wp2_with fail
 refine(HA.out _ HB3.out).mono ?_
 rintro e w4 ⟨rfl,hb4⟩
 have rX:=mZ.out.below hb4
 obtain⟨b,off,hA,hbl,_,c1⟩:=rX.row (k:=0) (by simp)
 obtain⟨b',off',hA',_,_,c3⟩:=rX.row (k:=1) (by simp)
 rw[hA]at hA'
 injection hA' with hA'
 injection hA' with e1 e2
 subst e1 e2 hA
 simp only[dN,List.getElem_cons_succ,hn0,hn1,Nat.zero_mul,Nat.one_mul,Nat.add_zero]at c1 c3
 have HB4:=ah (bb HB3.out hb4)
 clear hb4 rX mZ HA HB3 hn0 hn1
 go_wp2_with fail
 go_ret
 exact⟨rfl,HB4.out⟩
theorem afg(w:World)(hT:Tabs w):Calls prog 256 #[] w (aj w (.bool true)):=by
 have H:=ah (aeW w hT);clear hT;go_enter func256,ntmps256;go_wp2_with fail;refine H.out.mono ?_;rintro e w' ⟨rfl,hb⟩;go_wp2;go_ret;exact⟨rfl,hb⟩
theorem aeX(w:World)(hT:Tabs w) :
 Calls prog 253 #[] w (aj w (.bool true)):=by
 have hx:=dU.made w 9 #[.string ⟨#[117,115,101,114]⟩,.string ⟨#[117,115,101,114,115]⟩]
 have hb0:=ba (a:=w) b0 (.cells #[.string ⟨#[117,115,101,114]⟩,.string ⟨#[117,115,101,114,115]⟩] 9)
 have HP:=ah (alc w.heap.size 2 _ hx.lt (hx.cell 0) (hx.cell 1))
 have HA:Hid (∀x:World,Below w.heap.size w x→Calls prog 256 #[] x (aj x (.bool true))):=fun x hx=>afg x (hT.below hx)
 have HB:=ah hb0
 clear hx hb0 hT
 go_enter func253,ntmps253
 go_wp2_with fail
 refine HP.out.mono ?_
 rintro e w1 ⟨rfl,hb1⟩
 have HB1:=ah (bb HB.out hb1)
 clear hb1
 go_wp2_with fail
 refine(HA.out _ HB1.out).mono ?_
 rintro e w2 ⟨rfl,hb2⟩
 have HB2:=ah (bb HB1.out hb2)
 clear hb2
 go_wp2_with fail
 go_ret
 exact⟨rfl,HB2.out⟩
theorem afh(w:World)(hT:Tabs w):Calls prog 251 #[] w (aj w (.bool true)):=by
 have H:=ah (aeX w hT);clear hT;go_enter func251,ntmps251;go_wp2_with fail;refine H.out.mono ?_;rintro e w' ⟨rfl,hb⟩;go_wp2;go_ret;exact⟨rfl,hb⟩
theorem agV:lQ [([([97],[])],5)]=[1,0,4,1,1,97,0,5]:=by
 have e0:dY 0=[0]:=by rw[kL (by omega)];rfl
 have e1:dY 1=[1]:=by rw[kL (by omega)];rfl
 have e4:dY 4=[4]:=by rw[kL (by omega)];rfl
 have e5:dY 5=[5]:=by rw[kL (by omega)];rfl
 have p:iw [] [1,1,97,0]=0:=by decide
 have e6:jS [] [([([97],[])],5)]=je [] (eG [([97],[])])++(dY 5++[]):=rfl;unfold lQ;rw[e6,yT];unfold je;rw[p];show dY 1++((dY 0++(dY 4++_))++(dY 5++[]))=_;rw[e0,e1,e4,e5];rfl
theorem agW:lN dV [1,0,4,1,1,97,0,5]=([([([97],[])],5)],0):=by
 rw[← agV];refine acH (chk:=dV) ?_ ?_
 ·have e1:=Gs 97 5 Nr (by decide)
  unfold jv;rw[ay (by decide),kW,ay (by rw[e1];decide),ay (by show¬(0:Int)≠0;decide)];rfl
 intro x hx;simp only[bC,bW,or_false]at hx;subst hx;refine⟨by decide,by rw[yT];decide,fun e he=>?_⟩;simp only[bC,bW,or_false]at he;subst he;decide
theorem agX:oV dV []=([0],0):=by
 have e0:dY 0=[0]:=by rw[kL (by omega)];rfl
 show(lQ [],(0:Int))=_;show(dY 0++[],(0:Int))=_;rw[e0];rfl
theorem aeY(w:World)(hT:Tabs w) :
 Calls prog 249 #[] w (aj w (.bool true)):=by
 have HP:Hid (Calls prog 90 #[.slice none 0 0] w (aj w (.tuple #[.string ⟨#[0]⟩,.int .i64 0]))):=by
  have:=acO none 0 [] (fun _=>True) w (.inl rfl) (by simp) (by simp) (by simp) (by simp) hT;rw[List.map_nil,agX]at this;exact this
 have HG:Hid (∀x:World,Below w.heap.size w x→Calls prog 143 #[.string ⟨#[1,0,4,1,1,97,0,5]⟩] x fun e w'=>∃v,e=.returned (.tuple #[v,.int .i64 0])∧l7 x.heap.size w' v [([([97],[])],5)]∧Below x.heap.size x w'):=fun x hx=>by
  have:=acG ⟨#[1,0,4,1,1,97,0,5]⟩ x (hT.below hx) (by decide);unfold DK at this;rw[show(ByteArray.mk #[1,0,4,1,1,97,0,5]).data.toList=[1,0,4,1,1,97,0,5]from rfl,agW]at this;exact this
 have HA:Hid (∀x:World,Below w.heap.size w x→Calls prog 251 #[] x (aj x (.bool true))):=fun x hx=>afh x (hT.below hx)
 clear hT
 go_enter func249,ntmps249
 go_wp2_with fail
 refine HP.out.mono ?_
 rintro e w1 ⟨rfl,hb1⟩
 have HB1:=ah hb1
 clear hb1
 go_wp2_with fail
 refine(HG.out _ HB1.out).mono ?_
 rintro e w3 ⟨v,rfl,⟨l,A,c,rfl,hl,hrl,hol,hlc,hfr⟩,hb3⟩
 obtain⟨r0,rfl⟩:=aja (l:=l) (by have:=congrArg List.length hl;rw[aY]at this;exact this.symm)
 have hn0:r0.n=5:=by simp only[dK,List.cons.injEq]at hl;have:=congrArg Prod.snd hl.1;simpa[Rv.rw]using this.symm
 have HB3:=ah (bb HB1.out hb3)
 have mZ:=ah hrl
 clear hl hol hlc hfr hb3 hrl HG HP
 go_wp2_with fail
 refine(HA.out _ HB3.out).mono ?_
 rintro e w4 ⟨rfl,hb4⟩
 have rX:=mZ.out.below hb4
 obtain⟨b,off,hA,hbl,_,c1⟩:=rX.row (k:=0) (by simp)
 subst hA
 simp only[dN,hn0,Nat.zero_mul,Nat.add_zero]at c1
 have HB4:=ah (bb HB3.out hb4)
 clear hb4 rX mZ HA HB3 hn0
 go_wp2_with fail
 go_ret
 exact⟨rfl,HB4.out⟩
theorem afi(w:World)(hT:Tabs w):Calls prog 243 #[] w (aj w (.bool true)):=by
 have H:=ah (aeY w hT);clear hT;go_enter func243,ntmps243;go_wp2_with fail;refine H.out.mono ?_;rintro e w' ⟨rfl,hb⟩;go_wp2;go_ret;exact⟨rfl,hb⟩
theorem Zw{w:World}{A:Option Addr}{c n:Nat}{l:List fD}(hr:Rd w A (ents l))(hl:l.length≤1000000)(h0:l≠[]) :
 Calls prog 248 #[.slice A l.length c,.int .u64 (n:Int)] w fun e w'=>∃A' c',e=.returned (.agg #[.slice A' l.length c',.int .u64 (n:Int)])∧gJ w' (w.heap.size≤·) ⟨l,A',c',n⟩∧Below w.heap.size w w':=by
 have hb1:=ba (a:=w) b0 (.cells #[.slice none 0 0,.int .u64 0] 134)
 have HY:=ah (dU.made w 134 #[.slice none 0 0,.int .u64 0])
 have HR:=ah (hr.below hb1)
 have HB:=ah hb1
 have hsz:w.heap.size+1=(w.alloc (.cells #[.slice none 0 0,.int .u64 0] 134)).heap.size:=by simp
 have HZ:=ah hsz
 clear hr hb1 hsz
 go_enter func248,ntmps248
 go_wp2_with fail
 refine(RP HR.out hl h0).mono ?_
 rintro e W1 ⟨A1,c1,rfl,hro,hb1'⟩
 have hbW:=hb1'
 generalize(w.alloc (.cells #[.slice none 0 0,.int .u64 0] 134))=wz at *
 have hy1:=HY.out.below hbW HY.out.lt
 have f0:=hy1.free 0
 have f1:=hy1.free 1
 have d0:=hy1.cell 0
 have d1:=hy1.cell 1
 have pO:=hy1.lt
 simp at d0 d1
 have HE:Hid (∀w',dX (fun j=>j=w.heap.size) W1 w'→gJ w' (w.heap.size≤·) ⟨l,A1,c1,n⟩∧Below w.heap.size w w'):=fun w' ht=>
  ⟨((show gJ W1 (wz.heap.size≤·) ⟨l,A1,c1,n⟩from hro).fE ht fun g hg e=>by have:=HZ.out;omega).imp fun g _ hg=>by have:=HZ.out;omega,(HB.out.trans (hbW.mono HB.out.size)).trans (ht.iI (by have:=hbW.size;have:=HZ.out;omega) fun g hg e=>by omega)⟩
 clear hro hb1' hbW HY HR
 go_wp2_with fail
 refine bodyPost_ret (v:=.agg #[.slice A1 l.length c1,.int .u64 (n:Int)]) (by simp[results,results248,go_sem,d0,d1];try rfl) rfl ⟨A1,c1,rfl,HE.out _ (zk _ _ _ _)⟩
theorem ac5(ep:Int)(A:Option Addr)(c:Nat)(l:List Rv)(I:Nat→Prop)(w:World)(hr:Rd w A (gZ l))(ho:∀r∈l,gJ w I r)(hz:∀r∈l,lg r.d∧r.d.length≤9223372036854775807)(hl:l.length≤9223372036854775807)(hT:Tabs w) :
 Calls prog 245 #[.agg #[.int .u64 ep,.slice A l.length c]] w (aj w (.int .i64 (jv dV (l.map Rv.rw)))):=by
 have eU:=ba (a:=w) b0 (.cells #[.int .u64 ep,.slice A l.length c] 325)
 have HC:=ah (V6 A c l I _ (hr.below eU) (fun r h=>(ho r h).below eU) hz hl (hT.below eU))
 have HB:=ah eU
 clear hr ho hz hT eU
 generalize jv dV (l.map Rv.rw)=E at *
 go_enter func245,ntmps245
 go_wp2_with fail
 refine HC.out.mono ?_
 rintro e w1 ⟨rfl,hb1⟩
 have HB1:=ah (bb HB.out hb1)
 clear hb1
 go_wp2_with fail
 go_ret
 exact⟨rfl,HB1.out⟩
theorem af7(b c0:Nat)(u v:Value)(w:World)(hb:b<w.heap.size)(h0:w.cell? ⟨b,0,none⟩=some (.func (.func 245) #[u] #[]))(h1:w.cell? ⟨b,1,none⟩=some (.func (.func 245) #[v] #[]))
 (hu:Calls prog 245 #[u] w (aj w (.int .i64 0))) (hv:∀x,Below w.heap.size w x→Calls prog 245 #[v] x (aj x (.int .i64 0))) :
 Calls prog 244 #[.slice (some ⟨b,0,none⟩) 2 c0] w (aj w (.int .i64 0)):=by
 have HU:=ah hu
 have HV:=ah hv
 clear hu hv
 go_enter func244,ntmps244
 go_wp2_with fail
 refine wp_loop_rounds 3 ?_
 rw[rounds_succ]
 go_wp2_with fail
 refine HU.out.mono ?_
 rintro e w1 ⟨rfl,hb1⟩
 have h1':=(hb1.cell (p:=⟨b,1,none⟩) hb).trans h1
 have HB1:=ah hb1
 clear hb1 h0 h1
 go_wp2_with fail
 rw[rounds_succ]
 go_wp2_with fail
 refine(HV.out _ HB1.out).mono ?_
 rintro e w2 ⟨rfl,hb2⟩
 have HB2:=ah (bb HB1.out hb2)
 clear hb2
 go_wp2_with fail
 rw[rounds_succ]
 go_wp2_with fail
 go_ret
 exact⟨rfl,HB2.out⟩
theorem aeJ(A B:Option Addr)(c c':Nat)(x y z:Rv)(w:World)(hA:Rd w A (gZ [x,y]))(hB:Rd w B (gZ [z]))(hx:Rd w x.A (ents x.d))(hz:Rd w z.A (ents z.d))(hmx:um x.d)(hd:x.d=z.d)(hn:z.n≤x.n)
 (hlt:Op.bytesLess (txt (eG z.d)).toList (txt (eG z.d)).toList=false) (hne:((txt (eG z.d)).toList != (txt (eG z.d)).toList)=false) :
 Calls prog 246 #[.slice A 2 c,.slice B 1 c'] w (aj w (.bool true)):=by
 obtain⟨ba',oa,rfl,hla,a0,a1⟩:=hA.row (k:=0) (by simp)
 obtain⟨bb',ob,rfl,hlb,b0',b1'⟩:=hB.row (k:=0) (by simp)
 obtain⟨xd,xA,xc,xn⟩:=x
 obtain⟨zd,zA,zc,zn⟩:=z
 simp only[dN,Nat.zero_mul,Nat.add_zero]at a0 a1 b0' b1'
 simp only at hx hz hmx hd hn hlt hne
 subst hd
 have eU:=ba (a:=w) b0 (.cells #[.slice zA xd.length zc,.int .u64 (zn:Int)] 134)
 have HX:=ah (dU.made w 134 #[.slice zA xd.length zc,.int .u64 (zn:Int)])
 have HKZ:Hid (∀q,Below w.heap.size w q→Calls prog 76 #[.slice zA xd.length zc] q (aj q (.string (txt (eG xd))))):=fun q hq=>zf zA zc xd q (hz.below hq) hmx
 have Xx:Hid (∀q,Below w.heap.size w q→Calls prog 76 #[.slice xA xd.length xc] q (aj q (.string (txt (eG xd))))):=fun q hq=>zf xA xc xd q (hx.below hq) hmx
 have HB:=ah eU
 have hnn:¬(xn:Int)<(zn:Int):=by omega
 have Qb:Hid (∀q,Below w.heap.size w q→q.cell? ⟨ba',oa,none⟩=some (.slice xA xd.length xc)∧q.cell? ⟨ba',oa+1,none⟩=some (.int .u64 (xn:Int))):=fun q hq=>⟨(hq.cell (p:=⟨ba',oa,none⟩) hla).trans a0,(hq.cell (p:=⟨ba',oa+1,none⟩) hla).trans a1⟩
 clear hA hB hx hz hmx eU hn
 generalize txt (eG xd)=K at *
 go_enter func246,ntmps246
 go_wp2_with fail
 refine wp_loop_rounds 2 ?_
 rw[rounds_succ]
 go_wp2_with fail
 refine(HKZ.out _ HB.out).mono ?_
 rintro e w1 ⟨rfl,hb1⟩
 have hx1:=HX.out.below hb1 HX.out.lt
 have HB1:=ah (bb HB.out hb1)
 obtain⟨p0,p1⟩:=Qb.out _ HB1.out
 clear hb1 a0 a1 b0' b1' HB
 have lW:=ah hx1
 clear hx1
 go_wp2_with fail
 refine wp_loop_rounds 1 ?_
 rw[rounds_succ]
 go_wp2_with fail
 refine(Xx.out _ HB1.out).mono ?_
 rintro e w2 ⟨rfl,hb2⟩
 have HB2:=ah (bb HB1.out hb2)
 have kC:=ah (lW.out.below hb2 lW.out.lt)
 clear hb2 p0 p1
 go_wp2_with fail
 have n0:∀n:fV w2,n.wld.cell? ⟨ba',oa,none⟩=some (.slice xA xd.length xc):=fun n=>(Qb.out _ (bb HB2.out n.bel)).1
 have n1:∀n:fV w2,n.wld.cell? ⟨ba',oa+1,none⟩=some (.int .u64 (xn:Int)):=fun n=>(Qb.out _ (bb HB2.out n.bel)).2
 have n2:∀n:fV w2,n.wld.cell? ⟨w.heap.size,1,none⟩=some (.int .u64 (zn:Int)):=fun n=>(kC.out.below n.bel kC.out.lt).cell 1
 have nU:Hid (∀n:fV w2,Calls prog 76 #[.slice xA xd.length xc] n.wld (aj n.wld (.string K))):=fun n=>Xx.out _ (bb HB2.out n.bel)
 refine kM (by kernel_rfl) (by kernel_rfl) ?_
 repeat(first|go_big_quiet_skip|(go_big_quiet_want;go_big_quiet_op;first|go_big_quiet_on|(apply Exists.intro;refine⟨fun nq=>?_,?_⟩;(go_at_call 76;exact jW (nU.out _));go_big_quiet_on)))
 refine wpQuiet_nil ?_
 intro wq hnq
 obtain⟨nq,rfl⟩:=hnq
 have hq:=nq.bel
 generalize nq.wld=wq at hq⊢
 clear nq
 go_wp2_with fail
 rw[rounds_succ]
 go_wp2_with fail
 go_ret
 exact⟨rfl,bb HB2.out hq⟩
