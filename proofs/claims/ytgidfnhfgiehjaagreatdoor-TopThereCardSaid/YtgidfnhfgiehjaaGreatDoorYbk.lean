/-
  Parts of the proof. Conditions: as each names.
-/
import Derived.Test.YtgidfnhfgiehjaaGreatDoorYbh
import Derived.Test.YtgidfnhfgiehjaaGreatDoorYbi
namespace Go.Proofs.YtgidfnhfgiehjaaGreatDoor
open Go.PM Go.RowKit Go.Proofs.Tryz
set_option maxRecDepth 100000
set_option maxHeartbeats 4000000
attribute [local go_sem ↓] Go.wp_at_zero Go.wp_at_succ
theorem afB(A:Option Addr)(c:Nat)(w:World):Calls prog 137 #[.slice A 0 c] w fun e w'=>∃A' c',e=.returned (.slice A' 0 c')∧Below w.heap.size w w':=by
 cases A with
 |none=>
   refine(AnyE.slices_Clone_nil cloneDsc 0 c w).mono ?_;rintro e w' ⟨rfl,rfl⟩;exact⟨none,0,rfl,b0⟩
 |some a=>
   obtain⟨i0,hi0,hz0,hz1,hz2⟩:=info_parts OG;have heq:∀(w:World) (a:Option Addr) (n c n' c':Nat),(binOp .eql 24 (.slice a n c) (.slice none n' c')).run prog w=.ok (.bool a.isNone) w:=fun w a n c n' c'=>Lib.run_eql_slice_nil w _ _ a n c n' c' underlying24;have hb:=ba (a:=w) b0 (.cells #[] 132);have HB:=ah hb;have HAP:=ah (append_empty (P:=prog) (w:=w.alloc (.cells #[] 132)) 24 24 132 i0 underlying24 hi0 (some ⟨w.heap.size,0,none⟩) (some a) 0 0 c (au 0));clear hb;go_enter func137,ntmps137;go_wp2_with(at_builtin;(refine wpList_append_run rfl _ _ _ _ rfl _ _ _ rfl rfl HAP.out ?_));go_ret;exact⟨_,_,rfl,HB.out⟩
theorem Y5{w:World}{A:Option Addr}{c:Nat}{l:List fD}(hr:Rd w A (ents l))(hl:l.length≤1000000) :
 Calls prog 137 #[.slice A l.length c] w fun e w'=>∃A' c',e=.returned (.slice A' l.length c')∧gJ w' (w.heap.size≤·) ⟨l,A',c',0⟩∧Below w.heap.size w w':=by
 by_cases h0:l=[]
 ·subst h0
  refine(afB A c w).mono ?_;rintro e w' ⟨A',c',rfl,hb⟩;exact⟨A',c',rfl,⟨aW _,.inl rfl⟩,hb⟩
 ·exact RP hr hl h0
def Wy(B:Nat)(wM:World)(l:List Rv)(j:Nat)(vv:Value)(wr:World):Prop:=∃l':List Rv,wr.ownsRow B 134 2 vv j (gZ l')∧l'.map Rv.rw=(l.map Rv.rw).take j∧(∀r∈l',gJ wr (fun q=>B≤q∧vv.ownBlock≠some q) r)∧Below B wM wr∧wM.heap.size≤wr.heap.size
def adX(w:World)(m:Mp)(e:Ending)(w':World):Prop:=∃dv tv rv,e=.returned (.agg (dR m dv tv rv))∧ni w.heap.size w' m dv tv rv∧Below w.heap.size w w'
def fF:Array Value:=#[.int .i64 0,.int .u64 0,.int .u64 0,.int .u64 0,.int .u64 0,.int .u64 0,.int .u64 0,.int .u64 0,.int .u64 0,.int .u64 0,.int .u64 0,.int .u64 0,.int .u64 0,.int .u64 0,.int .u64 0,.int .u64 0,.int .i64 0,.bool false,.string ⟨#[]⟩,.string ⟨#[]⟩,.string ⟨#[]⟩,.slice none 0 0,.slice none 0 0,.slice none 0 0]
theorem adW:fF=dR m0 (.slice none 0 0) (.slice none 0 0) (.slice none 0 0):=rfl
theorem AP:fF.all (·.oneCell')=true:=by simp[fF,Value.oneCell']
theorem sF{m:Mp}{A B C:Option Addr}{n1 n2 n3 c1 c2 c3:Nat}:(dR m (.slice A n1 c1) (.slice B n2 c2) (.slice C n3 c3)).all (·.oneCell')=true:=by simp[dR,Value.oneCell']
theorem ac6(b:Nat):∀(vs:List Value) (o:Nat) (w:World),(w.setCells b o vs).heap.size=w.heap.size
 |[],_,_=>rfl
 |v::r,o,w=>by
   rw[World.setCells,ac6 b r];simp[World.setCell]
theorem Pm(w:World)(b:Nat)(ds:Array Value):(World.jM w b ds).heap.size=w.heap.size:=ac6 b _ _ _
theorem pin{p:Prop}(h:id p):p:=h
theorem afA{I:Nat→Prop}{m:Mp}{dv tv rv:Value}(w:World)(hv:gU w I m dv tv rv)(hd:m.d.length≤1000000)(ht:∀r∈m.t,r.1.length≤1000000)(htl:m.t.length≤100000)(hr:m.rest.count≤1000000) :
 Calls prog 82 #[.agg (dR m dv tv rv)] w (adX w m):=by
 obtain⟨i1,hi1,hy0,hy1,hy2⟩:=info_parts JY
 have HV0:=ah hv
 obtain⟨dA,dc,tA,tc,rA,rc,rfl,rfl,rfl⟩:=hv.slices
 obtain⟨wz,hwz,hsz,HM,fC⟩:=lM w 35 (dR m (.slice dA m.d.length dc) (.slice tA m.t.length tc) (.slice rA m.rest.len rc))
 have HV:=ah (hv.below fC.out)
 clear hv
 simp only[dR]at hwz
 obtain⟨⟨uF,dc',e1,hdc,hdr⟩,⟨l,tA',vV,e2,hmt,htr,hto,htc⟩,hrs⟩:=HV0.out
 injection e1 with e1 _ e3
 subst e1 e3
 injection e2 with e1 e2 e3
 subst e1 e3
 have HDR:=ah hdr
 have HTR:=ah htr
 have HTO:=ah hto
 have Dw:=ah hrs
 have HMT:=ah hmt
 have AY:=ah e2
 have HTD:Hid (∀r∈l,r.d.length≤1000000):=fun r hr=>ht r.rw (by rw[hmt];exact List.mem_map_of_mem hr)
 clear hdr htr hto hrs hmt e2 ht hdc htc
 obtain⟨wZ,uP⟩:∃wZ,wZ=wz.alloc (.cells fF 35):=⟨_,rfl⟩
 have xC:Hid (dU wZ w.heap.size 35 (dR m (.slice dA m.d.length dc) (.slice tA m.t.length tc) (.slice rA m.rest.len rc))):=by rw[uP];exact HM.out.more _
 have HR0:Hid (dU wZ (w.heap.size+1) 35 fF):=by
  have:=dU.made wz 35 fF;rw[hsz]at this;rw[uP];exact this
 have HB0:Hid (Below w.heap.size w wZ):=by rw[uP];exact ba fC.out _
 have hsZ:wZ.heap.size=w.heap.size+2:=by rw[uP,World.size_alloc,hsz]
 have WY:=ah (Y5 (HDR.out.rd.below HB0.out) hd (c:=dc))
 simp only[fF]at uP
 unfold dR
 go_enter func82,ntmps82
 go_wp2_with fail
 rw[← hwz,← uP]
 refine WY.out.mono ?_
 rintro e w1 ⟨jP,jQ,rfl,qj,hb1⟩
 have hm1:=xC.out.below hb1 xC.out.lt
 have h21:=hm1.cell 21
 have f21:=hm1.free 21
 have h22:w1.cell? ⟨w.heap.size,22,none⟩=some (.slice tA m.t.length tc):=hm1.cell 22
 have hl1:=hm1.lt
 simp only[dR]at h21
 simp at h21
 have hss:(w1.setCell ⟨w.heap.size,21,none⟩ (.slice jP m.d.length jQ)).heap.size=w1.heap.size:=by simp[World.setCell]
 obtain⟨wM,hmk,hown,hgM⟩:=run_make_own (P:=prog) (w1.setCell ⟨w.heap.size,21,none⟩ (.slice jP m.d.length jQ)) w1.heap.size 26 134 i1 Fb 2 underlying26 hi1 hy0 hy1 .i64 .i64 m.t.length (by rw[hy2];omega) (by unfold maxLen;omega) (by rw[hss];exact au _)
 rw[hss]at hmk hown
 have HB1:=ah (HB0.out.trans (hb1.mono HB0.out.size))
 have gQ:=ah hm1
 have HR1:=ah (HR0.out.below hb1 HR0.out.lt)
 have XY:=ah qj
 have Dz:=hb1.size
 have NV:Below w1.heap.size (w1.setCell ⟨w.heap.size,21,none⟩ (.slice jP m.d.length jQ)) wM:=by
  have:=below_of_grown hgM;rw[hss]at this;exact this
 have QW:Hid (dX (fun j=>j=w.heap.size) w1 wM):=((dX.refl (fun j=>j=w.heap.size) w1).put (p:=⟨w.heap.size,21,none⟩) (fun _=>rfl) _).bel (by rw[hss];exact NV)
 have Oe:dU wM w.heap.size 35 (dR m (.slice jP m.d.length jQ) (.slice tA m.t.length tc) (.slice rA m.rest.len rc)) :=
  dU.below (hm1.put 21 (.slice jP m.d.length jQ)) NV hm1.lt
 have ahI:wM.cell? ⟨w.heap.size,22,none⟩=some (.slice tA m.t.length tc):=Oe.cell 22
 have hlM:=Oe.lt
 have jy:=ah Oe
 have LQ:Hid (w1.heap.size≤wM.heap.size):=(by have h:=NV.size;rw[hss]at h;exact h)
 have H0:Hid (Wy w1.heap.size wM l 0 (.slice (some ⟨w1.heap.size,0,none⟩) 0 m.t.length) wM):=⟨[],hown,rfl,by simp,Below.refl _ _,au _⟩
 clear hm1 hb1 qj WY hwz uP HM fC HV hown hgM NV Oe
 go_wp2_with fail
 clear hmk
 go_loopg [3,17] m.t.length (fun gk vv ki wr=>∃j:Nat,j≤m.t.length∧m.t.length - j≤gk∧ki=.int .i64 (j:Int)∧Hid (Wy w1.heap.size wM l j vv wr))
 case atStart=>exact⟨0,aW _,by omega,rfl,H0⟩
 case round=>
  obtain⟨j,hj,hgj,rfl,HS⟩:=hrel;obtain⟨l',hown,hlm,hro,hbel,hsw⟩:=HS.out;have ad1:Hid (Below w.heap.size w wM):=HB1.out.trans (QW.out.iI HB1.out.size fun g hg e=>by omega);have hbw:Below w.heap.size w wr:=ad1.out.trans (hbel.mono HB1.out.size);by_cases hlt:j<m.t.length
  ·have Ob:j<l.length:=by rw[← AY.out];exact hlt
   obtain⟨b,off,iL,hbl,c0,c1⟩:=(HTR.out.below hbw).row Ob;subst iL;have hrr:=(HTO.out l[j] (aS Ob)).2.rd.below hbw;have hrd:=HTD.out l[j] (aS Ob);have hst:(l.map Rv.rw).take (j+1)=(l.map Rv.rw).take j++[l[j].rw]:=by
    rw[← aT (show j<(l.map Rv.rw).length by rw[aY];exact Ob),List.getElem_map]
   have HST:=ah hst;generalize l[j]=r at *;obtain⟨rd,mX,rc',rn⟩:=r;simp only at c0 c1 hrr hrd;have hxm:=dU.made wr 134 #[.slice mX rd.length rc',.int .u64 (rn:Int)];have hbx:=ba (a:=wr) b0 (.cells #[.slice mX rd.length rc',.int .u64 (rn:Int)] 134);have HRR:=ah (hrr.below hbx);have HOWN:=ah hown;have qX:=ah hro;have xB:=ah hlm;have eX:=ah hbel;have lX:=ah hxm;have iy:=ah hbx;have hwz:=hsw;have hS2:=LQ.out;obtain⟨rl,hrl⟩:∃rl,rl=rd.length:=⟨_,rfl⟩;have mZ:Hid (rd.length=rl):=hrl.symm;rw[← hrl]at c0 lX iy HRR;clear hrl;clear hrr hst hown hro hlm hbel hxm hbx HS H0 ahI;go_wp2_with fail;generalize wr.alloc (.cells #[.slice mX rl rc',.int .u64 (rn:Int)] 134)=W at lX iy HRR⊢
   have HC:Hid (∀x:World,Below W.heap.size W x→Calls prog 137 #[.slice mX rl rc'] x fun e w'=>∃A' c',e=.returned (.slice A' rl c')∧gJ w' (x.heap.size≤·) ⟨rd,A',c',0⟩∧Below x.heap.size x w'):=fun x hx=>by
    have:=Y5 (c:=rc') (HRR.out.below hx) hrd;rw[mZ.out]at this;exact this
   have HOW:=ah (own_below HOWN.out iy.out);have GK:=iy.out.size;have e0:=lX.out.cell 0;have e1:=lX.out.cell 1;have hlx:=lX.out.lt;simp at e0 e1
   go_region_held3 (fun w'=>w'.cell? ⟨wr.heap.size,0,none⟩=some (.slice mX rl rc')∧w'.cell? ⟨wr.heap.size,1,none⟩=some (.int .u64 (rn:Int))) (go_keep)
    (first
      |(go_at_call 137;refine(HC.out _ (bd b0)).mono ?_;rintro e' W1 ⟨A1,c1,rfl,hs1,hb1'⟩;have hbW1:Below W.heap.size W W1:=bb (bd b0) hb1';have xW:=lX.out.below hbW1 lX.out.lt;have e0':=xW.cell 0;have e1':=xW.cell 1;simp at e0' e1')
      |(refine step_append_lies _ (by rfl) _ _ _ (by rfl) w1.heap.size 134 i1 _ 2 32 underlying26 hi1 hy0 hy1 hy2 rfl (by omega) u3 j (gZ l') (by rfl) ((own_below HOW.out hbW1).alloc _) ⟨W1.heap.size,0,none⟩ 1 1 [.slice A1 rl c1,.int .u64 (rn:Int)] (by rfl) (by rfl) (World.news_of_block (cs:=#[.slice A1 rl c1,.int .u64 (rn:Int)]) (t:=134) (fr:=(0,0)) (heap_alloc_new W1 _)) (by simp[Value.oneCell']) (by omega) (by unfold maxLen;omega) (by omega) (by have:=hbW1.size;simp;omega) (W1.heap.size+1) (by simp) ?_;intro g cap3 w3 hown3 hg3 iF hlt3;have jo:=ah hg3;have xM:=(((lX.out.below hbW1 lX.out.lt).more (.cells #[.slice A1 rl c1,.int .u64 (rn:Int)] 134)).step hg3 (by intro e;have:=(HOWN.out.lt _ e.symm).2;omega));have g0:=xM.cell 0;have g1:=xM.cell 1;simp at g0 g1))
   go_wp2_with fail;go_roundg (m.t.length - (j+1))
   case measure=>omega
   case rel=>
    have hbq:Below wr.heap.size wr (W1.alloc (.cells #[.slice A1 rl c1,.int .u64 (rn:Int)] 134)):=ba (bb iy.out hbW1) _;have G5:=hbq.size;refine⟨j+1,by omega,au _,by go_num,l'++[⟨rd,A1,c1,rn⟩],?_,?_,fun r hr=>?_,?_,?_⟩
    ·have e:gZ [(⟨rd,A1,c1,rn⟩:Rv)]=[.slice A1 rl c1,.int .u64 (rn:Int)]:=by simp[gZ,encR,mZ.out]
     rw[Pq,e];exact hown3
    ·rw[dB,xB.out,HST.out]
     rfl
    ·rcases bZ.1 hr with hr|hr
     ·have h1:=((qX.out r hr).imp (J:=fun q=>(w1.heap.size≤q∧u3.ownBlock≠some q)∧q<wr.heap.size) fun q hl hq=>⟨hq,hl⟩).below hbq
      have h2:=h1.fE (S:=fun q=>u3.ownBlock=some q) (dX.grown jo.out fun q hq _=>hq) fun q hq=>hq.1.2;refine h2.imp fun q Ag hq=>⟨hq.1.1,fun e=>?_⟩;simp only[Value.ownBlock,bJ]at e;subst e;rcases iF with h|h
      ·exact hq.1.2 h
      have:=hq.2;simp only[World.size_alloc]at G5;have:=hbW1.size;omega
     obtain rfl:r=_:=(by simpa using hr);have hs1':gJ W1 (W.heap.size≤·) ⟨rd,A1,c1,rn⟩:=hs1;have h1:=(hs1'.imp (J:=fun q=>W.heap.size≤q∧q<W1.heap.size) fun q hl hq=>⟨hq,hl⟩).below (ba b0 (.cells #[.slice A1 rl c1,.int .u64 (rn:Int)] 134));have h2:=h1.fE (S:=fun q=>u3.ownBlock=some q) (dX.grown jo.out fun q hq _=>hq) fun q hq e=>(by have:=(HOWN.out.lt q e).2;have:=hq.1;omega);refine h2.imp fun q Ag hq=>⟨by have:=hq.1;omega,fun e=>?_⟩;simp only[Value.ownBlock,bJ]at e;subst e;rcases iF with h|h
     ·have:=(HOWN.out.lt _ h).2
      have:=hq.1;omega
     have:=hq.2;omega
    ·exact(eX.out.trans (hbq.mono (by omega))).trans (dX.grown (S:=fun k=>u3.ownBlock=some k) jo.out (fun k hk _=>hk) |>.iI (by omega) fun k hk e=>by have:=(HOWN.out.lt k e).1;omega)
    have:=jo.out.size;omega
  ·obtain rfl:j=m.t.length:=by omega
   obtain⟨A2,c2,hv2,BP,hc2,hfr2⟩:=Rd.own hown;have Us:l'.map Rv.rw=m.t:=by
    rw[hlm,HMT.out,aU (by rw[aY,← AY.out];exact au _)]
   have hll:l'.length=m.t.length:=(by rw[← Us,aY]);subst hv2;have hTN:l7 w1.heap.size wr (.slice A2 m.t.length c2) m.t:=⟨l',A2,c2,by rw[hll],Us.symm,BP,fun r hr=>(hro r hr).imp fun q _ hq=>hq.1,by omega,fun b off e=>(hfr2 b off e).2⟩;have IU:=ah hTN;have hmr:=jy.out.below hbel (by have:=hbel.size;have:=HB1.out.size;omega);have abB:=((HR1.out.fE QW.out (by omega)).below hbel (by have:=Dz;omega));have ahJ:wr.cell? ⟨w.heap.size,22,none⟩=some (.slice tA m.t.length tc):=hmr.cell 22;have f22:=hmr.free 22;have ahK:wr.cell? ⟨w.heap.size,23,none⟩=some (.slice rA m.rest.len rc):=hmr.cell 23;have hlr:=hmr.lt;have hb4:Below w.heap.size w (wr.setCell ⟨w.heap.size,22,none⟩ (.slice A2 m.t.length c2)):=bs hbw (au _) _;have HB4:=ah hb4
   have LC:Hid (dU (wr.setCell ⟨w.heap.size,22,none⟩ (.slice A2 m.t.length c2)) w.heap.size 35 (dR m (.slice jP m.d.length jQ) (.slice A2 m.t.length c2) (.slice rA m.rest.len rc))):=hmr.put 22 (.slice A2 m.t.length c2);have HR4:Hid (dU (wr.setCell ⟨w.heap.size,22,none⟩ (.slice A2 m.t.length c2)) (w.heap.size+1) 35 fF):=abB.far (by simp) _;have sN:=ah (Ji (.slice rA m.rest.len rc) m.rest I _ (Dw.out.below hb4) hr);have hs4:(wr.setCell ⟨w.heap.size,22,none⟩ (.slice A2 m.t.length c2)).heap.size=wr.heap.size:=(by simp[World.setCell]);have qJ:=ah hbel;have HLR:=ah hlr;clear hown hro hlm Us hll BP hfr2 hTN hbw hb4 HS H0 hmr abB;go_wp2_with fail;refine sN.out.mono ?_;rintro e w5 hcl;obtain⟨A5,c5,rfl,hs5,hb5⟩:=RQ hcl;have kZ:=LC.out.below hb5 LC.out.lt;have h23:w5.cell? ⟨w.heap.size,23,none⟩=some (.slice rA m.rest.len rc):=kZ.cell 23
   have f23:=kZ.free 23;have hl5:=kZ.lt;have HM6:Hid (dU (w5.setCell ⟨w.heap.size,23,none⟩ (.slice A5 m.rest.len c5)) w.heap.size 35 (dR m (.slice jP m.d.length jQ) (.slice A2 m.t.length c2) (.slice A5 m.rest.len c5))):=kZ.put 23 (.slice A5 m.rest.len c5);have zI:Hid (dU (w5.setCell ⟨w.heap.size,23,none⟩ (.slice A5 m.rest.len c5)) (w.heap.size+1) 35 fF):=(HR4.out.below hb5 HR4.out.lt).far (by simp) _;have gY:=ah hb5;have QT:=ah hs5;clear kZ hs5 hb5 hcl sN ahJ ahK f22
   go_wp2_with
    (first|(with_reducible show wpList _ _ _ (Oper.mk _ (Op.load 35 _) _ _ _ _::_) _ _;refine nN rfl _ _ rfl _ rfl _ HM6.out underlying35 rfl (iC _ _ _ _) ?_)|(with_reducible show wpList _ _ _ (Oper.mk _ (Op.store 35 _ _) _ _ _ _::_) _ _;apply pin))
   refine nO rfl _ _ _ rfl _ _ rfl rfl zI.out rfl (iC _ _ _ _) sF ?_;go_wp2_with fail;refine bodyPost_ret (v:=.agg (dR m (.slice jP m.d.length jQ) (.slice A2 m.t.length c2) (.slice A5 m.rest.len c5))) (by exact results_cell_row rfl _ _ (w.heap.size+1) 35 _ (0,0) _ rfl (ny zI.out rfl) underlying35 rfl (iC _ _ _ _)) rfl ?_;have hpa:=mD (w5.setCell ⟨w.heap.size,23,none⟩ (.slice A5 m.rest.len c5)) (w.heap.size+1) (dR m (.slice jP m.d.length jQ) (.slice A2 m.t.length c2) (.slice A5 m.rest.len c5));have TT:dX (fun j=>j=w.heap.size∨j=w.heap.size+1) w5 (World.jM (w5.setCell ⟨w.heap.size,23,none⟩ (.slice A5 m.rest.len c5)) (w.heap.size+1) (dR m (.slice jP m.d.length jQ) (.slice A2 m.t.length c2) (.slice A5 m.rest.len c5))) :=
    ((dX.refl (fun j=>j=w.heap.size∨j=w.heap.size+1) w5).put (p:=⟨w.heap.size,23,none⟩) (fun _=>.inl rfl) _).trans hpa fun g _ e=>.inr e
   have hTr:dX (fun j=>j=w.heap.size∨j=w.heap.size+1) wr (World.jM (w5.setCell ⟨w.heap.size,23,none⟩ (.slice A5 m.rest.len c5)) (w.heap.size+1) (dR m (.slice jP m.d.length jQ) (.slice A2 m.t.length c2) (.slice A5 m.rest.len c5))) :=
    (((dX.refl (fun j=>j=w.heap.size∨j=w.heap.size+1) wr).put (p:=⟨w.heap.size,22,none⟩) (fun _=>.inl rfl) _).bel gY.out).trans TT fun g _ e=>e
   have hT1:dX (fun j=>j=w.heap.size∨j=w.heap.size+1∨w1.heap.size≤j) w1 (World.jM (w5.setCell ⟨w.heap.size,23,none⟩ (.slice A5 m.rest.len c5)) (w.heap.size+1) (dR m (.slice jP m.d.length jQ) (.slice A2 m.t.length c2) (.slice A5 m.rest.len c5))) :=
    ((QW.out.imp (S':=fun j=>j=w.heap.size∨j=w.heap.size+1∨w1.heap.size≤j) fun g _ e=>.inl e).trans (S':=fun j=>w1.heap.size≤j) ⟨qJ.out.os,qJ.out.tape,qJ.out.output,hsw,fun k _ hn=>qJ.out.block k (by omega)⟩ fun g _ e=>.inr (.inr e)).trans hTr fun g _ e=>by
      rcases e with e|e
      ·exact .inl e
      exact .inr (.inl e)
   have hS1:=Dz;refine⟨_,_,_,rfl,⟨⟨jP,jQ,rfl,XY.out.1,?_⟩,?_,?_⟩,?_⟩
   ·refine((XY.out.2.imp (J:=fun q=>wZ.heap.size≤q∧q<w1.heap.size) fun q hl hq=>⟨hq,hl⟩).fE hT1 fun q hq e=>by omega).imp fun q _ hq=>by omega
   ·exact(IU.out.fE hTr fun k hk e=>by omega).mono (by omega)
   ·have:=LQ.out
    refine(QT.out.fE TT fun k hk e=>by omega).imp fun k hk=>by omega
   have h1:=(bb HB4.out gY.out).size;exact(bb HB4.out gY.out).trans (TT.iI (by omega) fun g hg e=>by omega)
def aer(w:World)(m:Mp)(i:Nat)(q:Mv×Int)(e:Ending)(w':World):Prop :=
 ∃dv tv rv,e=.returned (.tuple #[.agg (dR (if q.2≠0 then m0 else m.put i q.1) dv tv rv),.int .i64 q.2])∧ni w.heap.size w' (if q.2≠0 then m0 else m.put i q.1) dv tv rv∧Below w.heap.size w w'
theorem acf(B:Nat)(w:World):ni B w m0 (.slice none 0 0) (.slice none 0 0) (.slice none 0 0):=⟨⟨none,0,rfl,au _,.inl rfl⟩,EU B w,eF.nil _ _ _ _⟩
theorem ni.slices{B:Nat}{w:World}{m:Mp}{dv tv rv:Value}(h:ni B w m dv tv rv):∃dA dc tA tc rA rc,dv=.slice dA m.d.length dc∧tv=.slice tA m.t.length tc∧rv=.slice rA m.rest.len rc:=h.v.slices
theorem anY{I:Nat→Prop}{m:Mp}{dv tv rv:Value}(w:World)(hv:gU w I m dv tv rv)(hd:m.d.length≤1000000)(ht:∀r∈m.t,r.1.length≤1000000)(htl:m.t.length≤100000)(hr:m.rest.count≤1000000)
 (i t:Nat) (ty:Int) (n:Nat) (s:List UInt8) (fA:Option Addr) (fn fc:Nat) (hi:i<22) (h64:In64 n) (hsl:s.length≤1000000) (hT:Tabs w) :
 Calls prog 42 #[.agg (dR m dv tv rv),.string (txt (dW i)),.agg #[.int .u64 (t:Int),.int .i64 ty,.int .u64 (n:Int),.string (txt s),.slice fA fn fc]] w (aer w m i (ig (gy i) ty n s)):=by
 have HT:=ah hT
 obtain⟨q,hq⟩:∃q,q=ig (gy i) ty n s:=⟨_,rfl⟩
 rw[← hq]
 have HQ:=ah hq
 clear hq
 obtain⟨dA,dc,tA,tc,rA,rc,rfl,rfl,rfl⟩:=hv.slices
 obtain⟨wz,hwz,hsz,HM,fC⟩:=lM w 35 (dR m (.slice dA m.d.length dc) (.slice tA m.t.length tc) (.slice rA m.rest.len rc))
 have HV:=ah (hv.below fC.out)
 clear hv
 simp only[dR]at hwz
 have hmf:=dU.made wz 47 #[.int .u64 (t:Int),.int .i64 ty,.int .u64 (n:Int),.string (txt s),.slice fA fn fc]
 have hbf:=ba fC.out (.cells #[.int .u64 (t:Int),.int .i64 ty,.int .u64 (n:Int),.string (txt s),.slice fA fn fc] 47)
 obtain⟨wf,hwf⟩:∃wf,wf=wz.alloc (.cells #[.int .u64 (t:Int),.int .i64 ty,.int .u64 (n:Int),.string (txt s),.slice fA fn fc] 47):=⟨_,rfl⟩
 have hsf:wf.heap.size=w.heap.size+1+1:=by rw[hwf,World.size_alloc,hsz]
 have hmm:=HM.out.more (.cells #[.int .u64 (t:Int),.int .i64 ty,.int .u64 (n:Int),.string (txt s),.slice fA fn fc] 47)
 have hvf:=HV.out.below (ba (a:=wz) b0 (.cells #[.int .u64 (t:Int),.int .i64 ty,.int .u64 (n:Int),.string (txt s),.slice fA fn fc] 47))
 rw[← hwf]at hmf hbf hmm hvf
 rw[hsz]at hmf
 have hmr:=dU.made wf 35 fF
 have hbr:=ba hbf (.cells fF 35)
 have xX:=hmf.more (.cells fF 35)
 have Uw:=hmm.more (.cells fF 35)
 have UF:=hvf.below (ba (a:=wf) b0 (.cells fF 35))
 obtain⟨wZ,uP⟩:∃wZ,wZ=wf.alloc (.cells fF 35):=⟨_,rfl⟩
 have hsZ:wZ.heap.size=w.heap.size+1+1+1:=by rw[uP,World.size_alloc,hsf]
 rw[← uP]at hmr hbr xX Uw UF
 rw[hsf]at hmr
 have mG:=ah (afA wZ UF hd ht htl hr)
 have qR:=ah hmr
 have Iy:=ah xX
 have Fz:=ah hbr
 have iO:=ah Uw
 simp only[fF]at uP
 rw[uP,hwf,hwz]at iO
 clear hmf hbf hmm hvf hmr hbr xX Uw UF HM HV fC
 obtain⟨N,hN⟩:∃N,N=txt (dW i):=⟨_,rfl⟩
 rw[← hN]
 have HN:=ah hN
 clear hN
 unfold dR
 go_enter func42,ntmps42
 go_wp2_with
  (first|(with_reducible show wpList _ _ _ (Oper.mk _ (Op.load 35 _) _ _ _ _::_) _ _;refine nN rfl _ _ rfl _ rfl _ iO.out underlying35 rfl (iC _ _ _ _) ?_)|(with_reducible show wpList _ _ _ (Oper.mk _ (Op.store 35 _ _) _ _ _ _::_) _ _;apply pin))
 rw[← hwz,← hwf,← uP]
 refine mG.out.mono ?_
 rintro e w1 ⟨dv1,tv1,rv1,rfl,kU,hb1⟩
 obtain⟨jP,jQ,o7,o8,oW,oZ,rfl,rfl,rfl⟩:=kU.slices
 have hmz:=dU.made w1 35 fF
 have hmb:=ny (ds:=dR m (.slice jP m.d.length jQ) (.slice o7 m.t.length o8) (.slice oW m.rest.len oZ)) hmz rfl
 have hsa:(w1.alloc (.cells fF 35)).heap.size=w1.heap.size+1:=by simp
 have hpt:=mD (w1.alloc (.cells fF 35)) w1.heap.size (dR m (.slice jP m.d.length jQ) (.slice o7 m.t.length o8) (.slice oW m.rest.len oZ))
 have hsp:(World.jM (w1.alloc (.cells fF 35)) w1.heap.size (dR m (.slice jP m.d.length jQ) (.slice o7 m.t.length o8) (.slice oW m.rest.len oZ))).heap.size=w1.heap.size+1:=by rw[Pm,hsa]
 have hb2:Below w1.heap.size w1 (World.jM (w1.alloc (.cells fF 35)) w1.heap.size (dR m (.slice jP m.d.length jQ) (.slice o7 m.t.length o8) (.slice oW m.rest.len oZ))) :=
  (ba (a:=w1) b0 (.cells fF 35)).trans (hpt.iI (by omega) fun g hg e=>by omega)
 obtain⟨w2,hw2⟩:∃w2,w2=World.jM (w1.alloc (.cells fF 35)) w1.heap.size (dR m (.slice jP m.d.length jQ) (.slice o7 m.t.length o8) (.slice oW m.rest.len oZ)):=⟨_,rfl⟩
 rw[← hw2]at hmb hb2 hsp
 have XI:=ah hmz
 have hin:nG wZ.heap.size w1 w2 w1.heap.size m (.slice jP m.d.length jQ) (.slice o7 m.t.length o8) (.slice oW m.rest.len oZ):=⟨kU,hb2,au _,hb1.size,hmb⟩
 have HB1:=ah (Fz.out.trans (hb1.mono Fz.out.size))
 have HB2:Hid (Below w.heap.size w w2):=HB1.out.trans (hb2.mono HB1.out.size)
 have hset:=set_any wZ.heap.size w1 w1.heap.size m _ _ _ i t ty n s fA fn fc w2 hi hin h64 hsl (HT.out.below HB2.out)
 rw[← HN.out,← HQ.out]at hset
 have HST:=ah hset
 have xX:=(Iy.out.below hb1 Iy.out.lt).below hb2 (Iy.out.below hb1 Iy.out.lt).lt
 have XG:=ah ((qR.out.below hb1 qR.out.lt).below hb2 (qR.out.below hb1 qR.out.lt).lt)
 have hs1:=hb1.size
 have k0:=xX.cell 0
 have k1:=xX.cell 1
 have k2:=xX.cell 2
 have k3:=xX.cell 3
 have k4:=xX.cell 4
 have hlk:=xX.lt
 simp at k0 k1 k2 k3 k4
 simp only[fF]at hw2 XI
 clear kU hmb hb2 hin hset xX hb1 mG iO hwz hwf uP qR Iy hT h64 hsl hmz hsa hpt hd ht htl hr
 have Dz:=ah hs1
 clear hs1 hsp
 go_wp2_with
  (with_reducible show wpList _ _ _ (Oper.mk _ (Op.store 35 _ _) _ _ _ _::_) _ _;apply pin)
 refine nO rfl _ _ _ rfl _ _ rfl rfl XI.out rfl (iC _ _ _ _) sF ?_
 rw[← hw2]
 clear hw2
 simp only[Act.put]
 go_wp2_with fail
 refine HST.out.mono ?_
 rintro e w3 ⟨rfl,kV,hok⟩
 have lT:=ah hok
 have LU:=ah kV
 have LG:Hid (dU w3 (w.heap.size+1+1) 35 fF):=XG.out.fE kV (by have:=Dz.out;omega)
 have HB3:Hid (Below w.heap.size w w3):=HB2.out.trans (kV.iI HB2.out.size fun g hg e=>by have:=HB1.out.size;omega)
 clear hok kV HST k0 k1 k2 k3 k4 hlk XG
 clear HQ
 obtain⟨V,E⟩:=q
 simp only at lT⊢
 by_cases hE:E=0
 ·subst hE
  obtain⟨dv4,tv4,hms,hmn⟩:=lT.out rfl;obtain⟨RX,RY,VY,V4,VA,VD,rfl,rfl,e5⟩:=hmn.slices;rw[e5]at hms hmn;have LC:Hid (dU w3 w1.heap.size 35 (dR (m.put i V) (.slice RX (m.put i V).d.length RY) (.slice VY (m.put i V).t.length V4) (.slice VA (m.put i V).rest.len VD))):=hms;have rJ:=ah hmn;clear hms hmn e5 lT
  go_wp2_with
   (first|(with_reducible show wpList _ _ _ (Oper.mk _ (Op.load 35 _) _ _ _ _::_) _ _;refine nN rfl _ _ rfl _ rfl _ LC.out underlying35 rfl (iC _ _ _ _) ?_)|(with_reducible show wpList _ _ _ (Oper.mk _ (Op.store 35 _ _) _ _ _ _::_) _ _;apply pin))
  refine nO rfl _ _ _ rfl _ _ rfl rfl LG.out rfl (iC _ _ _ _) sF ?_;simp only[Act.put];go_wp2_with fail;refine bodyPost_ret (v:=.tuple #[.agg (dR (m.put i V) (.slice RX (m.put i V).d.length RY) (.slice VY (m.put i V).t.length V4) (.slice VA (m.put i V).rest.len VD)),.int .i64 0]) (by exact vU rfl _ _ (w.heap.size+1+1) 35 _ _ (.int .i64 0) rfl (ny LG.out rfl) underlying35 rfl (iC _ _ _ _) rfl) rfl ?_;have hpa:=mD w3 (w.heap.size+1+1) (dR (m.put i V) (.slice RX (m.put i V).d.length RY) (.slice VY (m.put i V).t.length V4) (.slice VA (m.put i V).rest.len VD));refine⟨_,_,_,rfl,?_,HB3.out.trans (hpa.iI HB3.out.size fun g hg e=>by omega)⟩;simp only[ne_eq,not_true_eq_false,if_false];exact(rJ.out.fE hpa fun k hk e=>by omega).mono (by omega)
 ·have yU:(E==0)=false:=by rw[aB];exact hE
  clear lT
  go_wp2_with
   (with_reducible show wpList _ _ _ (Oper.mk _ (Op.store 35 _ _) _ _ _ _::_) _ _;apply pin)
  refine nO rfl _ _ _ rfl _ fF rfl rfl LG.out rfl (iC m0 (.slice none 0 0) (.slice none 0 0) (.slice none 0 0)) AP ?_;simp only[Act.put];go_wp2_with fail;refine bodyPost_ret (v:=.tuple #[.agg fF,.int .i64 E]) (by exact vU rfl _ _ (w.heap.size+1+1) 35 _ _ (.int .i64 E) rfl (ny LG.out rfl) underlying35 rfl (iC m0 (.slice none 0 0) (.slice none 0 0) (.slice none 0 0)) rfl) rfl ?_;have hpa:=mD w3 (w.heap.size+1+1) fF;refine⟨.slice none 0 0,.slice none 0 0,.slice none 0 0,?_,?_,HB3.out.trans (hpa.iI HB3.out.size fun g hg e=>by omega)⟩
  ·rw[aA hE,adW]
  rw[aA hE];exact acf _ _
theorem adw(A:Option Addr)(cap:Nat)(l:List fD)(w:World)(hr:Rd w A (ents l))(hl:l.length≤100000) :
 Calls prog 63 #[.slice A l.length cap] w fun e w'=>∃A c,e=.returned (.slice A l.length c)∧gJ w' (w.heap.size≤·) ⟨l,A,c,0⟩∧Below w.heap.size w w':=by
 have HR:=ah hr
 have H0:Hid (MR 129 w (l.take 0) (.slice none 0 0) w):=⟨World.ownsRow_nil _ _ _ _,b0⟩
 obtain⟨i0,hi0,hz0,hz1,hz2⟩:=info_parts aiK
 clear hr
 go_enter func63,ntmps63
 go_wp2_with fail
 go_loopg [3,8] l.length (fun gk out ki wr=>∃k:Nat,k≤l.length∧l.length - k≤gk∧ki=.int .i64 (k:Int)∧Hid (MR 129 w (l.take k) out wr))
 case atStart=>exact⟨0,aW _,by omega,rfl,H0⟩
 case round=>
  obtain⟨k,hk,hgk,rfl,HM⟩:=hrel;by_cases hlt:k<l.length
  ·obtain⟨hown,hbel⟩:=HM.out
   obtain⟨b,off,rfl,hbl,c0,c1⟩:=(HR.out.below hbel).ent hlt;have htk:l.take (k+1)=l.take k++[l[k]]:=(aT hlt).symm;have jZ:=ah htk;have htl:(l.take k).length=k:=(by rw[bD];omega);obtain⟨A1,c1',rfl,_⟩:=Rd.own hown;generalize hL:l.take k=L at *;generalize l[k]=x at *;have hy:=World.news_of_block (cs:=#[.string (txt x.1),.string (txt x.2)]) (t:=129) (fr:=(0,0)) (heap_alloc_new (wr.alloc (.cells #[.string (txt x.1),.string (txt x.2)] 132)) (.cells #[.string (txt x.1),.string (txt x.2)] 129));have eU:Below wr.heap.size wr ((wr.alloc (.cells #[.string (txt x.1),.string (txt x.2)] 132)).alloc (.cells #[.string (txt x.1),.string (txt x.2)] 129)):=ba (ba b0 _) _
   have hrd:Rd ((wr.alloc (.cells #[.string (txt x.1),.string (txt x.2)] 132)).alloc (.cells #[.string (txt x.1),.string (txt x.2)] 129)) (some ⟨(wr.alloc (.cells #[.string (txt x.1),.string (txt x.2)] 132)).heap.size,0,none⟩) (ents [x]):=by
    refine .inr ⟨_,_,rfl,by simp,fun j u hj=>?_⟩;have:=hy j u hj
    rwa [rV,← aX j]at this
   obtain⟨A2,c2,w3,hrun,hown3,hgr,hat⟩:=ZE 64 64 129 i0 underlying64 hi0 hz0 hz1 hz2 (d:=1) (own_below hown eU) hrd (by simp only[List.length_singleton];omega) (aI hbel.size eU.size);have hbN:Below w.heap.size w w3:=RH (a:=w) (e:=129) (bb hbel eU) (own_below hown eU) hgr;have hn1:L.length+[x].length=k+1:=(by rw[htl];rfl);have HN:Hid (MR 129 w (l.take (k+1)) (.slice A2 (k+1) c2) w3):=by
    unfold MR;rw[jZ.out];rw[hn1]at hown3;refine⟨?_,hbN⟩;rw[aC,hn1];exact hown3
   rw[hn1]at hrun;rw[htl]at hrun;simp only[World.size_alloc]at hrun;have lC:=ah hrun;clear hown hbel htk hy eU hrd hown3 hgr hat hbN jZ HM H0 hrun hn1 hL;rw[htl];clear htl;go_wp2_with(at_builtin;(refine wpList_append_run rfl _ _ _ _ rfl _ _ _ rfl rfl lC.out ?_));go_roundg (l.length - (k+1))
   case measure=>omega
   case rel=>exact⟨k+1,by omega,au _,by go_num,HN⟩
  obtain rfl:k=l.length:=by omega
  obtain⟨hown,hbel⟩:=HM.out;rw[aU (au _)]at hown;obtain⟨A1,c1',rfl,hrd,hc,hfr⟩:=Rd.own hown;have HE:Hid (gJ wr (w.heap.size≤·) ⟨l,A1,c1',0⟩∧Below w.heap.size w wr):=⟨⟨hc,Rd.zi hrd fun b off e=>(hfr b off e).2⟩,hbel⟩;clear hown hbel hrd HM H0;go_wp2_with fail;go_ret;exact⟨_,_,rfl,HE.out⟩
theorem aiL:(prog.info? 212).map (fun i=>(i.zero,i.size,i.bytes))=some (some Fb,2,32):=by kernel_rfl
def YR(w:World)(l:List Rv)(j:Nat)(vv:Value)(wr:World):Prop:=∃l':List Rv,wr.ownsRow w.heap.size 212 2 vv j (gZ l')∧l'.map Rv.rw=(l.map Rv.rw).take j∧(∀r∈l',gJ wr (fun q=>w.heap.size≤q∧vv.ownBlock≠some q) r)∧Below w.heap.size w wr
theorem anf(A:Option Addr)(c:Nat)(l:List Rv)(I:Nat→Prop)(w:World)(hr:Rd w A (gZ l))(ho:∀r∈l,gJ w I r)(hd:∀r∈l,r.d.length≤100000)(hl:l.length≤100000) :
 Calls prog 64 #[.slice A l.length c] w fun e w'=>∃v,e=.returned v∧l7 w.heap.size w' v (l.map Rv.rw)∧Below w.heap.size w w':=by
 obtain⟨i1,hi1,hy0,hy1,hy2⟩:=info_parts aiL
 have HR:=ah hr
 have HO:=ah ho
 have HD:=ah hd
 have H0:Hid (YR w l 0 (.slice none 0 0) w):=⟨[],World.ownsRow_nil _ _ _ _,rfl,by simp,b0⟩
 clear hr ho hd
 go_enter func64,ntmps64
 go_wp2_with fail
 go_loopg [3,8] l.length (fun gk vv ki wr=>∃j:Nat,j≤l.length∧l.length - j≤gk∧ki=.int .i64 (j:Int)∧Hid (YR w l j vv wr))
 case atStart=>exact⟨0,aW _,by omega,rfl,H0⟩
 case round=>
  obtain⟨j,hj,hgj,rfl,HS⟩:=hrel;obtain⟨l',hown,hlm,hro,hbel⟩:=HS.out;by_cases hlt:j<l.length
  ·obtain⟨b,off,iL,hbl,c0,c1⟩:=(HR.out.below hbel).row hlt
   subst iL;have hrr:=(HO.out l[j] (aS hlt)).2.rd.below hbel;have hrd:=HD.out l[j] (aS hlt);have hst:(l.map Rv.rw).take (j+1)=(l.map Rv.rw).take j++[l[j].rw]:=by
    rw[← aT (show j<(l.map Rv.rw).length by rw[aY];exact hlt),List.getElem_map]
   have HST:=ah hst;generalize l[j]=r at *;obtain⟨rd,mX,rc',rn⟩:=r;simp only at c0 c1 hrr hrd;have hxm:=dU.made wr 134 #[.slice mX rd.length rc',.int .u64 (rn:Int)];have hbx:=ba (a:=wr) b0 (.cells #[.slice mX rd.length rc',.int .u64 (rn:Int)] 134);have HRR:=ah (hrr.below hbx);have HOWN:=ah hown;have qX:=ah hro;have xB:=ah hlm;have eX:=ah hbel;have lX:=ah hxm;have iy:=ah hbx;have hwz:=hbel.size;obtain⟨rl,hrl⟩:∃rl,rl=rd.length:=⟨_,rfl⟩;have mZ:Hid (rd.length=rl):=hrl.symm;rw[← hrl]at c0 lX iy HRR;clear hrl;clear hrr hst hown hro hlm hbel hxm hbx HS H0;go_wp2_with fail;generalize wr.alloc (.cells #[.slice mX rl rc',.int .u64 (rn:Int)] 134)=W at lX iy HRR⊢
   have HC:Hid (∀x:World,Below W.heap.size W x→Calls prog 63 #[.slice mX rl rc'] x fun e w'=>∃A' c',e=.returned (.slice A' rl c')∧gJ w' (x.heap.size≤·) ⟨rd,A',c',0⟩∧Below x.heap.size x w'):=fun x hx=>by
    have:=adw mX rc' rd x (HRR.out.below hx) hrd;rw[mZ.out]at this;exact this
   have HOW:=ah (own_below HOWN.out iy.out);have GK:=iy.out.size;have e0:=lX.out.cell 0;have e1:=lX.out.cell 1;have hlx:=lX.out.lt;simp at e0 e1
   go_region_held3 (fun w'=>w'.cell? ⟨wr.heap.size,0,none⟩=some (.slice mX rl rc')∧w'.cell? ⟨wr.heap.size,1,none⟩=some (.int .u64 (rn:Int))) (go_keep)
    (first
      |(go_at_call 63;refine(HC.out _ (bd b0)).mono ?_;rintro e' W1 ⟨A1,c1,rfl,hs1,hb1'⟩;have hbW1:Below W.heap.size W W1:=bb (bd b0) hb1';have xW:=lX.out.below hbW1 lX.out.lt;have e0':=xW.cell 0;have e1':=xW.cell 1;simp at e0' e1')
      |(refine step_append_lies _ (by rfl) _ _ _ (by rfl) w.heap.size 212 i1 _ 2 32 underlying65 hi1 hy0 hy1 hy2 rfl (by omega) u3 j (gZ l') (by rfl) ((own_below HOW.out hbW1).alloc _) ⟨W1.heap.size,0,none⟩ 1 1 [.slice A1 rl c1,.int .u64 (rn:Int)] (by rfl) (by rfl) (World.news_of_block (cs:=#[.slice A1 rl c1,.int .u64 (rn:Int)]) (t:=212) (fr:=(0,0)) (heap_alloc_new W1 _)) (by simp[Value.oneCell']) (by omega) (by unfold maxLen;omega) (by omega) (by have:=hbW1.size;simp;omega) (W1.heap.size+1) (by simp) ?_;intro g cap3 w3 hown3 hg3 iF hlt3;have jo:=ah hg3;have xM:=(((lX.out.below hbW1 lX.out.lt).more (.cells #[.slice A1 rl c1,.int .u64 (rn:Int)] 212)).step hg3 (by intro e;have:=(HOWN.out.lt _ e.symm).2;omega));have g0:=xM.cell 0;have g1:=xM.cell 1;simp at g0 g1))
   go_wp2_with fail;go_roundg (l.length - (j+1))
   case measure=>omega
   case rel=>
    have hbq:Below wr.heap.size wr (W1.alloc (.cells #[.slice A1 rl c1,.int .u64 (rn:Int)] 212)):=ba (bb iy.out hbW1) _;have G5:=hbq.size;refine⟨j+1,by omega,au _,by go_num,l'++[⟨rd,A1,c1,rn⟩],?_,?_,fun r hr=>?_,?_⟩
    ·have e:gZ [(⟨rd,A1,c1,rn⟩:Rv)]=[.slice A1 rl c1,.int .u64 (rn:Int)]:=by simp[gZ,encR,mZ.out]
     rw[Pq,e];exact hown3
    ·rw[dB,xB.out,HST.out]
     rfl
    ·rcases bZ.1 hr with hr|hr
     ·have h1:=((qX.out r hr).imp (J:=fun q=>(w.heap.size≤q∧u3.ownBlock≠some q)∧q<wr.heap.size) fun q hl hq=>⟨hq,hl⟩).below hbq
      have h2:=h1.fE (S:=fun q=>u3.ownBlock=some q) (dX.grown jo.out fun q hq _=>hq) fun q hq=>hq.1.2;refine h2.imp fun q Ag hq=>⟨hq.1.1,fun e=>?_⟩;simp only[Value.ownBlock,bJ]at e;subst e;rcases iF with h|h
      ·exact hq.1.2 h
      have:=hq.2;simp only[World.size_alloc]at G5;have:=hbW1.size;omega
     obtain rfl:r=_:=(by simpa using hr);have hs1':gJ W1 (W.heap.size≤·) ⟨rd,A1,c1,rn⟩:=hs1;have h1:=(hs1'.imp (J:=fun q=>W.heap.size≤q∧q<W1.heap.size) fun q hl hq=>⟨hq,hl⟩).below (ba b0 (.cells #[.slice A1 rl c1,.int .u64 (rn:Int)] 212));have h2:=h1.fE (S:=fun q=>u3.ownBlock=some q) (dX.grown jo.out fun q hq _=>hq) fun q hq e=>(by have:=(HOWN.out.lt q e).2;have:=hq.1;omega);refine h2.imp fun q Ag hq=>⟨by have:=hq.1;omega,fun e=>?_⟩;simp only[Value.ownBlock,bJ]at e;subst e;rcases iF with h|h
     ·have:=(HOWN.out.lt _ h).2
      have:=hq.1;omega
     have:=hq.2;omega
    exact(eX.out.trans (hbq.mono (by omega))).trans (dX.grown (S:=fun k=>u3.ownBlock=some k) jo.out (fun k hk _=>hk) |>.iI (by omega) fun k hk e=>by have:=(HOWN.out.lt k e).1;omega)
  ·obtain rfl:j=l.length:=by omega
   obtain⟨A2,c2,hv2,BP,hc2,hfr2⟩:=Rd.own hown;rw[aU (by rw[aY];exact au _)]at hlm;have hll:l'.length=l.length:=(by have:=congrArg List.length hlm;simpa using this);subst hv2;have HE:Hid (l7 w.heap.size wr (.slice A2 l.length c2) (l.map Rv.rw)∧Below w.heap.size w wr):=⟨⟨l',A2,c2,by rw[hll],hlm.symm,BP,fun r hr=>(hro r hr).imp fun q _ hq=>hq.1,by omega,fun b off e=>(hfr2 b off e).2⟩,hbel⟩;clear hown hlm hro hbel BP HS H0 hll;go_wp2_with fail;go_ret;exact⟨_,rfl,HE.out⟩
theorem alK(m:Mp)(dA tA rA:Option Addr)(dn dc tn tc rn rc:Nat)(w:World):Calls prog 116 #[.agg (dR m (.slice dA dn dc) (.slice tA tn tc) (.slice rA rn rc)),.string (txt (dW 1))] w (aj w (.int .u64 (m.base:Int))):=by
 have hs:(txt (dW 1)).toList=[98,97,115,101]:=by rw[ByteArray.toList_eq];rfl
 have HB:=ah (ba (a:=w) b0 (.cells (dR m (.slice dA dn dc) (.slice tA tn tc) (.slice rA rn rc)) 68));simp only[dR]at HB⊢;go_enter func116,ntmps116;go_wp2_with fail;go_ret;exact⟨rfl,HB.out⟩
theorem alR(m:Mp)(dA tA rA:Option Addr)(dn dc tn tc rn rc:Nat)(w:World):Calls prog 116 #[.agg (dR m (.slice dA dn dc) (.slice tA tn tc) (.slice rA rn rc)),.string (txt (dW 2))] w (aj w (.int .u64 (m.chosen:Int))):=by
 have hs:(txt (dW 2)).toList=[99,104,111,115,101,110]:=by rw[ByteArray.toList_eq];rfl
 have HB:=ah (ba (a:=w) b0 (.cells (dR m (.slice dA dn dc) (.slice tA tn tc) (.slice rA rn rc)) 68));simp only[dR]at HB⊢;go_enter func116,ntmps116;go_wp2_with fail;go_ret;exact⟨rfl,HB.out⟩
theorem alT(m:Mp)(dA tA rA:Option Addr)(dn dc tn tc rn rc:Nat)(w:World):Calls prog 116 #[.agg (dR m (.slice dA dn dc) (.slice tA tn tc) (.slice rA rn rc)),.string (txt (dW 3))] w (aj w (.int .u64 (m.code:Int))):=by
 have hs:(txt (dW 3)).toList=[99,111,100,101]:=by rw[ByteArray.toList_eq];rfl
 have HB:=ah (ba (a:=w) b0 (.cells (dR m (.slice dA dn dc) (.slice tA tn tc) (.slice rA rn rc)) 68));simp only[dR]at HB⊢;go_enter func116,ntmps116;go_wp2_with fail;go_ret;exact⟨rfl,HB.out⟩
theorem alU(m:Mp)(dA tA rA:Option Addr)(dn dc tn tc rn rc:Nat)(w:World):Calls prog 116 #[.agg (dR m (.slice dA dn dc) (.slice tA tn tc) (.slice rA rn rc)),.string (txt (dW 4))] w (aj w (.int .u64 (m.cost:Int))):=by
 have hs:(txt (dW 4)).toList=[99,111,115,116]:=by rw[ByteArray.toList_eq];rfl
 have HB:=ah (ba (a:=w) b0 (.cells (dR m (.slice dA dn dc) (.slice tA tn tc) (.slice rA rn rc)) 68));simp only[dR]at HB⊢;go_enter func116,ntmps116;go_wp2_with fail;go_ret;exact⟨rfl,HB.out⟩
theorem alV(m:Mp)(dA tA rA:Option Addr)(dn dc tn tc rn rc:Nat)(w:World):Calls prog 116 #[.agg (dR m (.slice dA dn dc) (.slice tA tn tc) (.slice rA rn rc)),.string (txt (dW 5))] w (aj w (.int .u64 (m.dead:Int))):=by
 have hs:(txt (dW 5)).toList=[100,101,97,100,108,105,110,101]:=by rw[ByteArray.toList_eq];rfl
 have HB:=ah (ba (a:=w) b0 (.cells (dR m (.slice dA dn dc) (.slice tA tn tc) (.slice rA rn rc)) 68));simp only[dR]at HB⊢;go_enter func116,ntmps116;go_wp2_with fail;go_ret;exact⟨rfl,HB.out⟩
theorem alW(m:Mp)(dA tA rA:Option Addr)(dn dc tn tc rn rc:Nat)(w:World):Calls prog 116 #[.agg (dR m (.slice dA dn dc) (.slice tA tn tc) (.slice rA rn rc)),.string (txt (dW 7))] w (aj w (.int .u64 (m.digest:Int))):=by
 have hs:(txt (dW 7)).toList=[100,105,103,101,115,116]:=by rw[ByteArray.toList_eq];rfl
 have HB:=ah (ba (a:=w) b0 (.cells (dR m (.slice dA dn dc) (.slice tA tn tc) (.slice rA rn rc)) 68));simp only[dR]at HB⊢;go_enter func116,ntmps116;go_wp2_with fail;go_ret;exact⟨rfl,HB.out⟩
theorem alX(m:Mp)(dA tA rA:Option Addr)(dn dc tn tc rn rc:Nat)(w:World):Calls prog 116 #[.agg (dR m (.slice dA dn dc) (.slice tA tn tc) (.slice rA rn rc)),.string (txt (dW 8))] w (aj w (.int .u64 (m.epoch:Int))):=by
 have hs:(txt (dW 8)).toList=[101,112,111,99,104]:=by rw[ByteArray.toList_eq];rfl
 have HB:=ah (ba (a:=w) b0 (.cells (dR m (.slice dA dn dc) (.slice tA tn tc) (.slice rA rn rc)) 68));simp only[dR]at HB⊢;go_enter func116,ntmps116;go_wp2_with fail;go_ret;exact⟨rfl,HB.out⟩
theorem alY(m:Mp)(dA tA rA:Option Addr)(dn dc tn tc rn rc:Nat)(w:World):Calls prog 116 #[.agg (dR m (.slice dA dn dc) (.slice tA tn tc) (.slice rA rn rc)),.string (txt (dW 9))] w (aj w (.int .u64 (m.flags:Int))):=by
 have hs:(txt (dW 9)).toList=[102,108,97,103,115]:=by rw[ByteArray.toList_eq];rfl
 have HB:=ah (ba (a:=w) b0 (.cells (dR m (.slice dA dn dc) (.slice tA tn tc) (.slice rA rn rc)) 68));simp only[dR]at HB⊢;go_enter func116,ntmps116;go_wp2_with fail;go_ret;exact⟨rfl,HB.out⟩
theorem alL(m:Mp)(dA tA rA:Option Addr)(dn dc tn tc rn rc:Nat)(w:World):Calls prog 116 #[.agg (dR m (.slice dA dn dc) (.slice tA tn tc) (.slice rA rn rc)),.string (txt (dW 10))] w (aj w (.int .u64 (m.id:Int))):=by
 have hs:(txt (dW 10)).toList=[105,100]:=by rw[ByteArray.toList_eq];rfl
 have HB:=ah (ba (a:=w) b0 (.cells (dR m (.slice dA dn dc) (.slice tA tn tc) (.slice rA rn rc)) 68));simp only[dR]at HB⊢;go_enter func116,ntmps116;go_wp2_with fail;go_ret;exact⟨rfl,HB.out⟩
theorem alM(m:Mp)(dA tA rA:Option Addr)(dn dc tn tc rn rc:Nat)(w:World):Calls prog 116 #[.agg (dR m (.slice dA dn dc) (.slice tA tn tc) (.slice rA rn rc)),.string (txt (dW 11))] w (aj w (.int .u64 (m.lag:Int))):=by
 have hs:(txt (dW 11)).toList=[108,97,103]:=by rw[ByteArray.toList_eq];rfl
 have HB:=ah (ba (a:=w) b0 (.cells (dR m (.slice dA dn dc) (.slice tA tn tc) (.slice rA rn rc)) 68));simp only[dR]at HB⊢;go_enter func116,ntmps116;go_wp2_with fail;go_ret;exact⟨rfl,HB.out⟩
theorem alN(m:Mp)(dA tA rA:Option Addr)(dn dc tn tc rn rc:Nat)(w:World):Calls prog 116 #[.agg (dR m (.slice dA dn dc) (.slice tA tn tc) (.slice rA rn rc)),.string (txt (dW 12))] w (aj w (.int .u64 (m.max_:Int))):=by
 have hs:(txt (dW 12)).toList=[109,97,120]:=by rw[ByteArray.toList_eq];rfl
 have HB:=ah (ba (a:=w) b0 (.cells (dR m (.slice dA dn dc) (.slice tA tn tc) (.slice rA rn rc)) 68));simp only[dR]at HB⊢;go_enter func116,ntmps116;go_wp2_with fail;go_ret;exact⟨rfl,HB.out⟩
theorem alO(m:Mp)(dA tA rA:Option Addr)(dn dc tn tc rn rc:Nat)(w:World):Calls prog 116 #[.agg (dR m (.slice dA dn dc) (.slice tA tn tc) (.slice rA rn rc)),.string (txt (dW 13))] w (aj w (.int .u64 (m.min_:Int))):=by
 have hs:(txt (dW 13)).toList=[109,105,110]:=by rw[ByteArray.toList_eq];rfl
 have HB:=ah (ba (a:=w) b0 (.cells (dR m (.slice dA dn dc) (.slice tA tn tc) (.slice rA rn rc)) 68));simp only[dR]at HB⊢;go_enter func116,ntmps116;go_wp2_with fail;go_ret;exact⟨rfl,HB.out⟩
theorem ams(m:Mp)(dA tA rA:Option Addr)(dn dc tn tc rn rc:Nat)(w:World):Calls prog 108 #[.agg (dR m (.slice dA dn dc) (.slice tA tn tc) (.slice rA rn rc)),.string (txt (dW 14))] w (aj w (.string (txt m.nm))):=by
 have hs:(txt (dW 14)).toList=[110,97,109,101]:=by rw[ByteArray.toList_eq];rfl
 have HB:=ah (ba (a:=w) b0 (.cells (dR m (.slice dA dn dc) (.slice tA tn tc) (.slice rA rn rc)) 68));simp only[dR]at HB⊢;go_enter func108,ntmps108;go_wp2_with fail;go_ret;exact⟨rfl,HB.out⟩
theorem amu(m:Mp)(dA tA rA:Option Addr)(dn dc tn tc rn rc:Nat)(w:World):Calls prog 108 #[.agg (dR m (.slice dA dn dc) (.slice tA tn tc) (.slice rA rn rc)),.string (txt (dW 15))] w (aj w (.string (txt m.nt))):=by
 have hs:(txt (dW 15)).toList=[110,111,116,101]:=by rw[ByteArray.toList_eq];rfl
 have HB:=ah (ba (a:=w) b0 (.cells (dR m (.slice dA dn dc) (.slice tA tn tc) (.slice rA rn rc)) 68));simp only[dR]at HB⊢;go_enter func108,ntmps108;go_wp2_with fail;go_ret;exact⟨rfl,HB.out⟩
theorem alP(m:Mp)(dA tA rA:Option Addr)(dn dc tn tc rn rc:Nat)(w:World):Calls prog 116 #[.agg (dR m (.slice dA dn dc) (.slice tA tn tc) (.slice rA rn rc)),.string (txt (dW 16))] w (aj w (.int .u64 (m.prio:Int))):=by
 have hs:(txt (dW 16)).toList=[112,114,105,111,114,105,116,121]:=by rw[ByteArray.toList_eq];rfl
 have HB:=ah (ba (a:=w) b0 (.cells (dR m (.slice dA dn dc) (.slice tA tn tc) (.slice rA rn rc)) 68));simp only[dR]at HB⊢;go_enter func116,ntmps116;go_wp2_with fail;go_ret;exact⟨rfl,HB.out⟩
theorem amv(m:Mp)(dA tA rA:Option Addr)(dn dc tn tc rn rc:Nat)(w:World):Calls prog 108 #[.agg (dR m (.slice dA dn dc) (.slice tA tn tc) (.slice rA rn rc)),.string (txt (dW 17))] w (aj w (.string (txt m.rg))):=by
 have hs:(txt (dW 17)).toList=[114,101,103,105,111,110]:=by rw[ByteArray.toList_eq];rfl
 have HB:=ah (ba (a:=w) b0 (.cells (dR m (.slice dA dn dc) (.slice tA tn tc) (.slice rA rn rc)) 68));simp only[dR]at HB⊢;go_enter func108,ntmps108;go_wp2_with fail;go_ret;exact⟨rfl,HB.out⟩
theorem alQ(m:Mp)(dA tA rA:Option Addr)(dn dc tn tc rn rc:Nat)(w:World):Calls prog 116 #[.agg (dR m (.slice dA dn dc) (.slice tA tn tc) (.slice rA rn rc)),.string (txt (dW 19))] w (aj w (.int .u64 (m.retry:Int))):=by
 have hs:(txt (dW 19)).toList=[114,101,116,114,121]:=by rw[ByteArray.toList_eq];rfl
 have HB:=ah (ba (a:=w) b0 (.cells (dR m (.slice dA dn dc) (.slice tA tn tc) (.slice rA rn rc)) 68));simp only[dR]at HB⊢;go_enter func116,ntmps116;go_wp2_with fail;go_ret;exact⟨rfl,HB.out⟩
theorem alS(m:Mp)(dA tA rA:Option Addr)(dn dc tn tc rn rc:Nat)(w:World):Calls prog 116 #[.agg (dR m (.slice dA dn dc) (.slice tA tn tc) (.slice rA rn rc)),.string (txt (dW 21))] w (aj w (.int .u64 (m.want:Int))):=by
 have hs:(txt (dW 21)).toList=[119,97,110,116]:=by rw[ByteArray.toList_eq];rfl
 have HB:=ah (ba (a:=w) b0 (.cells (dR m (.slice dA dn dc) (.slice tA tn tc) (.slice rA rn rc)) 68));simp only[dR]at HB⊢;go_enter func116,ntmps116;go_wp2_with fail;go_ret;exact⟨rfl,HB.out⟩
theorem alZ(m:Mp)(dA tA rA:Option Addr)(dn dc tn tc rn rc:Nat)(w:World):∀i,i<22→gy i=0→Calls prog 116 #[.agg (dR m (.slice dA dn dc) (.slice tA tn tc) (.slice rA rn rc)),.string (txt (dW i))] w (aj w (.int .u64 ((m.val i).field.1:Int))):=by
 refine kD (fun h=>aJ h (by decide)) (fun _=>alK m dA tA rA dn dc tn tc rn rc w) (fun _=>alR m dA tA rA dn dc tn tc rn rc w) (fun _=>alT m dA tA rA dn dc tn tc rn rc w) (fun _=>alU m dA tA rA dn dc tn tc rn rc w) (fun _=>alV m dA tA rA dn dc tn tc rn rc w) (fun h=>aJ h (by decide)) (fun _=>alW m dA tA rA dn dc tn tc rn rc w) (fun _=>alX m dA tA rA dn dc tn tc rn rc w) (fun _=>alY m dA tA rA dn dc tn tc rn rc w) (fun _=>alL m dA tA rA dn dc tn tc rn rc w) (fun _=>alM m dA tA rA dn dc tn tc rn rc w) (fun _=>alN m dA tA rA dn dc tn tc rn rc w) (fun _=>alO m dA tA rA dn dc tn tc rn rc w) (fun h=>aJ h (by decide)) (fun h=>aJ h (by decide)) (fun _=>alP m dA tA rA dn dc tn tc rn rc w) (fun h=>aJ h (by decide)) (fun h=>aJ h (by decide)) (fun _=>alQ m dA tA rA dn dc tn tc rn rc w) (fun h=>aJ h (by decide)) (fun _=>alS m dA tA rA dn dc tn tc rn rc w)
theorem ac3(m:Mp)(dA tA rA:Option Addr)(dn dc tn tc rn rc:Nat)(w:World):∀i,i<22→gy i=3→Calls prog 108 #[.agg (dR m (.slice dA dn dc) (.slice tA tn tc) (.slice rA rn rc)),.string (txt (dW i))] w (aj w (.string (txt (m.val i).field.2))):=by
 refine kD (fun h=>aJ h (by decide)) (fun h=>aJ h (by decide)) (fun h=>aJ h (by decide)) (fun h=>aJ h (by decide)) (fun h=>aJ h (by decide)) (fun h=>aJ h (by decide)) (fun h=>aJ h (by decide)) (fun h=>aJ h (by decide)) (fun h=>aJ h (by decide)) (fun h=>aJ h (by decide)) (fun h=>aJ h (by decide)) (fun h=>aJ h (by decide)) (fun h=>aJ h (by decide)) (fun h=>aJ h (by decide)) (fun _=>ams m dA tA rA dn dc tn tc rn rc w) (fun _=>amu m dA tA rA dn dc tn tc rn rc w) (fun h=>aJ h (by decide)) (fun _=>amv m dA tA rA dn dc tn tc rn rc w) (fun h=>aJ h (by decide)) (fun h=>aJ h (by decide)) (fun h=>aJ h (by decide)) (fun h=>aJ h (by decide))
