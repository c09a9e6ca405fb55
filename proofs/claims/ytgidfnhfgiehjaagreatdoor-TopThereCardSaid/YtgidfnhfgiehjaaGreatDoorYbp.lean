/-
  Parts of the proof. Conditions: as each names.
-/
import Derived.Test.YtgidfnhfgiehjaaGreatDoorYbk
namespace Go.Proofs.YtgidfnhfgiehjaaGreatDoor
open Go.PM Go.RowKit Go.Proofs.Tryz
set_option maxRecDepth 100000
set_option maxHeartbeats 4000000
attribute [local go_sem ↓] Go.wp_at_zero Go.wp_at_succ
def bvs(m:Mp)(dv tv:Value):Array Value:=#[.int .i64 m.kind,.int .u64 (m.id:Int),.int .u64 (m.min_:Int),.int .u64 (m.max_:Int),.int .u64 (m.chosen:Int),.int .u64 (m.flags:Int),.int .u64 (m.cost:Int),.int .u64 (m.prio:Int),.int .u64 (m.dead:Int),.int .u64 (m.retry:Int),.int .u64 (m.epoch:Int),.int .u64 (m.base:Int),.int .u64 (m.digest:Int),.int .u64 (m.lag:Int),.int .u64 (m.code:Int),.int .u64 (m.want:Int),.int .i64 m.rem,.bool m.al,.string (txt m.nm),.string (txt m.rg),.string (txt m.nt),dv,tv]
def zq:Array Value:=#[.int .i64 0,.int .u64 0,.int .u64 0,.int .u64 0,.int .u64 0,.int .u64 0,.int .u64 0,.int .u64 0,.int .u64 0,.int .u64 0,.int .u64 0,.int .u64 0,.int .u64 0,.int .u64 0,.int .u64 0,.int .u64 0,.int .i64 0,.bool false,.string ⟨#[]⟩,.string ⟨#[]⟩,.string ⟨#[]⟩,.slice none 0 0,.slice none 0 0]
theorem OE(m:Mp)(dv tv:Value):(prog.info? 28).map (·.size)=some (bvs m dv tv).size:=by kernel_rfl
theorem YZ{m:Mp}{A B:Option Addr}{n1 n2 c1 c2:Nat}:(bvs m (.slice A n1 c1) (.slice B n2 c2)).all (·.oneCell')=true:=by simp[bvs,Value.oneCell']
theorem afp(m:Mp)(dv tv rv:Value)(j:Nat)(u:Value)(h:(bvs m dv tv).toList[j]?=some u):(dR m dv tv rv)[j]?=some u:=by
 have e:dR m dv tv rv=(bvs m dv tv).push rv:=rfl;rw[bU]at h;obtain⟨hj,e2⟩:=bY.1 h;rw[e,Array.getElem?_push_lt hj,e2]
theorem adO{P:Program}{ops:Array Oper}{rest:List Oper}{op:Oper}{a:Act}{w:World}{Q:Exit→Act→World→Prop}(hgd:op.guard=none)(ty:TypeId)(x:Operand)(ho:op.op=.load ty x)
 (b:Nat) (hx:a.eval x=.pointer (some ⟨b,0,none⟩)) {t:TypeId} {m:Mp} {dv tv rv:Value} (hc:dU w b t (dR m dv tv rv)) {d:TypeDesc}
 (hu:P.underlying ty=some d) (hd:d.isRow=true) (hi:(P.info? ty).map (·.size)=some (bvs m dv tv).size)
 (h:wpList P ops Q rest (a.put op.dst (.agg (bvs m dv tv))) w):wpList P ops Q (op::rest) a w :=
 wpList_load_mid hgd ty x ho b 0 hx (bvs m dv tv).toList d (fun j u hj=>by rw[aX,hc.cell j];exact afp m dv tv rv j u hj) hu hd (by rw[hi];simp) (by simpa using h)
structure I5 (m:Mp) (ol:List One):Prop where
 nm:m.nm.length≤600
 rg:m.rg.length≤600
 nt:m.nt.length≤600
 d:vH m.d=true
 t:∀r∈m.t,r.1.length≤18∧vH r.1=true
 tl:m.t.length≤300
 o:few ol=true
def KR(w:World)(m:Mp)(ol:List One)(e:Ending)(w':World):Prop:=(∃F:Bool,e=.returned (.bool F)∧(F=true→I5 m ol))∧Below w.heap.size w w'
theorem ale{m:Mp}{dv tv:Value}{oA:Option Addr}{oc:Nat}{ol:List One}(H:Nat)(w:World)(hT:Tabs w)(hv:yM w m dv tv)(hz:I7 m)(hr:nD H w oA ol)(hok:∀x∈ol,x.ok)(hlc:ol.length≤oc)(hcm:oc≤maxLen) :
 Calls prog 9 #[.agg (dR m dv tv (.slice oA ol.length oc))] w (KR w m ol):=by
 obtain⟨⟨dA,dc,rfl,hdl,hdm,hdr⟩,tl,tA,tc,rfl,Ak,htr,hto,htl,htc⟩:=hv
 have Ey:tl.length=m.t.length:=by rw[Ak,aY]
 unfold maxLen at hdm htc hcm
 rw[Ey]at htl⊢
 have oM:=ah (fun z (EG:Below w.heap.size w z)=>ZK dA dc m.d z (hdr.rd.below EG) hz.d (by omega))
 have FK:Hid (∀z,Below w.heap.size w z→Calls prog 32 #[.slice tA m.t.length tc] z fun e w'=>(∃F:Bool,e=.returned (.bool F)∧(F=true→(∀r∈m.t,r.1.length≤18∧vH r.1=true)∧m.t.length≤300))∧Below z.heap.size z w'):=fun z EG=>by
  have h1:=ag7 tA tc tl (fun _=>True) z (hT.below EG) (htr.below EG) (fun r hr=>⟨(hto r hr).1.below EG,(hto r hr).2.1,by have h2:=(hto r hr).1.1;have h3:=(hto r hr).2.2.1;unfold maxLen at h3;omega⟩) (by omega);rw[Ey]at h1;refine h1.mono fun e w' ⟨⟨F,he,hF⟩,hb⟩=>⟨⟨F,he,fun h=>?_⟩,hb⟩;obtain⟨h2,h3⟩:=hF h;refine⟨fun r hr=>?_,by omega⟩;rw[Ak]at hr;obtain⟨q,hq,rfl⟩:=dL.1 hr;exact h2 q hq
 have rH:=ah (fun z (EG:Below w.heap.size w z)=>ag8 H oA oc ol z (hr.below EG) hok (by omega))
 have HQ:Hid (∀e w',(∃F:Bool,e=.returned (.bool F)∧(F=true→I5 m ol))∧Below w.heap.size w w'→KR w m ol e w'):=fun e w' h=>h
 generalize KR w m ol=Q at *
 clear hT hdr hto htr hok hr hdl hdm htl htc hlc hcm Ak Ey hz
 obtain⟨wz,hwz,hsz,HM,fC⟩:=lM w 31 (dR m (.slice dA m.d.length dc) (.slice tA m.t.length tc) (.slice oA ol.length oc))
 have hm1:=dU.made wz 28 zq
 have hm2:=ny (ds:=bvs m (.slice dA m.d.length dc) (.slice tA m.t.length tc)) hm1 rfl
 have hb1:Below wz.heap.size wz (World.jM (wz.alloc (.cells zq 28)) wz.heap.size (bvs m (.slice dA m.d.length dc) (.slice tA m.t.length tc))) :=
  (ba (a:=wz) b0 (.cells zq 28)).trans ((mD _ wz.heap.size _).iI (by simp) fun g hg e=>by omega)
 rw[hsz]at hm1
 rw[hsz]at hm2
 obtain⟨w1,hw1⟩:∃w1,w1=World.jM (wz.alloc (.cells zq 28)) (w.heap.size+1) (bvs m (.slice dA m.d.length dc) (.slice tA m.t.length tc)):=⟨_,rfl⟩
 rw[hsz,← hw1]at hb1
 rw[← hw1]at hm2
 have HB1:Hid (Below w.heap.size w w1):=fC.out.trans (hb1.mono (by omega))
 have HZ1:=ah hm1
 have HX:=ah hm2
 have HR1:Hid (dU w1 w.heap.size 31 (dR m (.slice dA m.d.length dc) (.slice tA m.t.length tc) (.slice oA ol.length oc))):=HM.out.below hb1 (by omega)
 clear hm1 hm2 hb1
 simp only[zq]at HZ1 hw1
 simp only[dR]at hwz
 have iO:=HM
 rw[hwz]at iO
 unfold dR
 go_enter func9,ntmps9
 go_wp2_with(first|(with_reducible show wpList _ _ _ (Oper.mk _ (Op.load 28 _) _ _ _ _::_) _ _;refine adO rfl _ _ rfl _ rfl iO.out underlying28 rfl (OE _ _ _) ?_)|(with_reducible show wpList _ _ _ (Oper.mk _ (Op.store 28 _ _) _ _ _ _::_) _ _;apply pin))
 rw[← hwz]
 refine nO rfl _ _ _ rfl _ (bvs m (.slice dA m.d.length dc) (.slice tA m.t.length tc)) rfl rfl HZ1.out rfl (OE _ _ _) YZ ?_
 rw[← hw1]
 clear hwz hw1 HZ1 iO HM fC hsz
 simp only[Act.put]
 have c18:w1.cell? ⟨w.heap.size+1,18,none⟩=some (.string (txt m.nm)):=HX.out.cell 18
 have c19:w1.cell? ⟨w.heap.size+1,19,none⟩=some (.string (txt m.rg)):=HX.out.cell 19
 have c20:w1.cell? ⟨w.heap.size+1,20,none⟩=some (.string (txt m.nt)):=HX.out.cell 20
 have c21:w1.cell? ⟨w.heap.size+1,21,none⟩=some (.slice dA m.d.length dc):=HX.out.cell 21
 have hlt:w.heap.size+1<w1.heap.size:=HX.out.lt
 have hlt0:w.heap.size<w1.heap.size:=HR1.out.lt
 have Px:=gI m.nm
 have Py:=gI m.rg
 have s20:=gI m.nt
 by_cases k18:m.nm.length≤600
 ·have d18:decide (((txt m.nm).size:Int)≤600)=true:=bH (by omega)
  by_cases k19:m.rg.length≤600
  ·have d19:decide (((txt m.rg).size:Int)≤600)=true:=bH (by omega)
   by_cases k20:m.nt.length≤600
   ·have d20:decide (((txt m.nt).size:Int)≤600)=true:=bH (by omega)
    have HK:Hid (m.nm.length≤600∧m.rg.length≤600∧m.nt.length≤600):=⟨k18,k19,k20⟩;clear Px Py s20 k18 k19 k20;go_wp2_with fail;refine(oM.out _ HB1.out).mono ?_;rintro e w2 ⟨rfl,hb2⟩;have HB2:=ah (bb HB1.out hb2);have hx2:=HX.out.below hb2 hlt;have HR2:=ah (HR1.out.below hb2 hlt0);have MV:w2.cell? ⟨w.heap.size+1,22,none⟩=some (.slice tA m.t.length tc):=hx2.cell 22;have hlt2:=hx2.lt;have hlt3:=HR2.out.lt;clear c18 c19 c20 c21 hlt hlt0 hb2 HB1 HX HR1 oM hx2;cases hD:vH m.d with
    |false=>
      clear hD FK rH;go_wp2_with fail;exact HQ.out _ _ ⟨⟨false,rfl,fun h=>by cases h⟩,HB2.out⟩
    |true=>
      have HD:=ah hD;clear hD;go_wp2_with fail;refine(FK.out _ HB2.out).mono ?_;rintro e w3 ⟨⟨F,rfl,hF⟩,hb3⟩;have HB3:=ah (bb HB2.out hb3);have hr3:=HR2.out.below hb3 hlt3;have c23:w3.cell? ⟨w.heap.size,23,none⟩=some (.slice oA ol.length oc):=hr3.cell 23;have hlt4:=hr3.lt;have HF:=ah hF;clear MV hlt2 hlt3 hb3 HB2 HR2 FK hr3 hF;cases F with
      |false=>
        clear HF rH;go_wp2_with fail;exact HQ.out _ _ ⟨⟨false,rfl,fun h=>by cases h⟩,HB3.out⟩
      |true=>
        have HF2:=ah (HF.out rfl);clear HF;go_wp2_with fail;refine(rH.out _ HB3.out).mono ?_;rintro e w4 ⟨rfl,hb4⟩;have HB4:=ah (bb HB3.out hb4);clear c23 hlt4 hb4 HB3 rH;go_wp2_with fail;exact HQ.out _ _ ⟨⟨_,rfl,fun h=>⟨HK.out.1,HK.out.2.1,HK.out.2.2,HD.out,HF2.out.1,HF2.out.2,h⟩⟩,HB4.out⟩
   ·have d20:decide (((txt m.nt).size:Int)≤600)=false:=aO (by omega)
    clear Px Py s20 oM FK rH HX HR1;go_wp2_with fail;exact HQ.out _ _ ⟨⟨false,rfl,fun h=>by cases h⟩,HB1.out⟩
  ·have d19:decide (((txt m.rg).size:Int)≤600)=false:=aO (by omega)
   clear Px Py s20 oM FK rH HX HR1;go_wp2_with fail;exact HQ.out _ _ ⟨⟨false,rfl,fun h=>by cases h⟩,HB1.out⟩
 ·have d18:decide (((txt m.nm).size:Int)≤600)=false:=aO (by omega)
  clear Px Py s20 oM FK rH HX HR1;go_wp2_with fail;exact HQ.out _ _ ⟨⟨false,rfl,fun h=>by cases h⟩,HB1.out⟩
def Rx(w:World)(m:Mp)(n:Nat)(e:Ending)(w':World):Prop :=
 ∃(f:Fs) (dv tv:Value) (A:Option Addr) (c:Nat),e=.returned (.agg (dR m dv tv (.slice A f.len c)))∧f.count=n∧f.All sH∧gU w' (fun _=>True) { m with rest:=f } dv tv (.slice A f.len c)∧Below w.heap.size w w'
theorem alf{m:Mp}{dv tv:Value}{oA:Option Addr}{oc:Nat}{ol:List One}(H:Nat)(w:World)(hH:H≤w.heap.size)(hv:yM w m dv tv)(hr:nD H w oA ol)(hok:∀x∈ol,x.ok)(hlc:ol.length≤oc)(hcm:oc≤maxLen)(hfew:few ol=true) :
 Calls prog 10 #[.agg (dR m dv tv (.slice oA ol.length oc))] w (Rx w m ol.length):=by
 obtain⟨⟨dA,dc,rfl,hdl,hdm,hdr⟩,tl,tA,tc,rfl,Ak,htr,hto,htl,htc⟩:=hv
 have Ey:tl.length=m.t.length:=by rw[Ak,aY]
 unfold maxLen at hdm htc hcm
 have HVM:Hid (∀(x:World) (f:Fs) (A:Option Addr) (c:Nat),Below w.heap.size w x→eF x (fun _=>True) (.slice A f.len c) f→gU x (fun _=>True) { m with rest:=f } (.slice dA m.d.length dc) (.slice tA m.t.length tc) (.slice A f.len c)):=fun x f A c hx hs=>
  ⟨⟨dA,dc,rfl,hdl,hdr.below hx⟩,⟨tl,tA,tc,by rw[Ey],Ak,htr.below hx,fun r hr=>(hto r hr).1.below hx,htl⟩,hs⟩
 rw[Ey]
 obtain⟨aaO,h60⟩:=aap hfew
 have zG:Hid (∀x,Below w.heap.size w x→Calls prog 34 #[.slice oA ol.length oc] x (YG x ol.length)):=fun x hx=>
  ajf H oA oc ol x (aI hH hx.size) (hr.below hx) (fun y hy=>⟨hok y hy,aaO y hy⟩) h60 hlc hcm
 have HQ:Hid (∀e w',Rx w m ol.length e w'→Rx w m ol.length e w'):=fun e w' h=>h
 clear hdr hto htr hok hr hdl hdm htl htc hlc hcm Ak Ey hH hfew aaO h60
 obtain⟨wz,hwz,hsz,HM,fC⟩:=lM w 31 (dR m (.slice dA m.d.length dc) (.slice tA m.t.length tc) (.slice oA ol.length oc))
 have hy1:=dU.made wz 35 fF
 have hb1:=fC.out.alloc fC.out.size (.cells fF 35)
 have hM1:=HM.out.more (.cells fF 35)
 obtain⟨wy,hwy⟩:∃wy,wy=wz.alloc (.cells fF 35):=⟨_,rfl⟩
 have hsy:wy.heap.size=w.heap.size+1+1:=by rw[hwy];simp[hsz]
 rw[hsz]at hy1
 rw[← hwy]at hy1 hb1 hM1
 have hm1:=dU.made wy 28 zq
 have hm2:=ny (ds:=bvs m (.slice dA m.d.length dc) (.slice tA m.t.length tc)) hm1 rfl
 have hb2:Below wy.heap.size wy (World.jM (wy.alloc (.cells zq 28)) wy.heap.size (bvs m (.slice dA m.d.length dc) (.slice tA m.t.length tc))) :=
  (ba (a:=wy) b0 (.cells zq 28)).trans ((mD _ wy.heap.size _).iI (by simp) fun g hg e=>by omega)
 rw[hsy]at hm1
 rw[hsy]at hm2
 obtain⟨w1,hw1⟩:∃w1,w1=World.jM (wy.alloc (.cells zq 28)) (w.heap.size+1+1) (bvs m (.slice dA m.d.length dc) (.slice tA m.t.length tc)):=⟨_,rfl⟩
 rw[hsy,← hw1]at hb2
 rw[← hw1]at hm2
 have HB1:Hid (Below w.heap.size w w1):=hb1.trans (hb2.mono (by omega))
 have HZ1:=ah hm1
 have HX:=ah hm2
 have HR1:Hid (dU w1 w.heap.size 31 (dR m (.slice dA m.d.length dc) (.slice tA m.t.length tc) (.slice oA ol.length oc))):=hM1.below hb2 (by omega)
 have MC:Hid (dU w1 (w.heap.size+1) 35 fF):=hy1.below hb2 (by omega)
 have iO:=ah hM1
 rw[hwy]at iO
 clear hm1 hm2 hb1 hb2 hy1 hM1
 simp only[zq]at HZ1 hw1
 rw[hwy]at HZ1 hw1
 simp only[fF]at hwy HZ1 hw1 iO
 simp only[dR]at hwz
 rw[hwz]at iO
 unfold dR
 go_enter func10,ntmps10
 go_wp2_with(first|(with_reducible show wpList _ _ _ (Oper.mk _ (Op.load 28 _) _ _ _ _::_) _ _;refine adO rfl _ _ rfl _ rfl iO.out underlying28 rfl (OE _ _ _) ?_)|(with_reducible show wpList _ _ _ (Oper.mk _ (Op.store 28 _ _) _ _ _ _::_) _ _;apply pin))
 rw[← hwz]
 refine nO rfl _ _ _ rfl _ (bvs m (.slice dA m.d.length dc) (.slice tA m.t.length tc)) rfl rfl HZ1.out rfl (OE _ _ _) YZ ?_
 rw[← hw1]
 clear hwz hw1 HZ1 iO HM fC hsz hwy hsy
 simp only[Act.put]
 go_wp2_with fail
 have HY9:=MC.out
 refine wp_region_held_drew (S:=fun q=>(∀j,q.cell? ⟨w.heap.size+1+1,j,none⟩=(bvs m (.slice dA m.d.length dc) (.slice tA m.t.length tc))[j]?)∧q.cell? ⟨w.heap.size,23,none⟩=some (.slice oA ol.length oc)) (by kernel_rfl) ⟨fun j=>HX.out.dr.cell j,HR1.out.dr.cell 23⟩ (fun hHeld=>?_)
 refine dO (i:=0) (v:=?_) rfl ⟨by rfl,?_⟩ ?_
 rotate_left
 ·((intro q dS;(try dsimp only at dS);go_simp);with_reducible rfl)
 try simp only[Act.put]
 refine dO (i:=1) (v:=?_) rfl ⟨by rfl,?_⟩ ?_
 rotate_left
 ·((intro q dS;have hc:q.cell? ⟨w.heap.size+1+1,0,none⟩=some (.int .i64 m.kind):=dS.1 0;clear dS;go_simp);with_reducible rfl)
 try simp only[Act.put]
 refine dO (i:=2) (v:=?_) rfl ⟨by rfl,?_⟩ ?_
 rotate_left
 ·((intro q dS;(try dsimp only at dS);go_simp);with_reducible rfl)
 try simp only[Act.put]
 refine dO (i:=3) (v:=?_) rfl ⟨by rfl,?_⟩ ?_
 rotate_left
 ·((intro q dS;have hc:q.cell? ⟨w.heap.size+1+1,1,none⟩=some (.int .u64 (m.id:Int)):=dS.1 1;clear dS;go_simp);with_reducible rfl)
 try simp only[Act.put]
 refine dO (i:=4) (v:=?_) rfl ⟨by rfl,?_⟩ ?_
 rotate_left
 ·((intro q dS;(try dsimp only at dS);go_simp);with_reducible rfl)
 try simp only[Act.put]
 refine dO (i:=5) (v:=?_) rfl ⟨by rfl,?_⟩ ?_
 rotate_left
 ·((intro q dS;have hc:q.cell? ⟨w.heap.size+1+1,2,none⟩=some (.int .u64 (m.min_:Int)):=dS.1 2;clear dS;go_simp);with_reducible rfl)
 try simp only[Act.put]
 refine dO (i:=6) (v:=?_) rfl ⟨by rfl,?_⟩ ?_
 rotate_left
 ·((intro q dS;(try dsimp only at dS);go_simp);with_reducible rfl)
 try simp only[Act.put]
 refine dO (i:=7) (v:=?_) rfl ⟨by rfl,?_⟩ ?_
 rotate_left
 ·((intro q dS;have hc:q.cell? ⟨w.heap.size+1+1,3,none⟩=some (.int .u64 (m.max_:Int)):=dS.1 3;clear dS;go_simp);with_reducible rfl)
 try simp only[Act.put]
 refine dO (i:=8) (v:=?_) rfl ⟨by rfl,?_⟩ ?_
 rotate_left
 ·((intro q dS;(try dsimp only at dS);go_simp);with_reducible rfl)
 try simp only[Act.put]
 refine dO (i:=9) (v:=?_) rfl ⟨by rfl,?_⟩ ?_
 rotate_left
 ·((intro q dS;have hc:q.cell? ⟨w.heap.size+1+1,4,none⟩=some (.int .u64 (m.chosen:Int)):=dS.1 4;clear dS;go_simp);with_reducible rfl)
 try simp only[Act.put]
 refine dO (i:=10) (v:=?_) rfl ⟨by rfl,?_⟩ ?_
 rotate_left
 ·((intro q dS;(try dsimp only at dS);go_simp);with_reducible rfl)
 try simp only[Act.put]
 refine dO (i:=11) (v:=?_) rfl ⟨by rfl,?_⟩ ?_
 rotate_left
 ·((intro q dS;have hc:q.cell? ⟨w.heap.size+1+1,5,none⟩=some (.int .u64 (m.flags:Int)):=dS.1 5;clear dS;go_simp);with_reducible rfl)
 try simp only[Act.put]
 refine dO (i:=12) (v:=?_) rfl ⟨by rfl,?_⟩ ?_
 rotate_left
 ·((intro q dS;(try dsimp only at dS);go_simp);with_reducible rfl)
 try simp only[Act.put]
 refine dO (i:=13) (v:=?_) rfl ⟨by rfl,?_⟩ ?_
 rotate_left
 ·((intro q dS;have hc:q.cell? ⟨w.heap.size+1+1,6,none⟩=some (.int .u64 (m.cost:Int)):=dS.1 6;clear dS;go_simp);with_reducible rfl)
 try simp only[Act.put]
 refine dO (i:=14) (v:=?_) rfl ⟨by rfl,?_⟩ ?_
 rotate_left
 ·((intro q dS;(try dsimp only at dS);go_simp);with_reducible rfl)
 try simp only[Act.put]
 refine dO (i:=15) (v:=?_) rfl ⟨by rfl,?_⟩ ?_
 rotate_left
 ·((intro q dS;have hc:q.cell? ⟨w.heap.size+1+1,7,none⟩=some (.int .u64 (m.prio:Int)):=dS.1 7;clear dS;go_simp);with_reducible rfl)
 try simp only[Act.put]
 refine dO (i:=16) (v:=?_) rfl ⟨by rfl,?_⟩ ?_
 rotate_left
 ·((intro q dS;(try dsimp only at dS);go_simp);with_reducible rfl)
 try simp only[Act.put]
 refine dO (i:=17) (v:=?_) rfl ⟨by rfl,?_⟩ ?_
 rotate_left
 ·((intro q dS;have hc:q.cell? ⟨w.heap.size+1+1,8,none⟩=some (.int .u64 (m.dead:Int)):=dS.1 8;clear dS;go_simp);with_reducible rfl)
 try simp only[Act.put]
 refine dO (i:=18) (v:=?_) rfl ⟨by rfl,?_⟩ ?_
 rotate_left
 ·((intro q dS;(try dsimp only at dS);go_simp);with_reducible rfl)
 try simp only[Act.put]
 refine dO (i:=19) (v:=?_) rfl ⟨by rfl,?_⟩ ?_
 rotate_left
 ·((intro q dS;have hc:q.cell? ⟨w.heap.size+1+1,9,none⟩=some (.int .u64 (m.retry:Int)):=dS.1 9;clear dS;go_simp);with_reducible rfl)
 try simp only[Act.put]
 refine dO (i:=20) (v:=?_) rfl ⟨by rfl,?_⟩ ?_
 rotate_left
 ·((intro q dS;(try dsimp only at dS);go_simp);with_reducible rfl)
 try simp only[Act.put]
 refine dO (i:=21) (v:=?_) rfl ⟨by rfl,?_⟩ ?_
 rotate_left
 ·((intro q dS;have hc:q.cell? ⟨w.heap.size+1+1,10,none⟩=some (.int .u64 (m.epoch:Int)):=dS.1 10;clear dS;go_simp);with_reducible rfl)
 try simp only[Act.put]
 refine dO (i:=22) (v:=?_) rfl ⟨by rfl,?_⟩ ?_
 rotate_left
 ·((intro q dS;(try dsimp only at dS);go_simp);with_reducible rfl)
 try simp only[Act.put]
 refine dO (i:=23) (v:=?_) rfl ⟨by rfl,?_⟩ ?_
 rotate_left
 ·((intro q dS;have hc:q.cell? ⟨w.heap.size+1+1,11,none⟩=some (.int .u64 (m.base:Int)):=dS.1 11;clear dS;go_simp);with_reducible rfl)
 try simp only[Act.put]
 refine dO (i:=24) (v:=?_) rfl ⟨by rfl,?_⟩ ?_
 rotate_left
 ·((intro q dS;(try dsimp only at dS);go_simp);with_reducible rfl)
 try simp only[Act.put]
 refine dO (i:=25) (v:=?_) rfl ⟨by rfl,?_⟩ ?_
 rotate_left
 ·((intro q dS;have hc:q.cell? ⟨w.heap.size+1+1,12,none⟩=some (.int .u64 (m.digest:Int)):=dS.1 12;clear dS;go_simp);with_reducible rfl)
 try simp only[Act.put]
 refine dO (i:=26) (v:=?_) rfl ⟨by rfl,?_⟩ ?_
 rotate_left
 ·((intro q dS;(try dsimp only at dS);go_simp);with_reducible rfl)
 try simp only[Act.put]
 refine dO (i:=27) (v:=?_) rfl ⟨by rfl,?_⟩ ?_
 rotate_left
 ·((intro q dS;have hc:q.cell? ⟨w.heap.size+1+1,13,none⟩=some (.int .u64 (m.lag:Int)):=dS.1 13;clear dS;go_simp);with_reducible rfl)
 try simp only[Act.put]
 refine dO (i:=28) (v:=?_) rfl ⟨by rfl,?_⟩ ?_
 rotate_left
 ·((intro q dS;(try dsimp only at dS);go_simp);with_reducible rfl)
 try simp only[Act.put]
 refine dO (i:=29) (v:=?_) rfl ⟨by rfl,?_⟩ ?_
 rotate_left
 ·((intro q dS;have hc:q.cell? ⟨w.heap.size+1+1,14,none⟩=some (.int .u64 (m.code:Int)):=dS.1 14;clear dS;go_simp);with_reducible rfl)
 try simp only[Act.put]
 refine dO (i:=30) (v:=?_) rfl ⟨by rfl,?_⟩ ?_
 rotate_left
 ·((intro q dS;(try dsimp only at dS);go_simp);with_reducible rfl)
 try simp only[Act.put]
 refine dO (i:=31) (v:=?_) rfl ⟨by rfl,?_⟩ ?_
 rotate_left
 ·((intro q dS;have hc:q.cell? ⟨w.heap.size+1+1,15,none⟩=some (.int .u64 (m.want:Int)):=dS.1 15;clear dS;go_simp);with_reducible rfl)
 try simp only[Act.put]
 refine dO (i:=32) (v:=?_) rfl ⟨by rfl,?_⟩ ?_
 rotate_left
 ·((intro q dS;(try dsimp only at dS);go_simp);with_reducible rfl)
 try simp only[Act.put]
 refine dO (i:=33) (v:=?_) rfl ⟨by rfl,?_⟩ ?_
 rotate_left
 ·((intro q dS;have hc:q.cell? ⟨w.heap.size+1+1,16,none⟩=some (.int .i64 m.rem):=dS.1 16;clear dS;go_simp);with_reducible rfl)
 try simp only[Act.put]
 refine dO (i:=34) (v:=?_) rfl ⟨by rfl,?_⟩ ?_
 rotate_left
 ·((intro q dS;(try dsimp only at dS);go_simp);with_reducible rfl)
 try simp only[Act.put]
 refine dO (i:=35) (v:=?_) rfl ⟨by rfl,?_⟩ ?_
 rotate_left
 ·((intro q dS;have hc:q.cell? ⟨w.heap.size+1+1,17,none⟩=some (.bool m.al):=dS.1 17;clear dS;go_simp);with_reducible rfl)
 try simp only[Act.put]
 refine dO (i:=36) (v:=?_) rfl ⟨by rfl,?_⟩ ?_
 rotate_left
 ·((intro q dS;(try dsimp only at dS);go_simp);with_reducible rfl)
 try simp only[Act.put]
 refine dO (i:=37) (v:=?_) rfl ⟨by rfl,?_⟩ ?_
 rotate_left
 ·((intro q dS;have hc:q.cell? ⟨w.heap.size+1+1,18,none⟩=some (.string (txt m.nm)):=dS.1 18;clear dS;go_simp);with_reducible rfl)
 try simp only[Act.put]
 refine dO (i:=38) (v:=?_) rfl ⟨by rfl,?_⟩ ?_
 rotate_left
 ·((intro q dS;(try dsimp only at dS);go_simp);with_reducible rfl)
 try simp only[Act.put]
 refine dO (i:=39) (v:=?_) rfl ⟨by rfl,?_⟩ ?_
 rotate_left
 ·((intro q dS;have hc:q.cell? ⟨w.heap.size+1+1,19,none⟩=some (.string (txt m.rg)):=dS.1 19;clear dS;go_simp);with_reducible rfl)
 try simp only[Act.put]
 refine dO (i:=40) (v:=?_) rfl ⟨by rfl,?_⟩ ?_
 rotate_left
 ·((intro q dS;(try dsimp only at dS);go_simp);with_reducible rfl)
 try simp only[Act.put]
 refine dO (i:=41) (v:=?_) rfl ⟨by rfl,?_⟩ ?_
 rotate_left
 ·((intro q dS;have hc:q.cell? ⟨w.heap.size+1+1,20,none⟩=some (.string (txt m.nt)):=dS.1 20;clear dS;go_simp);with_reducible rfl)
 try simp only[Act.put]
 refine dO (i:=42) (v:=?_) rfl ⟨by rfl,?_⟩ ?_
 rotate_left
 ·((intro q dS;(try dsimp only at dS);go_simp);with_reducible rfl)
 try simp only[Act.put]
 refine dO (i:=43) (v:=?_) rfl ⟨by rfl,?_⟩ ?_
 rotate_left
 ·((intro q dS;have hc:q.cell? ⟨w.heap.size+1+1,21,none⟩=some (.slice dA m.d.length dc):=dS.1 21;clear dS;go_simp);with_reducible rfl)
 try simp only[Act.put]
 refine dO (i:=44) (v:=?_) rfl ⟨by rfl,?_⟩ ?_
 rotate_left
 ·((intro q dS;(try dsimp only at dS);go_simp);with_reducible rfl)
 try simp only[Act.put]
 refine dO (i:=45) (v:=?_) rfl ⟨by rfl,?_⟩ ?_
 rotate_left
 ·((intro q dS;have hc:q.cell? ⟨w.heap.size+1+1,22,none⟩=some (.slice tA m.t.length tc):=dS.1 22;clear dS;go_simp);with_reducible rfl)
 try simp only[Act.put]
 refine dO (i:=46) (v:=?_) rfl ⟨by rfl,?_⟩ ?_
 rotate_left
 ·((intro q dS;(try dsimp only at dS);go_simp);with_reducible rfl)
 try simp only[Act.put]
 refine dO (i:=47) (v:=?_) rfl ⟨by rfl,?_⟩ ?_
 rotate_left
 ·((intro q dS;have hc:=dS.2;clear dS;go_simp);with_reducible rfl)
 try simp only[Act.put]
 refine wpAnyH_ready (rs:=[48]) (by kernel_rfl) (by simp) ?_
 refine dP rfl fun K hK=>?_
 go_simp
 refine(zG.out _ HB1.out.drew).mono ?_
 rintro e W1 ⟨f,A1,c1,rfl,hfc,hfk,hsl,hb2⟩
 have HB2:=ah (HB1.out.drew.trans (hb2.mono HB1.out.drew.size))
 have kC:=ah (HX.out.dr.below hb2 HX.out.dr.lt)
 have HR2:=ah (HR1.out.dr.below hb2 HR1.out.dr.lt)
 have DI:=ah (MC.out.dr.below hb2 MC.out.dr.lt)
 have sN:=ah hfc
 have HFK:=ah hfk
 have HSL:=ah (hsl.imp (J:=fun k=>w.heap.size+1<k) fun k hk=>aQ MC.out.lt hk)
 clear hfc hfk hsl hb2 zG hHeld
 go_simp
 refine hK.out _ _ ⟨fun j=>kC.out.cell j,HR2.out.cell 23⟩ (fun hHeld=>?_)
 clear hK K
 refine wpAnyH_take (i:=49) (v:=.agg (dR m (.slice dA m.d.length dc) (.slice tA m.t.length tc) (.slice A1 f.len c1))) rfl (by kernel_rfl) (by kernel_rfl) (by kernel_rfl) (fun _ _ _ h=>h) (Or.inl ⟨by rfl,?_⟩) (by assumption) ?_
 ·intro q dS
  kernel_rfl
 generalize hd:Oper.dst _=dd
 obtain rfl:some 55=dd:=hd
 simp only[Act.put]
 refine wpAnyH_ready (rs:=[50]) (by kernel_rfl) (by simp) ?_
 refine dP rfl fun K hK=>?_
 refine wp_store_mid 35 (.tmp 2) (.tmp 55) rfl (w.heap.size+1) 0 (dR m (.slice dA m.d.length dc) (.slice tA m.t.length tc) (.slice A1 f.len c1)) rfl rfl (fun j hj=>by rw[aX];exact⟨by rw[DI.out.cell j,Array.getElem?_eq_getElem (show j<fF.size from hj)];rfl,DI.out.free j⟩) (iC _ _ _ _) sF ?_
 have HS:=ah (mD W1 (w.heap.size+1) (dR m (.slice dA m.d.length dc) (.slice tA m.t.length tc) (.slice A1 f.len c1)))
 have YA:=ah (ny (ds:=dR m (.slice dA m.d.length dc) (.slice tA m.t.length tc) (.slice A1 f.len c1)) DI.out rfl)
 show K _ (World.jM W1 (w.heap.size+1) (dR m (.slice dA m.d.length dc) (.slice tA m.t.length tc) (.slice A1 f.len c1)))
 generalize hd:Oper.dst _=dd
 obtain rfl:none=dd:=hd
 simp only[Act.put]
 obtain⟨w3,hw3⟩:∃w3,w3=World.jM W1 (w.heap.size+1) (dR m (.slice dA m.d.length dc) (.slice tA m.t.length tc) (.slice A1 f.len c1)):=⟨_,rfl⟩
 rw[← hw3]at HS YA⊢
 clear hw3
 refine hK.out _ _ ⟨fun j=>(kC.out.fE HS.out (by omega)).cell j,(HR2.out.fE HS.out (by omega)).cell 23⟩ (fun hHeld=>?_)
 clear hK K
 refine wpAnyH_done (by kernel_rfl) ?_ _
 clear hHeld
 go_wp2_with fail
 refine bodyPost_ret (v:=.agg (dR m (.slice dA m.d.length dc) (.slice tA m.t.length tc) (.slice A1 f.len c1))) (by exact results_cell_row rfl _ _ (w.heap.size+1) 35 _ (0,0) _ rfl YA.out underlying35 rfl (iC _ _ _ _)) rfl ?_
 have hb3:=HS.out.iI (B:=w.heap.size) HB2.out.size fun g hg e=>by omega
 exact⟨f,_,_,A1,c1,rfl,sN.out,HFK.out,HVM.out _ _ _ _ (HB2.out.trans hb3) ((HSL.out.fE HS.out fun k hk e=>by omega).imp fun _ _=>trivial),HB2.out.trans hb3⟩
