/-
  Parts of the proof. Conditions: as each names.
-/
import Derived.Test.YtgidfnhfgiehjaaGreatDoorYbt
import Derived.Test.YtgidfnhfgiehjaaGreatDoorYbm
import Derived.Test.YtgidfnhfgiehjaaGreatDoorYbu
namespace Go.Proofs.YtgidfnhfgiehjaaGreatDoor
open Go.PM Go.RowKit Go.Proofs.Tryz
set_option maxRecDepth 100000
set_option maxHeartbeats 4000000
attribute [local go_sem ↓] Go.wp_at_zero Go.wp_at_succ
theorem amg(v:Nat)(h1:1≤v)(h3:v≤3){I:Nat→Prop}{m:Mp}{dv tv rv:Value}(w:World)(hv:gU w I m dv tv rv)(hz:jV m)(hT:Tabs w)(hc:iG m v=0) :
 Calls prog 62 #[.agg (dR m dv tv rv),.int .i64 (v:Int)] w (aj w (.string (txt (dY (eH m.kind)++eu (fQ m v).1)))):=by
 have HZ:=ah hz
 have HT:=ah hT
 obtain⟨hf0,hfP⟩:=ab9 hz.good hc
 obtain⟨g1,g2,g3⟩:=ace hz hf0
 have h4:=EJ (vS hc).1
 have hk8:=h4.2.1
 have hkk:m.kind=(eH m.kind:Int):=by
  have h1:=h4.1;unfold eH at h1⊢;split at h1
  ·rename_i h;rw[aA h];omega
  omega
 have KK:=ah hkk
 have QN:Hid (∀A c x J,eF x J (.slice A (fQ m v).1.len c) (fQ m v).1→Calls prog 114 #[.slice A (fQ m v).1.len c] x (aj x (.string (txt (eu (fQ m v).1))))) :=
  fun A c x J h=>amj _ A c _ J 0 0 x (au _) h hfP g2 g3
 have HG:=ah g3
 obtain⟨dA,dc,tA,tc,rA,rc,rfl,rfl,rfl⟩:=hv.slices
 obtain⟨wz,hwz,-,HM,fC⟩:=lM w 68 (dR m (.slice dA m.d.length dc) (.slice tA m.t.length tc) (.slice rA m.rest.len rc))
 have HV:=ah (hv.below fC.out)
 clear hv
 simp only[dR]at hwz
 have wE:=ah (alv v h1 h3 wz HV.out HZ.out (HT.out.below fC.out))
 have iO:=HM
 rw[hwz]at iO
 clear hz hT HV HZ HT hkk h4 hc hfP g1 g2 g3
 generalize fQ m v=FE at *
 obtain⟨F,E⟩:=FE
 simp only at QN HG
 show Calls _ _ _ _ fun e w'=>e=.returned (.string (txt (dY (eH m.kind)++eu F)))∧_
 obtain⟨Z,hZ⟩:∃Z,Z=txt (dY (eH m.kind)++eu F):=⟨_,rfl⟩
 rw[← hZ]
 have Bh:=ah hZ
 clear hZ
 unfold dR
 go_enter func62,ntmps62
 go_wp2_with
  (with_reducible show wpList _ _ _ (Oper.mk _ (Op.load 68 _) _ _ _ _::_) _ _;refine nN rfl _ _ rfl _ rfl _ iO.out underlying68 rfl (tu _ _ _ _) ?_)
 rw[← hwz]
 refine wE.out.mono ?_
 rintro e w1 ⟨A,c,rfl,hsl,hb1⟩
 simp only at hsl
 have HB1:=ah (bb fC.out hb1)
 have hm1:=HM.out.below hb1 HM.out.lt
 have HSL:=ah hsl
 have hc0:w1.cell? ⟨w.heap.size,0,none⟩=some (.int .i64 m.kind):=hm1.cell 0
 have hl1:=hm1.lt
 rw[KK.out]at hc0
 clear hb1 hsl wE hwz iO HM hm1 KK
 have X5:Hid (∀x,Below w1.heap.size w1 x→Calls prog 114 #[.slice A F.len c] x (aj x (.string (txt (eu F))))):=fun x hb=>QN.out A c x _ (HSL.out.below hb)
 clear QN HSL
 generalize F.len=FL at *
 generalize eH m.kind=k at *
 have yJ:=ah (fun x=>uV k x (by unfold In64;omega))
 have hcv:IntKind.u64.wrap (k:Int)=(k:Int):=by rw[IntKind.wrap_u64];omega
 have hVl:(dY k).length≤10:=by rw[fO];exact iJ (by omega)
 have Ub:∀x:World,(Op.stringOp .add (txt (dY k)) (txt (eu F))).run prog x=.ok (.string (txt (dY k++eu F))) x:=fun x=>by
  rw[show txt (dY k++eu F)=txt (dY k)++txt (eu F)from(ady _ _).symm];exact run_string_add_sum x _ _ (by rw[gI,gI];have:=HG.out;omega)
 rw[← Bh.out]at Ub
 clear Bh
 generalize txt (eu F)=X at *
 generalize txt (dY k)=V at *
 go_wp2_with fail
 refine(yJ.out _).mono ?_
 rintro e w2 ⟨rfl,hb2⟩
 have HB2:=ah hb2
 clear hb2 yJ hc0 hcv
 go_wp2_with fail
 refine(X5.out _ HB2.out).mono ?_
 rintro e w3 ⟨rfl,hb3⟩
 have HB3:=ah (bb HB1.out (bb HB2.out hb3))
 clear hb3 X5
 go_wp2_with fail
 go_ret
 exact⟨rfl,HB3.out⟩
theorem alr(v:Nat)(h1:1≤v)(h3:v≤3){I:Nat→Prop}{m:Mp}{dv tv rv:Value}(w:World)(hv:gU w I m dv tv rv)(hz:jV m)(hT:Tabs w) :
 Calls prog 21 #[.agg (dR m dv tv rv),.int .i64 (v:Int)] w (DT w (lK m v)):=by
 have HZ:=ah hz
 have HT:=ah hT
 have oq:=ah (ajv v hz.good)
 obtain⟨dA,dc,tA,tc,rA,rc,rfl,rfl,rfl⟩:=hv.slices
 obtain⟨wz,hwz,-,HM,fC⟩:=lM w 68 (dR m (.slice dA m.d.length dc) (.slice tA m.t.length tc) (.slice rA m.rest.len rc))
 have HV:=ah (hv.below fC.out)
 clear hv
 simp only[dR]at hwz
 have jw:=ah (acQ v h1 h3 wz HV.out HZ.out)
 have QY:Hid (iG m v=0→∀x dv tv rv,gU x I m dv tv rv→Tabs x→Calls prog 62 #[.agg (dR m dv tv rv),.int .i64 (v:Int)] x (aj x (.string (txt (dY (eH m.kind)++eu (fQ m v).1))))) :=
  fun h x dv tv rv hv ht=>amg v h1 h3 x hv HZ.out ht h
 have iO:=HM
 rw[hwz]at iO
 clear hz hT HZ
 generalize lK m v=R at *
 generalize dY (eH m.kind)++eu (fQ m v).1=U at *
 unfold dR
 go_enter func21,ntmps21
 go_wp2_with
  (with_reducible show wpList _ _ _ (Oper.mk _ (Op.load 68 _) _ _ _ _::_) _ _;refine nN rfl _ _ rfl _ rfl _ iO.out underlying68 rfl (tu _ _ _ _) ?_)
 rw[← hwz]
 refine jw.out.mono ?_
 rintro e w1 ⟨rfl,hb1⟩
 have HB1:=ah (bb fC.out hb1)
 have pz:=ah (HM.out.below hb1 HM.out.lt)
 have Dk:=ah (HV.out.below hb1)
 clear hb1 jw hwz iO HM HV
 by_cases hE:iG m v=0
 ·have hr2:=oq.out
  rw[ay (by simpa using hE)]at hr2;have HR2:=ah hr2;have HT2:=ah (QY.out hE _ _ _ _ Dk.out (HT.out.below HB1.out));have jA:Hid ((txt U).size=U.length):=gI _;obtain⟨Z,hZ⟩:∃Z,Z=txt U:=⟨_,rfl⟩;rw[← hZ]at jA HT2;have Bh:=ah hZ;rw[hE];clear QY oq hr2 hE Dk hZ
  go_wp2_with
   (with_reducible show wpList _ _ _ (Oper.mk _ (Op.load 68 _) _ _ _ _::_) _ _;refine nN rfl _ _ rfl _ rfl _ pz.out underlying68 rfl (tu _ _ _ _) ?_)
  refine HT2.out.mono ?_;rintro e w2 ⟨rfl,hb2⟩;have HB2:=ah (bb HB1.out hb2);clear hb2 HT2 pz;by_cases hbig:65536<Z.size
  ·have hr3:=HR2.out
   rw[aA (by rw[← jA.out];exact hbig)]at hr3;have hbi:(65536:Int)<(Z.size:Int):=(by omega);clear HR2 jA Bh;go_wp2_with fail;go_ret2;rw[hr3];exact⟨rfl,HB2.out⟩
  have hr3:=HR2.out;rw[ay (by rw[← jA.out];exact hbig)]at hr3;have hbi:¬(65536:Int)<(Z.size:Int):=by omega
  clear HR2 jA;go_wp2_with fail;go_ret2;rw[hr3];exact⟨by rw[Bh.out];rfl,HB2.out⟩
 ·have hr2:=oq.out
  rw[aA hE]at hr2;have yU:(iG m v==0)=false:=by rw[aB];exact hE
  clear QY oq pz Dk;generalize iG m v=E at *;go_wp2_with fail;go_ret2;rw[hr2];exact⟨rfl,HB1.out⟩
theorem ajw{m:Mp}{v:Nat}(h:(lK m v).2≠0):(lK m v).1=[]:=by
 unfold lK at h⊢;split
 ·rfl
 split
 ·rfl
 split
 ·rfl
 rename_i h1 h2 h3;rw[ay h1,ay h2,ay h3]at h;exact aJ rfl h
theorem ahl(S:List UInt8)(h:S.length≤65536):fZ (oP S)=([S],0,[]):=by
 have:=ahn [S] (fun p hp=>by rw[List.mem_singleton.1 hp];exact h)
 rwa [show zW [S]=oP S from by simp[zW]]at this
theorem ajz{B:Nat}{w:World}{m:Mp}{dv tv rv:Value}(h:ni B w m dv tv rv):gU w (fun _=>True) m dv tv rv:=by
 obtain⟨⟨A,c,h1,h2,h3⟩,⟨l,A',c',e1,e2,e3,e4,e5⟩,h5⟩:=h.v;exact⟨⟨A,c,h1,h2,h3.imp fun _ _ _=>trivial⟩,⟨l,A',c',e1,e2,e3,fun r hr=>(e4 r hr).imp fun _ _ _=>trivial,e5⟩,h5.imp fun _ _=>trivial⟩
theorem there_walk{m:Mp}{dv tv:Value}{oA cA:Option Addr}{oc cc:Nat}{ol:List One}{cl:List Nat}(n:Nat)(w:World)(hT:Tabs w)(hv:yM w m dv tv)(hz:I7 m)(hr:nD w.heap.size w oA ol)(hok:∀x∈ol,x.ok)(hlc:ol.length≤oc)(hcm:oc≤maxLen)(hn:n<256)(hcr:Rd w cA (D7 cl))(hck:∀x∈cl,x<65536)(hcl:cl.length≤9223372036854775807) :
 Calls prog 6 #[.agg (dR m dv tv (.slice oA ol.length oc)),.int .u8 (n:Int),.slice cA cl.length cc] w (aj w (.bool true)):=by
 have Xf:Hid (∀x,Below w.heap.size w x→Calls prog 9 #[.agg (dR m dv tv (.slice oA ol.length oc))] x (KR x m ol)):=fun x hx=>ale w.heap.size x (hT.below hx) (hv.below hx) hz (hr.below hx) hok hlc hcm
 have zG:Hid (I5 m ol→∀x,Below w.heap.size w x→Calls prog 10 #[.agg (dR m dv tv (.slice oA ol.length oc))] x (YF x m ol)):=fun hfw x hx=>ajd w.heap.size x hx.size (hv.below hx) hz hfw (hr.below hx) hok hlc hcm
 have hr3:n%3<3:=Nat.mod_lt _ (by omega)
 have hwm:(n:Int)%3=((n%3:Nat):Int):=by simp
 have xZ:((n%3+1:Nat):Int)=((n%3:Nat):Int)+1:=by omega
 have AV:Hid (∀M dv tv rv x,Below w.heap.size w x→jV M→gU x (fun _=>True) M dv tv rv→Calls prog 11 #[.agg (dR M dv tv rv),.int .i64 (((n%3:Nat):Int)+1)] x (DT x (lK M (n%3+1)))):=fun M dv tv rv x hx hM hV=>by
  have:=Nq (n%3+1) (by omega) (by omega) x hV hM (hT.below hx);rw[xZ]at this;exact this
 have XU:Hid (∀M dv tv rv x,Below w.heap.size w x→jV M→gU x (fun _=>True) M dv tv rv→Calls prog 21 #[.agg (dR M dv tv rv),.int .i64 (((n%3:Nat):Int)+1)] x (DT x (lK M (n%3+1)))):=fun M dv tv rv x hx hM hV=>by
  have:=alr (n%3+1) (by omega) (by omega) x hV hM (hT.below hx);rw[xZ]at this;exact this
 have Xn:Hid (∀M dv tv rv x,Below w.heap.size w x→jV M→gU x (fun _=>True) M dv tv rv→Calls prog 19 #[.agg (dR M dv tv rv),.int .i64 (((n%3:Nat):Int)+1)] x (aj x (.bool (decide ((lK M (n%3+1)).2=0))))):=fun M dv tv rv x hx hM hV=>by
  have:=ahC (n%3+1) (by omega) (by omega) x hV hM (hT.below hx);rw[xZ]at this;exact this
 have Il:Hid (∀s x,Below w.heap.size w x→s.length≤1000000→Calls prog 12 #[.string (txt s),.int .i64 (((n%3:Nat):Int)+1)] x (rG x (vT s (n%3+1)))):=fun s x hx hs=>by
  have:=Zp (n%3+1) (by omega) (by omega) (txt s) (by rw[gI];exact hs) x (hT.below hx);rw[xZ,iD]at this;exact this
 have XM:Hid (I5 m ol→∀M,jV M→M={ m with rest:=M.rest }→∀dv tv rv x,gU x (fun _=>True) M dv tv rv→Calls prog 22 #[.agg (dR M dv tv rv)] x (YK x M)):=fun hf M hM TQ dv tv rv x hV=>akb x hV
  (by rw[TQ];show m.d.length≤_;have:=(Np hf.d).1;omega) (by rw[TQ];show∀r∈m.t,_;exact fun r hr=>aI (hf.t r hr).1 (by omega)) (by rw[TQ];show m.t.length≤_;have:=hf.tl;omega) (by have:=hM.rest;omega)
 have oM:Hid (∀S x,Below w.heap.size w x→S.length≤65536→cl.length≤60→Calls prog 17 #[.string (txt (oP S)),.slice cA cl.length cc] x fun e w'=>∃(A:Option Addr) (c:Nat),e=.returned (.tuple #[.slice A 1 c,.int .i64 0,.int .i64 0])∧Rd w' A (strs [txt S])∧Below x.heap.size x w'):=fun S x hx hS h60=>by
  have:=ag3 (txt (oP S)) cA cc cl x (by rw[gI,NH,qg];have:=iJ (n:=S.length) (by omega);omega) (hcr.below hx) (by omega) hck;unfold KQ at this;rw[iD,ahl S hS]at this;exact this.mono fun e w' ⟨A,c,h1,h2,_,h3⟩=>⟨A,c,h1,h2,h3⟩
 obtain⟨dA,dc,tA,tc,rfl,rfl⟩:=hv.slices
 have HM:Hid (dU (w.alloc (.cells (dR m (.slice dA m.d.length dc) (.slice tA m.t.length tc) (.slice oA ol.length oc)) 31)) w.heap.size 31 (dR m (.slice dA m.d.length dc) (.slice tA m.t.length tc) (.slice oA ol.length oc))):=dU.made w 31 _
 have fC:=ah (ba (a:=w) b0 (.cells (dR m (.slice dA m.d.length dc) (.slice tA m.t.length tc) (.slice oA ol.length oc)) 31))
 obtain⟨wz,hwz⟩:∃wz,wz=w.alloc (.cells (dR m (.slice dA m.d.length dc) (.slice tA m.t.length tc) (.slice oA ol.length oc)) 31):=⟨_,rfl⟩
 rw[← hwz]at HM fC
 have HA:=ah (aeD wz (hT.below fC.out))
 clear hT hv hz hr hok hlc hcm xZ hcr hck
 generalize n%3=r at *
 have hwr:IntKind.i64.wrap ((r:Int)+1)=(r:Int)+1:=by rw[IntKind.wrap_i64];omega
 simp only[dR]at hwz
 unfold dR
 go_enter func6,ntmps6
 go_wp2_with fail
 rw[← hwz]
 refine HA.out.mono ?_
 rintro e w1 ⟨rfl,hb1⟩
 have HB1:=ah (bb fC.out hb1)
 have HR1:=ah (HM.out.below hb1 HM.out.lt)
 clear hb1 HA fC HM hwz
 go_wp2_with
  (with_reducible show wpList _ _ _ (Oper.mk _ (Op.load 31 _) _ _ _ _::_) _ _;apply pin)
 refine nN rfl _ _ rfl _ rfl _ HR1.out underlying31 rfl (abK m _ _ _) ?_
 go_wp2_with fail
 refine(Xf.out _ HB1.out).mono ?_
 rintro e w2 ⟨⟨F,rfl,hF⟩,hb2⟩
 have HB2:=ah (bb HB1.out hb2)
 have HR2:=ah (HR1.out.below hb2 HR1.out.lt)
 have HF:=ah hF
 clear hb2 hF HB1 HR1 Xf
 cases F with
 |false=>
   clear HF;go_wp2_with fail;go_ret;exact⟨rfl,HB2.out⟩
 |true=>
   have XA:=ah (zG.out (HF.out rfl));have XO:=ah (XM.out (HF.out rfl));clear HF zG XM;by_cases hc:60<cl.length
   ·have hci:(60:Int)<(cl.length:Int):=by omega
    clear hc;go_wp2_with fail;go_ret;exact⟨rfl,HB2.out⟩
   have hci:¬(60:Int)<(cl.length:Int):=(by omega);have Xb:=ah (fun S x (hx:Below w.heap.size w x) (hS:S.length≤65536)=>oM.out S x hx hS (by omega));clear oM hc;generalize cl.length=CL at *
   go_wp2_with
    (with_reducible show wpList _ _ _ (Oper.mk _ (Op.load 31 _) _ _ _ _::_) _ _;apply pin)
   refine nN rfl _ _ rfl _ rfl _ HR2.out underlying31 rfl (abK m _ _ _) ?_;go_wp2_with fail;refine(XA.out _ HB2.out).mono ?_;rintro e w3 ⟨M,dv,tv,rv,rfl,hsz,hM,hcnt,hall,kU,hb3⟩;have HB3:=ah (bb HB2.out hb3);have jA:=ah hsz;have QE:=ah (XO.out M hsz hM);clear hb3 hM hcnt hall hsz HB2 HR2 XA XO;obtain⟨jP,jQ,o7,o8,oW,oZ,rfl,rfl,rfl⟩:=kU.slices;have hm1:=dU.made w3 35 fF;have hm2:=ny (ds:=dR M (.slice jP M.d.length jQ) (.slice o7 M.t.length o8) (.slice oW M.rest.len oZ)) hm1 rfl;have hb1:Below w3.heap.size w3 (World.jM (w3.alloc (.cells fF 35)) w3.heap.size (dR M (.slice jP M.d.length jQ) (.slice o7 M.t.length o8) (.slice oW M.rest.len oZ))) :=
    (ba (a:=w3) b0 (.cells fF 35)).trans ((mD _ w3.heap.size _).iI (by simp) fun g hg e=>by omega)
   obtain⟨w4,hwv⟩:∃wv,wv=World.jM (w3.alloc (.cells fF 35)) w3.heap.size (dR M (.slice jP M.d.length jQ) (.slice o7 M.t.length o8) (.slice oW M.rest.len oZ)):=⟨_,rfl⟩;rw[← hwv]at hm2 hb1;have gQ:=ah hm1;have lW:=ah hm2;have WM:=ah hb1;have ku:=ah (kU.below hb1);simp only[fF]at gQ hwv;clear hm1 hm2 hb1 kU
   go_wp2_with
    (with_reducible show wpList _ _ _ (Oper.mk _ (Op.store 35 _ _) _ _ _ _::_) _ _;apply pin)
   refine nO rfl _ _ _ rfl _ (dR M (.slice jP M.d.length jQ) (.slice o7 M.t.length o8) (.slice oW M.rest.len oZ)) rfl rfl gQ.out rfl (iC _ _ _ _) sF ?_;rw[← hwv];clear hwv gQ;simp only[Act.put];have HB4:=ah (bb HB3.out WM.out);clear WM HB3;have TN:=ajx (v:=r+1) jA.out.good;have rO:Hid ((lK M (r+1)).2≠0→(lK M (r+1)).1=[]):=ajw;have xk:=ah (fun dv tv rv x hx hV=>AV.out M dv tv rv x hx jA.out hV);have IE:=ah (fun dv tv rv x hx hV=>XU.out M dv tv rv x hx jA.out hV);have Qo:=ah (fun dv tv rv x hx hV=>Xn.out M dv tv rv x hx jA.out hV);have oq:Hid ((lK M (r+1)).2=0→(lK M (r+1)).1.length≤65536∧vT (lK M (r+1)).1 (r+1)=(M,0)):=fun h=>⟨(TN h).2.1,(TN h).2.2.2.2.2.2⟩;clear TN AV XU Xn;generalize lK M (r+1)=X at *;obtain⟨S,E⟩:=X
   simp only at rO xk IE Qo oq;unfold DT at xk IE;simp only at xk IE
   go_wp2_with
    (with_reducible show wpList _ _ _ (Oper.mk _ (Op.load 35 _) _ _ _ _::_) _ _;apply pin)
   refine AO (by rfl) _ _ rfl _ rfl _ lW.out underlying35 rfl (iC _ _ _ _) ?_;go_wp2_with fail;refine(xk.out _ _ _ _ HB4.out ku.out).mono ?_;rintro e w5 ⟨rfl,hb5⟩;have gY:=ah (bb HB4.out hb5);have kC:=ah (lW.out.below hb5 lW.out.lt);have kQ:=ah (ku.out.below hb5);clear hb5 HB4 lW ku xk
   go_wp2_with
    (with_reducible show wpList _ _ _ (Oper.mk _ (Op.load 35 _) _ _ _ _::_) _ _;apply pin)
   refine AO (by rfl) _ _ rfl _ rfl _ kC.out underlying35 rfl (iC _ _ _ _) ?_;go_wp2_with fail;refine(QE.out _ _ _ _ kQ.out).mono ?_;rintro e w6 ⟨dvo,tvo,rvo,rfl,hvo,hb6⟩;have iE:=ah (bb gY.out hb6);have lW:=ah (kC.out.below hb6 kC.out.lt);have ku:=ah (kQ.out.below hb6);have Ye:=ah hvo;clear hb6 hvo gY kC kQ;go_wp2_with fail;refine(IE.out _ _ _ _ iE.out Ye.out).mono ?_;rintro e w7 ⟨rfl,hb7⟩;have iV:=ah (bb iE.out hb7);have kC:=ah (lW.out.below hb7 lW.out.lt);have kQ:=ah (ku.out.below hb7);clear hb7 iE lW ku IE Ye;have hss:((txt S).toList==(txt S).toList)=true:=(by simp)
   go_wp2_with
    (with_reducible show wpList _ _ _ (Oper.mk _ (Op.load 35 _) _ _ _ _::_) _ _;apply pin)
   refine AO (by rfl) _ _ rfl _ rfl _ kC.out underlying35 rfl (iC _ _ _ _) ?_;go_wp2_with fail;refine(Qo.out _ _ _ _ iV.out kQ.out).mono ?_;rintro e w8 ⟨rfl,hb8⟩;have kN:=ah (bb iV.out hb8);have lW:=ah (kC.out.below hb8 kC.out.lt);have ku:=ah (kQ.out.below hb8);clear hb8 iV kC kQ Qo;by_cases hE:E=0
   ·subst hE
    obtain⟨hSl,hde⟩:=oq.out rfl;have Qi:=ah (fun x (hx:Below w.heap.size w x)=>Il.out S x hx (by omega));rw[hde]at Qi;have Xc:=ah (fun x (hx:Below w.heap.size w x)=>Xb.out S x hx hSl);have zN:=ah (fun x=>wrap_any (txt S) x (by rw[gI];exact hSl));rw[iD]at zN;have LQ:Hid (∀x dv tv rv jC tv' rv',gU x (fun _=>True) M dv tv rv→gU x (fun _=>True) M jC tv' rv'→Calls prog 20 #[.agg (dR M dv tv rv),.agg (dR M jC tv' rv')] x (aj x (.bool true))):=fun x dv tv rv jC tv' rv' h h'=>
     (ajD x h h' jA.out (by have:=jA.out.rest;omega)).mono fun e w' ⟨⟨F,he,hF⟩,hb⟩=>⟨by rw[he,hF.2 rfl],hb⟩
    have Dw:Hid (∀x dv tv rv jC tv' rv',gU x (fun _=>True) M dv tv rv→gU x (fun _=>True) M jC tv' rv'→Calls prog 23 #[.agg (dR M dv tv rv),.agg (dR M jC tv' rv')] x (aj x (.bool true))):=fun x dv tv rv jC tv' rv' h h'=>al3 x h h' jA.out;clear oq rO hde Il Xb;generalize oP S=Z at *;go_wp2_with fail;refine(Qi.out _ kN.out).mono ?_;rintro e w9 ⟨dv,tv,rv,rfl,kU,uK⟩;simp only at kU;have yw:=ah (bb kN.out uK);have HP:=ah (lW.out.below uK lW.out.lt);have Yd:=ah (ku.out.below uK);clear uK kN lW ku Qi;obtain⟨sV,sW,tZ,uf,tN,tV,rfl,rfl,rfl⟩:=kU.slices;have hm1:=dU.made w9 35 fF;have hm2:=ny (ds:=dR M (.slice sV M.d.length sW) (.slice tZ M.t.length uf) (.slice tN M.rest.len tV)) hm1 rfl
    have hb1:Below w9.heap.size w9 (World.jM (w9.alloc (.cells fF 35)) w9.heap.size (dR M (.slice sV M.d.length sW) (.slice tZ M.t.length uf) (.slice tN M.rest.len tV))) :=
     (ba (a:=w9) b0 (.cells fF 35)).trans ((mD _ w9.heap.size _).iI (by simp) fun g hg e=>by omega)
    obtain⟨wa,hwv⟩:∃wv,wv=World.jM (w9.alloc (.cells fF 35)) w9.heap.size (dR M (.slice sV M.d.length sW) (.slice tZ M.t.length uf) (.slice tN M.rest.len tV)):=⟨_,rfl⟩;rw[← hwv]at hm2 hb1;have gQ:=ah hm1;have kC:=ah hm2;have KX:=ah hb1;have kQ:=ah (kU.below hb1);simp only[fF]at gQ hwv;clear hm1 hm2 hb1 kU
    go_wp2_with
     (with_reducible show wpList _ _ _ (Oper.mk _ (Op.store 35 _ _) _ _ _ _::_) _ _;apply pin)
    refine nO rfl _ _ _ rfl _ (dR M (.slice sV M.d.length sW) (.slice tZ M.t.length uf) (.slice tN M.rest.len tV)) rfl rfl gQ.out rfl (iC _ _ _ _) sF ?_;rw[← hwv];clear hwv gQ;simp only[Act.put];have WO:=ah (bb yw.out KX.out);have HY:=ah (HP.out.below KX.out HP.out.lt);have Yg:=ah (Yd.out.below KX.out);have Yj:=ah (ajz kQ.out);clear KX yw Yd kQ HP;go_wp2_with fail;refine(zN.out _).mono ?_;rintro e wb ⟨rfl,hbb⟩;have Qg:=ah (bb WO.out hbb);have DI:=ah (HY.out.below hbb HY.out.lt);have Yh:=ah (Yg.out.below hbb);have Yk:=ah (Yj.out.below hbb);have Bg:=ah (kC.out.below hbb kC.out.lt);clear Yj kC;clear hbb WO HY Yg zN;go_wp2_with fail;refine(Xc.out _ Qg.out).mono ?_;rintro e wc ⟨Af,cf,rfl,hrf,hbc⟩;have HBc:=ah (bb Qg.out hbc)
    have Rl:=ah (DI.out.below hbc DI.out.lt);have Yi:=ah (Yh.out.below hbc);have Yl:=ah (Yk.out.below hbc);have Rk:=ah (Bg.out.below hbc Bg.out.lt);clear Yk Bg;have wJ:=ah hrf;clear hbc hrf Qg DI Yh Xc;go_wp2_with fail;obtain⟨wd,hwd⟩:∃wd,wd=wc.drew:=⟨_,rfl⟩;have hbt:Below wc.heap.size wc wd:=(by rw[hwd];exact bd b0);have WQ:=ah (bb HBc.out hbt);have MF:=ah (Rl.out.below hbt Rl.out.lt);have L8:=ah (Rk.out.below hbt Rk.out.lt);have Q8:=ah (Yi.out.below hbt);have QZ:=ah (Yl.out.below hbt);have Xg:=ah (wJ.out.below hbt);clear hbt HBc Rl Rk Yi Yl wJ
    refine wp_region_held_drew (S:=fun q=>(∀j,q.cell? ⟨w3.heap.size,j,none⟩=(dR M (.slice jP M.d.length jQ) (.slice o7 M.t.length o8) (.slice oW M.rest.len oZ))[j]?)∧(∀j,q.cell? ⟨w9.heap.size,j,none⟩=(dR M (.slice sV M.d.length sW) (.slice tZ M.t.length uf) (.slice tN M.rest.len tV))[j]?)) (by kernel_rfl) (by rw[← hwd];exact⟨fun j=>MF.out.cell j,fun j=>L8.out.cell j⟩) (fun hHeld=>?_);rw[← hwd]at hHeld⊢;clear hwd;refine dO (i:=0) (v:=?_) rfl ⟨by rfl,?_⟩ ?_;rotate_left
    ·((intro q dS;clear dS;go_simp);with_reducible rfl)
    generalize hd:Oper.dst _=dd;obtain rfl:some 93=dd:=hd;simp only[Act.put,aF,aG,aH];refine dO (i:=1) (v:=?_) rfl ⟨by rfl,?_⟩ ?_;rotate_left
    ·((intro q dS;clear dS;go_simp);with_reducible rfl)
    generalize hd:Oper.dst _=dd;obtain rfl:some 94=dd:=hd;simp only[Act.put,aF,aG,aH];refine dO (i:=2) (v:=?_) rfl ⟨by rfl,?_⟩ ?_;rotate_left
    ·((intro q dS;clear dS;go_simp);with_reducible rfl)
    generalize hd:Oper.dst _=dd;obtain rfl:some 95=dd:=hd;simp only[Act.put,aF,aG,aH];refine wpAnyH_take (i:=3) (v:=.agg (dR M (.slice sV M.d.length sW) (.slice tZ M.t.length uf) (.slice tN M.rest.len tV))) rfl (by kernel_rfl) (by kernel_rfl) (by kernel_rfl) (fun _ _ _ h=>h) (yieldsIf_load_mid (by rfl) 35 (.tmp 13) rfl w9.heap.size 0 rfl (dR M (.slice sV M.d.length sW) (.slice tZ M.t.length uf) (.slice tN M.rest.len tV)).toList _ (fun q hq j v hv=>by rw[aX,hq.2 j,← bU];exact hv) underlying35 rfl (by rw[iC M _ _ _];rfl)) (by assumption) ?_;generalize hd:Oper.dst _=dd;obtain rfl:some 96=dd:=hd;simp only[Act.put,aF,aG,aH]
    refine wpAnyH_take (i:=4) (v:=.agg (dR M (.slice jP M.d.length jQ) (.slice o7 M.t.length o8) (.slice oW M.rest.len oZ))) rfl (by kernel_rfl) (by kernel_rfl) (by kernel_rfl) (fun _ _ _ h=>h) (yieldsIf_load_mid (by rfl) 35 (.tmp 8) rfl w3.heap.size 0 rfl (dR M (.slice jP M.d.length jQ) (.slice o7 M.t.length o8) (.slice oW M.rest.len oZ)).toList _ (fun q hq j v hv=>by rw[aX,hq.1 j,← bU];exact hv) underlying35 rfl (by rw[iC M _ _ _];rfl)) (by assumption) ?_;generalize hd:Oper.dst _=dd;obtain rfl:some 97=dd:=hd;simp only[Act.put,aF,aG,aH];refine wpAnyH_ready (rs:=[5]) (by kernel_rfl) (by simp) ?_;refine dP rfl fun K hK=>?_;go_simp;refine(LQ.out _ _ _ _ _ _ _ QZ.out Q8.out).mono ?_;rintro e we ⟨rfl,hbt⟩;have hbs:=hbt
    have WR:=ah (bb WQ.out hbt);have MG:=ah (MF.out.below hbt MF.out.lt);have L9:=ah (L8.out.below hbt L8.out.lt);have Ym:=ah (Q8.out.below hbt);have Q5:=ah (QZ.out.below hbt);have Xh:=ah (Xg.out.below hbt);clear hbt WQ MF L8 Q8 QZ Xg;clear hbs hHeld;have hHeld:(∀j,we.cell? ⟨w3.heap.size,j,none⟩=(dR M (.slice jP M.d.length jQ) (.slice o7 M.t.length o8) (.slice oW M.rest.len oZ))[j]?)∧(∀j,we.cell? ⟨w9.heap.size,j,none⟩=(dR M (.slice sV M.d.length sW) (.slice tZ M.t.length uf) (.slice tN M.rest.len tV))[j]?):=⟨fun j=>MG.out.cell j,fun j=>L9.out.cell j⟩;go_simp;refine hK.out _ _ hHeld (fun _=>?_);clear hK K;refine dO (i:=6) (v:=?_) rfl ⟨by rfl,?_⟩ ?_;rotate_left
    ·((intro q dS;clear dS;go_simp);with_reducible rfl)
    generalize hd:Oper.dst _=dd;obtain rfl:some 99=dd:=hd;simp only[Act.put,aF,aG,aH];refine dO (i:=7) (v:=?_) rfl ⟨by rfl,?_⟩ ?_;rotate_left
    ·((intro q dS;clear dS;go_simp);with_reducible rfl)
    generalize hd:Oper.dst _=dd;obtain rfl:some 100=dd:=hd;simp only[Act.put,aF,aG,aH];refine wpAnyH_take (i:=8) (v:=.agg (dR M (.slice sV M.d.length sW) (.slice tZ M.t.length uf) (.slice tN M.rest.len tV))) rfl (by kernel_rfl) (by kernel_rfl) (by kernel_rfl) (fun _ _ _ h=>h) (yieldsIf_load_mid (by rfl) 35 (.tmp 13) rfl w9.heap.size 0 rfl (dR M (.slice sV M.d.length sW) (.slice tZ M.t.length uf) (.slice tN M.rest.len tV)).toList _ (fun q hq j v hv=>by rw[aX,hq.2 j,← bU];exact hv) underlying35 rfl (by rw[iC M _ _ _];rfl)) (by assumption) ?_;generalize hd:Oper.dst _=dd;obtain rfl:some 101=dd:=hd;simp only[Act.put,aF,aG,aH]
    refine wpAnyH_take (i:=10) (v:=.agg (dR M (.slice jP M.d.length jQ) (.slice o7 M.t.length o8) (.slice oW M.rest.len oZ))) rfl (by kernel_rfl) (by kernel_rfl) (by kernel_rfl) (fun _ _ _ h=>h) (yieldsIf_load_mid (by rfl) 35 (.tmp 8) rfl w3.heap.size 0 rfl (dR M (.slice jP M.d.length jQ) (.slice o7 M.t.length o8) (.slice oW M.rest.len oZ)).toList _ (fun q hq j v hv=>by rw[aX,hq.1 j,← bU];exact hv) underlying35 rfl (by rw[iC M _ _ _];rfl)) (by assumption) ?_;generalize hd:Oper.dst _=dd;obtain rfl:some 103=dd:=hd;simp only[Act.put,aF,aG,aH];refine wpAnyH_ready (rs:=[9]) (by kernel_rfl) (by simp) ?_;refine dP rfl fun K hK=>?_;go_simp;refine(QE.out _ _ _ _ Q5.out).mono ?_;rintro e wf ⟨dvp,tvp,rvp,rfl,hvp,hbt⟩;have hbs:=hbt
    have WS:=ah (bb WR.out hbt);have MH:=ah (MG.out.below hbt MG.out.lt);have Mc:=ah (L9.out.below hbt L9.out.lt);have Q9:=ah (Ym.out.below hbt);have X9:=ah (Q5.out.below hbt);have Xi:=ah (Xh.out.below hbt);clear hbt WR MG L9 Ym Q5 Xh;have XR:=ah hvp;clear hvp;clear hbs hHeld;have hHeld:(∀j,wf.cell? ⟨w3.heap.size,j,none⟩=(dR M (.slice jP M.d.length jQ) (.slice o7 M.t.length o8) (.slice oW M.rest.len oZ))[j]?)∧(∀j,wf.cell? ⟨w9.heap.size,j,none⟩=(dR M (.slice sV M.d.length sW) (.slice tZ M.t.length uf) (.slice tN M.rest.len tV))[j]?):=⟨fun j=>MH.out.cell j,fun j=>Mc.out.cell j⟩;go_simp;refine hK.out _ _ hHeld (fun _=>?_);clear hK K;refine wpAnyH_ready (rs:=[11]) (by kernel_rfl) (by simp) ?_;refine dP rfl fun K hK=>?_;go_simp
    refine(QE.out _ _ _ _ Q9.out).mono ?_;rintro e wg ⟨dvq,tvq,rvq,rfl,hvq,hbt⟩;have hbs:=hbt;have WT:=ah (bb WS.out hbt);have MI:=ah (MH.out.below hbt MH.out.lt);have Md:=ah (Mc.out.below hbt Mc.out.lt);have Yn:=ah (Q9.out.below hbt);have Ya:=ah (X9.out.below hbt);have Xj:=ah (Xi.out.below hbt);clear hbt WS MH Mc Q9 X9 Xi;have HQg:=ah hvq;have HPg:=ah (XR.out.below hbs);clear hvq XR;clear hbs hHeld;have hHeld:(∀j,wg.cell? ⟨w3.heap.size,j,none⟩=(dR M (.slice jP M.d.length jQ) (.slice o7 M.t.length o8) (.slice oW M.rest.len oZ))[j]?)∧(∀j,wg.cell? ⟨w9.heap.size,j,none⟩=(dR M (.slice sV M.d.length sW) (.slice tZ M.t.length uf) (.slice tN M.rest.len tV))[j]?):=⟨fun j=>MI.out.cell j,fun j=>Md.out.cell j⟩;go_simp;refine hK.out _ _ hHeld (fun _=>?_);clear hK K
    refine wpAnyH_ready (rs:=[12]) (by kernel_rfl) (by simp) ?_;refine dP rfl fun K hK=>?_;go_simp;refine(Dw.out _ _ _ _ _ _ _ HPg.out HQg.out).mono ?_;rintro e wh ⟨rfl,hbt⟩;have hbs:=hbt;have WU:=ah (bb WT.out hbt);have MJ:=ah (MI.out.below hbt MI.out.lt);have Me:=ah (Md.out.below hbt Md.out.lt);have Yo:=ah (Yn.out.below hbt);have Yb:=ah (Ya.out.below hbt);have Xk:=ah (Xj.out.below hbt);clear hbt WT MI Md Yn Ya Xj;clear hbs hHeld;have hHeld:(∀j,wh.cell? ⟨w3.heap.size,j,none⟩=(dR M (.slice jP M.d.length jQ) (.slice o7 M.t.length o8) (.slice oW M.rest.len oZ))[j]?)∧(∀j,wh.cell? ⟨w9.heap.size,j,none⟩=(dR M (.slice sV M.d.length sW) (.slice tZ M.t.length uf) (.slice tN M.rest.len tV))[j]?):=⟨fun j=>MJ.out.cell j,fun j=>Me.out.cell j⟩;go_simp
    refine hK.out _ _ hHeld (fun _=>?_);clear hK K;refine dO (i:=13) (v:=?_) rfl ⟨by rfl,?_⟩ ?_;rotate_left
    ·((intro q dS;clear dS;go_simp);with_reducible rfl)
    generalize hd:Oper.dst _=dd;obtain rfl:some 106=dd:=hd;simp only[Act.put,aF,aG,aH];refine dO (i:=14) (v:=?_) rfl ⟨by rfl,?_⟩ ?_;rotate_left
    ·((intro q dS;clear dS;go_simp);with_reducible rfl)
    generalize hd:Oper.dst _=dd;obtain rfl:some 107=dd:=hd;simp only[Act.put,aF,aG,aH];refine dO (i:=15) (v:=?_) rfl ⟨by rfl,?_⟩ ?_;rotate_left
    ·((intro q dS;clear dS;go_simp);with_reducible rfl)
    generalize hd:Oper.dst _=dd;obtain rfl:some 108=dd:=hd;simp only[Act.put,aF,aG,aH];refine dO (i:=16) (v:=?_) rfl ⟨by rfl,?_⟩ ?_;rotate_left
    ·((intro q dS;clear dS;go_simp);with_reducible rfl)
    generalize hd:Oper.dst _=dd;obtain rfl:some 109=dd:=hd;simp only[Act.put,aF,aG,aH];refine dO (i:=17) (v:=?_) rfl ⟨by rfl,?_⟩ ?_;rotate_left
    ·((intro q dS;clear dS;go_simp);with_reducible rfl)
    generalize hd:Oper.dst _=dd;obtain rfl:some 110=dd:=hd;simp only[Act.put,aF,aG,aH];refine dO (i:=18) (v:=?_) rfl ⟨by rfl,?_⟩ ?_;rotate_left
    ·((intro q dS;clear dS;go_simp);with_reducible rfl)
    generalize hd:Oper.dst _=dd;obtain rfl:some 111=dd:=hd;simp only[Act.put,aF,aG,aH];refine dO (i:=19) (v:=?_) rfl ⟨by rfl,?_⟩ ?_;rotate_left
    ·((intro q dS;clear dS;go_simp);with_reducible rfl)
    generalize hd:Oper.dst _=dd;obtain rfl:some 112=dd:=hd;simp only[Act.put,aF,aG,aH];refine dO (i:=20) (v:=?_) rfl ⟨by rfl,?_⟩ ?_;rotate_left
    ·((intro q dS;clear dS;go_simp);with_reducible rfl)
    generalize hd:Oper.dst _=dd;obtain rfl:some 113=dd:=hd;simp only[Act.put,aF,aG,aH];refine wpAnyH_ready (rs:=[21]) (by kernel_rfl) (by simp) ?_;refine dP rfl fun K hK=>?_;go_simp;obtain⟨wi,hwi⟩:∃wi,wi=wh.alloc (.cells #[.string (txt S)] 9):=⟨_,rfl⟩;have hbt:Below wh.heap.size wh wi:=(by rw[hwi];exact ba b0 _);have HNW:Hid (Rd wi (some ⟨wh.heap.size,0,none⟩) (strs [txt S])):=(by rw[hwi];exact Hq wh _ (strs [txt S]));rw[← hwi];clear hwi;have hbs:=hbt;have WV:=ah (bb WU.out hbt);have MK:=ah (MJ.out.below hbt MJ.out.lt);have MB:=ah (Me.out.below hbt Me.out.lt);have Yp:=ah (Yo.out.below hbt);have Yc:=ah (Yb.out.below hbt);have Qn:=ah (Xk.out.below hbt);clear hbt WU MJ Me Yo Yb Xk;clear hbs hHeld
    have hHeld:(∀j,wi.cell? ⟨w3.heap.size,j,none⟩=(dR M (.slice jP M.d.length jQ) (.slice o7 M.t.length o8) (.slice oW M.rest.len oZ))[j]?)∧(∀j,wi.cell? ⟨w9.heap.size,j,none⟩=(dR M (.slice sV M.d.length sW) (.slice tZ M.t.length uf) (.slice tN M.rest.len tV))[j]?):=⟨fun j=>MK.out.cell j,fun j=>MB.out.cell j⟩;go_simp;refine hK.out _ _ hHeld (fun _=>?_);clear hK K;refine wpAnyH_ready (rs:=[22]) (by kernel_rfl) (by simp) ?_;refine dP rfl fun K hK=>?_;go_simp;refine(agx _ _ _ _ [txt S] wi Qn.out HNW.out (by simp)).mono ?_;rintro e wj ⟨rfl,hbt⟩;have hbs:=hbt;have WW:=ah (bb WV.out hbt);have YC:=ah (MK.out.below hbt MK.out.lt);have Yz:=ah (MB.out.below hbt MB.out.lt);have aem:=ah (Yp.out.below hbt);have ael:=ah (Yc.out.below hbt);have ad6:=ah (Qn.out.below hbt)
    clear hbt WV MK MB Yp Yc Qn;clear hbs hHeld;have hHeld:(∀j,wj.cell? ⟨w3.heap.size,j,none⟩=(dR M (.slice jP M.d.length jQ) (.slice o7 M.t.length o8) (.slice oW M.rest.len oZ))[j]?)∧(∀j,wj.cell? ⟨w9.heap.size,j,none⟩=(dR M (.slice sV M.d.length sW) (.slice tZ M.t.length uf) (.slice tN M.rest.len tV))[j]?):=⟨fun j=>YC.out.cell j,fun j=>Yz.out.cell j⟩;go_simp;refine hK.out _ _ hHeld (fun _=>?_);clear hK K;refine dO (i:=23) (v:=?_) rfl ⟨by rfl,?_⟩ ?_;rotate_left
    ·((intro q dS;clear dS;go_simp);with_reducible rfl)
    generalize hd:Oper.dst _=dd;obtain rfl:some 116=dd:=hd;simp only[Act.put,aF,aG,aH];refine dO (i:=24) (v:=?_) rfl ⟨by rfl,?_⟩ ?_;rotate_left
    ·((intro q dS;clear dS;go_simp);with_reducible rfl)
    generalize hd:Oper.dst _=dd;obtain rfl:some 117=dd:=hd;simp only[Act.put,aF,aG,aH];refine dO (i:=25) (v:=?_) rfl ⟨by rfl,?_⟩ ?_;rotate_left
    ·((intro q dS;clear dS;go_simp);with_reducible rfl)
    generalize hd:Oper.dst _=dd;obtain rfl:some 118=dd:=hd;simp only[Act.put,aF,aG,aH];refine dO (i:=26) (v:=?_) rfl ⟨by rfl,?_⟩ ?_;rotate_left
    ·((intro q dS;clear dS;go_simp);with_reducible rfl)
    generalize hd:Oper.dst _=dd;obtain rfl:some 119=dd:=hd;simp only[Act.put,aF,aG,aH];refine dO (i:=27) (v:=?_) rfl ⟨by rfl,?_⟩ ?_;rotate_left
    ·((intro q dS;clear dS;go_simp);with_reducible rfl)
    generalize hd:Oper.dst _=dd;obtain rfl:some 120=dd:=hd;simp only[Act.put,aF,aG,aH];refine dO (i:=28) (v:=?_) rfl ⟨by rfl,?_⟩ ?_;rotate_left
    ·((intro q dS;clear dS;go_simp);with_reducible rfl)
    generalize hd:Oper.dst _=dd;obtain rfl:some 121=dd:=hd;simp only[Act.put,aF,aG,aH];refine dO (i:=29) (v:=?_) rfl ⟨by rfl,?_⟩ ?_;rotate_left
    ·((intro q dS;clear dS;go_simp);with_reducible rfl)
    generalize hd:Oper.dst _=dd;obtain rfl:some 122=dd:=hd;simp only[Act.put,aF,aG,aH];refine dO (i:=30) (v:=?_) rfl ⟨by rfl,?_⟩ ?_;rotate_left
    ·((intro q dS;clear dS;go_simp);with_reducible rfl)
    generalize hd:Oper.dst _=dd;obtain rfl:some 123=dd:=hd;simp only[Act.put,aF,aG,aH];refine dO (i:=31) (v:=?_) rfl ⟨by rfl,?_⟩ ?_;rotate_left
    ·((intro q dS;clear dS;go_simp);with_reducible rfl)
    generalize hd:Oper.dst _=dd;obtain rfl:some 124=dd:=hd;simp only[Act.put,aF,aG,aH];refine dO (i:=32) (v:=?_) rfl ⟨by rfl,?_⟩ ?_;rotate_left
    ·((intro q dS;clear dS;go_simp);with_reducible rfl)
    generalize hd:Oper.dst _=dd;obtain rfl:some 6=dd:=hd;simp only[Act.put,aF,aG,aH];refine wpAnyH_done (by kernel_rfl) ?_ _;have HEB:=WW;clear WW YC Yz aem ael ad6;go_wp2_with fail;go_ret;exact⟨rfl,HEB.out⟩
   have hS:=rO.out hE;subst hS;have zX:decide (E=0)=false:=aO hE;have yU:(E==0)=false:=(by rw[aB];exact hE);have TF:(E != 0)=true:=(by rw[aZ];exact hE);have hes:(txt []).toList.isEmpty=true:=(by rw[ByteArray.toList_eq];rfl);rw[zX];clear oq rO hE zX;go_wp2_with fail;go_ret;exact⟨rfl,kN.out⟩
