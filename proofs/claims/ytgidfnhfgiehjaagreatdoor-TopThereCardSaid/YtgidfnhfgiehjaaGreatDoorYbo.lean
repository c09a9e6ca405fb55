/-
  Parts of the proof. Conditions: as each names.
-/
import Derived.Test.YtgidfnhfgiehjaaGreatDoorYbk
import Derived.Test.YtgidfnhfgiehjaaGreatDoorYbl
namespace Go.Proofs.YtgidfnhfgiehjaaGreatDoor
open Go.PM Go.RowKit Go.Proofs.Tryz
set_option maxRecDepth 100000
set_option maxHeartbeats 4000000
attribute [local go_sem ↓] Go.wp_at_zero Go.wp_at_succ
def rG(w:World)(q:Mp×Int)(e:Ending)(w':World):Prop:=∃dv tv rv,e=.returned (.tuple #[.agg (dR q.1 dv tv rv),.int .i64 q.2])∧ni w.heap.size w' q.1 dv tv rv∧Below w.heap.size w w'
theorem rG.bad{w w':World}{q:Mp×Int}{k:Int}(hq:q=(m0,k))(hb:Below w.heap.size w w'):rG w q (.returned (.tuple #[.agg fF,.int .i64 k])) w':=by
 rw[hq];exact⟨_,_,_,by rw[adW],acf _ _,hb⟩
def Hz(L:List Sp):List (Lit×Value):=L.map fun s=>(.int .u64 (s.tag:Int),.string (txt s.nm))
theorem adv(t:Nat)(nm:List UInt8):∀(L:List Sp) (z:Value),(∀a∈L,a.tag=t→a.nm=nm)→((∃a∈L,a.tag=t)∨z=.string (txt nm))→qC z (Hz L) (.int .u64 (t:Int))=.string (txt nm)
 |[],z,_,h=>by
   rcases h with⟨a,ha,_⟩|h
   ·cases ha
   exact h
 |s::L,z,h,h2=>by
   show qC (bif (Lit.int .u64 (s.tag:Int)).sameKey (.int .u64 (t:Int))then .string (txt s.nm)else z) (Hz L) _=_;refine adv t nm L _ (fun a ha=>h a (dh _ ha)) ?_;by_cases e:s.tag=t
   ·right
    rw[e,WideAt.sameKey_self (rY .u64 (t:Int)),h s dw e];rfl
   rw[Maps.sameKey_ne (fun h=>e (by injection h with h1 h2;omega))];rcases h2 with⟨a,ha,hat⟩|h2
   ·rcases bC.1 ha with rfl|ha
    ·exact aJ hat e
    exact .inl ⟨a,ha,hat⟩
   exact .inr h2
theorem abM:Maps.Keyed prog 22:=Maps.int_keyed underlying22
theorem an9(w:World):(zeroValue 9).run prog w=.ok (.string ByteArray.empty) w:=rfl
theorem aji{w:World}{P:Program}{k:TypeId}{b:Nat}{l:List (Lit×Value)}(h:MapAt w P k b l)(i:Nat):w.cell? ⟨b,i,none⟩=none:=by
 obtain⟨⟨es,clock,h1,_⟩,_⟩:=h;simp[World.cell?,h1]
theorem alo{w w':World}{A:Option Addr}{xs:List Value}{mb:Nat}(h:Rd w A xs)(hm:∀i,w.cell? ⟨mb,i,none⟩=none)(ht:dX (fun j=>j=mb) w w'):Rd w' A xs:=by
 rcases h with h|⟨b,off,e,hb,hc⟩
 ·exact .inl h
 cases xs with
 |nil=>exact .inl rfl
 |cons x r=>
   have h0:=hc 0 x rfl;refine Rd.fE (.inr ⟨b,off,e,hb,hc⟩) ht fun b' off' e' e2=>?_;rw[e]at e';injection e' with e';injection e' with e3 e4;subst e2 e3;rw[hm]at h0;cases h0
def YH(w4:World)(mb:Nat)(l:List Sp)(wr:World):Prop:=MapAt wr prog 22 mb (Hz l)∧dX (fun j=>j=mb) w4 wr
theorem ana{w w':World}{b:Nat}(h:dX (fun j=>j=b) w w'):w.grownBy w' (some b):=⟨h.os,h.tape,h.output,h.size,fun k hk hne=>h.block k hk fun e=>hne (by rw[e])⟩
theorem ajy(B:Nat)(w:World)(k:Int):ni B w { m0 with kind:=k } (.slice none 0 0) (.slice none 0 0) (.slice none 0 0):=⟨⟨none,0,rfl,au _,.inl rfl⟩,EU B w,eF.nil _ _ _ _⟩
def RF(w8:World)(bm:Nat)(L:List Sp)(M0:Mp)(F:List Fl)(j:Nat)(wr:World):Prop:=∃M dv tv rv,yL M∧M.rest=.nil∧M.kind=M0.kind∧mW L M0 F=mW L M (F.drop j)∧dU wr bm 35 (dR M dv tv rv)∧ni w8.heap.size wr M dv tv rv∧dX (fun k=>k=bm) w8 wr
theorem aju(s:List UInt8)(v:Nat):vT s v=if 65536<s.length then(m0,4)else if(dQ s).2.2≠0 then(m0,((dQ s).2.2:Int))
 else if iP (rZ (dQ s).1)=0∨v<iP (rZ (dQ s).1)then(m0,15)
 else if(kF (s.drop (dQ s).2.1)).2≠0 then(m0,((kF (s.drop (dQ s).2.1)).2:Int))else He (rZ (dQ s).1) (kF (s.drop (dQ s).2.1)).1 v:=rfl
theorem Zp(v:Nat)(h1:1≤v)(h3:v≤3)(s:ByteArray)(hs:s.size≤1000000)(w:World)(hT:Tabs w) :
 Calls prog 12 #[.string s,.int .i64 (v:Int)] w (rG w (vT s.data.toList v)):=by
 have hsl:s.data.toList.length=s.size:=by simp
 have HD:=ah (aju s.data.toList v)
 rw[hsl]at HD
 have HT:=ah hT
 have hlo:¬(v:Int)<1:=by omega
 have hhi:¬(3:Int)<(v:Int):=by omega
 have hbz:=ba (a:=w) b0 (.cells fF 35)
 have hmz:=dU.made w 35 fF
 obtain⟨wz,hwz⟩:∃wz,wz=w.alloc (.cells fF 35):=⟨_,rfl⟩
 have iO:=ah hmz
 rw[← hwz]at hbz hmz
 have HB0:=ah hbz
 have HR0:=ah hmz
 have HG:=ah (get_any s wz (by omega))
 obtain⟨R,hR⟩:∃R,R=vT s.data.toList v:=⟨_,rfl⟩
 rw[← hR]at HD⊢
 obtain⟨V,hV⟩:∃V,V=dQ s.data.toList:=⟨_,rfl⟩
 have HV:=ah hV
 rw[← hV]at HD HG
 simp only[fF]at hwz iO
 clear hR hV hbz hmz hT hsl
 go_enter func12,ntmps12
 by_cases hbig:65536<s.size
 ·have hq:=HD.out
  rw[aA hbig]at hq;have hbi:(65536:Int)<(s.size:Int):=by omega
  clear HD HG HV hwz
  go_wp2_with
   (with_reducible show wpList _ _ _ (Oper.mk _ (Op.store 35 _ _) _ _ _ _::_) _ _;apply pin)
  refine nO rfl _ _ _ rfl _ fF rfl rfl iO.out rfl (iC m0 (.slice none 0 0) (.slice none 0 0) (.slice none 0 0)) AP ?_;simp only[Act.put];go_wp2_with fail;refine bodyPost_ret (v:=.tuple #[.agg fF,.int .i64 (4)]) (by exact vU rfl _ _ w.heap.size 35 _ _ (.int .i64 (4)) rfl (ny iO.out rfl) underlying35 rfl (iC m0 (.slice none 0 0) (.slice none 0 0) (.slice none 0 0)) rfl) rfl ?_;exact rG.bad hq ((ba b0 _).trans ((mD _ w.heap.size fF).iI (ba b0 _).size fun g hg e=>by omega))
 ·have hq:=HD.out
  rw[ay hbig]at hq;have HD2:=ah hq;have hbi:¬(65536:Int)<(s.size:Int):=by omega
  clear HD hq;go_wp2_with fail;rw[← hwz];refine HG.out.mono ?_;rintro e w1 ⟨rfl,hb1⟩;have HB1:=ah (bb HB0.out hb1);have HR1:=ah (HR0.out.below hb1 HR0.out.lt);clear hb1 HG iO HR0 hwz HB0;have Oz:=Ib s.data.toList;rw[← HV.out]at Oz;obtain⟨n,sz,ec⟩:=V;simp only at HD2⊢;by_cases Ue:ec=0
  ·subst Ue
   have hq:=HD2.out;rw[ay (by simp)]at hq;have HD3:=ah hq;have hnz:n<18446744073709551616∧sz≤s.size:=by
    rcases Oz with⟨e,h,h2⟩|⟨n',k,h,g1,_,_,g4,_⟩
    ·injection h with h4 h5
     injection h5 with h5 h6;omega
    injection h with h4 h5;injection h5 with h5 h6;subst h4 h5;simp at g4;exact⟨g1,g4⟩
   obtain⟨nM,hsz⟩:=hnz;clear Oz hq HD2 HV;by_cases hn8:n≤8
   ·have hk8:rZ n=n:=by unfold rZ;rw[aA hn8]
    rw[hk8]at HD3;have hwn:IntKind.i64.wrap (n:Int)=(n:Int):=(by rw[IntKind.wrap_i64];omega);have aiq:(n:Int)≤8:=(by omega);have xq:Hid (∀x,Calls prog 37 #[.int .i64 (n:Int)] x (aj x (.int .i64 (iP n:Int)))):=fun x=>by
     have:=ND (n:Int) x (by unfold iK;omega);have h2:=aiW n;rw[hk8]at h2;rw[h2]at this;exact this
    clear hk8;go_wp2_with fail;refine(xq.out _).mono ?_;rintro e w2 ⟨rfl,hb2⟩;have HB2:=ah (bb HB1.out hb2);have HR2:=ah (HR1.out.below hb2 HR1.out.lt);clear hb2 xq HB1 HR1;by_cases pK:iP n=0∨v<iP n
    ·have hq:=HD3.out
     rw[aA pK]at hq;clear HD3;generalize iP n=KF at *;rcases pK with h0|h0
     ·subst h0
      go_wp2_with
       (with_reducible show wpList _ _ _ (Oper.mk _ (Op.store 35 _ _) _ _ _ _::_) _ _;apply pin)
      refine nO rfl _ _ _ rfl _ fF rfl rfl HR2.out rfl (iC m0 (.slice none 0 0) (.slice none 0 0) (.slice none 0 0)) AP ?_;simp only[Act.put];go_wp2_with fail;refine bodyPost_ret (v:=.tuple #[.agg fF,.int .i64 (15)]) (by exact vU rfl _ _ w.heap.size 35 _ _ (.int .i64 (15)) rfl (ny HR2.out rfl) underlying35 rfl (iC m0 (.slice none 0 0) (.slice none 0 0) (.slice none 0 0)) rfl) rfl ?_;exact rG.bad hq ((HB2.out).trans ((mD _ w.heap.size fF).iI (HB2.out).size fun g hg e=>by omega))
     have xZ:(v:Int)<(KF:Int):=(by omega);have hk0:((KF:Int)==0)=false:=(by rw[aB];omega)
     go_wp2_with
      (with_reducible show wpList _ _ _ (Oper.mk _ (Op.store 35 _ _) _ _ _ _::_) _ _;apply pin)
     refine nO rfl _ _ _ rfl _ fF rfl rfl HR2.out rfl (iC m0 (.slice none 0 0) (.slice none 0 0) (.slice none 0 0)) AP ?_;simp only[Act.put];go_wp2_with fail;refine bodyPost_ret (v:=.tuple #[.agg fF,.int .i64 (15)]) (by exact vU rfl _ _ w.heap.size 35 _ _ (.int .i64 (15)) rfl (ny HR2.out rfl) underlying35 rfl (iC m0 (.slice none 0 0) (.slice none 0 0) (.slice none 0 0)) rfl) rfl ?_;exact rG.bad hq ((HB2.out).trans ((mD _ w.heap.size fF).iI (HB2.out).size fun g hg e=>by omega))
    have hq:=HD3.out;rw[ay pK]at hq;have HD4:=ah hq;have hkv:iP n≤v:=(by omega);have hk4:=EJ (k:=n) (by omega);have hk1:=hk4.1;have aik:=hk4.2.1;clear hq HD3;have Xw:Hid (iP n≤v):=hkv;have xZ:¬(v:Int)<(iP n:Int):=(by omega);have hk0:((iP n:Int)==0)=false:=(by rw[aB];omega);clear hkv hk4 pK;generalize iP n=KF at xZ hk0⊢;have hex:(s.extract sz s.size).data.toList=s.data.toList.drop sz:=by
     rw[ext_list];exact aU (by rw[aN,fK];exact au _)
    have ah1:(s.extract sz s.size).size≤65536:=by
     have:(s.extract sz s.size).data.toList.length=(s.extract sz s.size).size:=fK _;rw[hex,aN,fK]at this;omega
    have LX:Hid (∀x,Calls prog 38 #[.string (s.extract sz s.size)] x (Fh x (s.extract sz s.size))):=fun x=>anW (s.extract sz s.size) x (by omega);unfold Fh at LX;rw[hex]at LX;have sN:=ah (ag9 (s:=s.data.toList.drop sz) (by rw[aN,fK];omega));have La:=ah (aha (s:=s.data.toList.drop sz) (by rw[aN,fK];omega));have Qx:Hid ((s.data.toList.drop sz).length≤65536):=by
     show _≤65536;rw[aN,fK];omega
    clear hex ah1;generalize hG:kF (s.data.toList.drop sz)=G at *;go_wp2_with fail;refine(LX.out _).mono ?_;rintro e w3 ⟨A,c,rfl,hsl,hb3⟩;have HB3:=ah (bb HB2.out hb3);have AU:=HB3;have HR3:=ah (HR2.out.below hb3 HR2.out.lt);have HSL:=ah hsl;clear hb3 hsl LX HB2 HR2;obtain⟨GF,GC⟩:=G;simp only at HD4 sN La HSL⊢;by_cases hgc:GC=0
    ·subst hgc
     have hq:=HD4.out;rw[ay (by simp)]at hq;have HD5:=ah hq;obtain⟨f1,f2,f3,f4,_,_⟩:=sN.out rfl;have f5:=La.out rfl;have lV:=ah f1;have HF3:=ah ((xP GF 0 0 f1 (by omega)).1 f3);have og:Hid ((eu GF).length≤65536):=by
      show _≤65536;rw[f4];exact Qx.out
     have Lh:Hid (GF.count≤65536):=aI f5 Qx.out;have Um:=aik;clear hq HD4 sN La f1 f2 f3 f4 f5 Qx;have nU:Hid (∀x,Calls prog 39 #[.int .i64 (n:Int),.int .i64 (v:Int)] x (qw x (fJ n v))):=fun x=>OM n v x hk1 Um Xw.out h3;have DF:Hid (∀x,Calls prog 41 #[.int .i64 (n:Int),.int .i64 (v:Int)] x fun e w'=>∃A c,e=.returned (.slice A (jc n v).length c)∧Rd w' A (mY (jc n v))∧(jc n v).length≤c∧Below x.heap.size x w'):=fun x=>adp n v x hk1 Um Xw.out h3;have lT:=ah (zh n v);have hll:(fJ n v).length≤5:=aI (List.length_filter_le _ _) (Au n);have hmm:=@run_makeMap prog;have H0:=ah (MapAt.made w3 prog 22);have BM:=ah (ba (a:=w3) b0 (.map #[] 0));have hsm:(w3.alloc (.map #[] 0)).heap.size=w3.heap.size+1:=(by simp);have aeh:=ah hsm;clear hsm
     obtain⟨L,hL⟩:∃L,L=fJ n v:=⟨_,rfl⟩;have uq:=ah hL;rw[← hL]at nU lT hll;clear hL;obtain⟨GL,TM⟩:∃GL,GL=GF.len:=⟨_,rfl⟩;rw[← TM]at HSL⊢;have Xp:=ah TM;clear TM;go_wp2_with fail;refine(nU.out _).mono ?_;rintro e w4 ⟨A4,c4,rfl,hrd,hlc,hb4⟩;have jq:=ah hrd;have QC:=ah (Az H0.out hb4);have HB4:=ah (bb BM.out hb4);have ou:Hid (YH w4 w3.heap.size (L.take 0) w4):=⟨QC.out,dX.refl _ _⟩;have LP:Hid (w3.heap.size<w4.heap.size):=by
      show _<_;have:=hb4.size;rw[aeh.out]at this;omega
     clear hrd hb4 nU BM H0 hmm;go_wp2_with fail;go_loopg [72] L.length (fun gk ki wr=>∃j:Nat,j≤L.length∧L.length - j≤gk∧ki=.int .i64 (j:Int)∧Hid (YH w4 w3.heap.size (L.take j) wr))
     case atStart=>exact⟨0,aW _,by omega,rfl,ou⟩
     case round=>
      obtain⟨j,hj,hgj,rfl,HS⟩:=hrel;obtain⟨hmap,kV⟩:=HS.out;have Ah:=alo jq.out (aji QC.out) kV;by_cases hlt:j<L.length
      ·obtain⟨b,off,iL,hbl,c0,c1,c2,c3⟩:=uU Ah hlt
       subst iL;have hst:L.take (j+1)=L.take j++[L[j]]:=(aT hlt).symm;have ht5:=(lT.out.2 L[j] (aS hlt)).2.2.2.2.1;generalize L[j]=s' at *;have hbs:=ba (a:=wr) b0 (.cells #[.int .u64 (s'.tag:Int),.int .i64 (s'.use:Int),.int .i64 (s'.from_:Int),.string (txt s'.nm)] 94);have wI:=ah (Az hmap hbs);have HTH:=ah (kV.bel hbs);have HST:=ah hst;have hjl:(Hz (L.take j)).length≤5:=(by rw[Hz,aY,bD];omega);have hw64:(Lit.int .u64 (s'.tag:Int)).wf=true:=by
        simp only[Lit.wf,show IntKind.u64.min=0 from rfl,show IntKind.u64.max=18446744073709551615 from rfl,bT,bG];omega
       clear hmap kV Ah hst HS ou hbs ht5;go_wp2_with(with_reducible show wpList _ _ _ (Oper.mk _ (Op.mapUpdate _ _ _ _) _ _ _ _::_) _ _;refine adQ _ rfl _ _ _ 90 rfl 22 9 abM underlying90 _ _ rfl wI.out (by unfold maxLen;omega) (.int .u64 (s'.tag:Int)) (.string (txt s'.nm)) (.int .u64 (s'.tag:Int)) rfl rfl (Maps.keyOf_int_mk underlying22 hw64) (rY _ _) ?_;intro w5 kZ hg5);go_roundg (L.length - (j+1))
       case measure=>omega
       case rel=>
        refine⟨j+1,by omega,au _,by go_num,?_,HTH.out.trans (dX.grown (S:=fun j=>j=w3.heap.size) hg5 fun g hg _=>by injection hg with hg;exact hg.symm) fun g _ e=>e⟩;rw[HST.out,Hz,dB];exact kZ
      obtain rfl:j=L.length:=(by omega);rw[aU (au _)]at hmap;have hbf:Below w3.heap.size w3 wr:=HB4.out.trans (kV.iI (Nat.le_of_lt LP.out) fun g hg e=>by omega);have kZ:=dU.made wr 35 fF;have hmb:=ny (ds:=dR { m0 with kind:=(n:Int) } (.slice none 0 0) (.slice none 0 0) (.slice none 0 0)) kZ rfl;have hpt:=mD (wr.alloc (.cells fF 35)) wr.heap.size (dR { m0 with kind:=(n:Int) } (.slice none 0 0) (.slice none 0 0) (.slice none 0 0));have hsa:(wr.alloc (.cells fF 35)).heap.size=wr.heap.size+1:=(by simp);have hsp:(World.jM (wr.alloc (.cells fF 35)) wr.heap.size (dR { m0 with kind:=(n:Int) } (.slice none 0 0) (.slice none 0 0) (.slice none 0 0))).heap.size=wr.heap.size+1:=(by rw[Pm,hsa])
      have hb6:Below wr.heap.size wr (World.jM (wr.alloc (.cells fF 35)) wr.heap.size (dR { m0 with kind:=(n:Int) } (.slice none 0 0) (.slice none 0 0) (.slice none 0 0))) :=
       (ba (a:=wr) b0 (.cells fF 35)).trans (hpt.iI (by omega) fun g hg e=>by omega)
      obtain⟨w6,hw6⟩:∃w6,w6=World.jM (wr.alloc (.cells fF 35)) wr.heap.size (dR { m0 with kind:=(n:Int) } (.slice none 0 0) (.slice none 0 0) (.slice none 0 0)):=⟨_,rfl⟩;rw[← hw6]at hmb hb6 hsp;obtain⟨bm,hbm⟩:∃bm,bm=wr.heap.size:=⟨_,rfl⟩;have sO:=ah kZ;rw[← hbm]at hmb;have QB:=ah hmb;have XD:=ah (Az hmap hb6);have iE:Hid (Below w3.heap.size w3 w6):=hbf.trans (hb6.mono hbf.size);have zI:=ah (HR3.out.below iE.out HR3.out.lt);have QU:Hid (w3.heap.size<bm∧bm<w6.heap.size):=by
       have:=kV.size;have:=LP.out;exact⟨by omega,by omega⟩
      have X7:=ah (HSL.out.below iE.out);have abH:∀(P:World→Prop),P w6→P (World.jM (wr.alloc (.cells fF 35)) wr.heap.size (dR { m0 with kind:=(n:Int) } (.slice none 0 0) (.slice none 0 0) (.slice none 0 0))):=fun P h=>(by rw[← hw6];exact h);simp only[fF]at sO hw6 abH;clear hbf kZ hmb hpt hsa hb6 hsp hmap kV Ah HS ou jq QC
      go_wp2_with
       (with_reducible show wpList _ _ _ (Oper.mk _ (Op.store 35 _ _) _ _ _ _::_) _ _;apply pin)
      refine nO rfl _ _ _ rfl _ (dR { m0 with kind:=(n:Int) } (.slice none 0 0) (.slice none 0 0) (.slice none 0 0)) rfl rfl sO.out rfl (iC _ _ _ _) sF ?_;rw[← hw6];clear hw6 abH sO;simp only[Act.put];rw[← hbm];clear hbm;go_wp2_with fail;refine(DF.out _).mono ?_;rintro e w7 ⟨At,ct,rfl,htr,htl,hb7⟩;have UD:=X7.out.below hb7;rw[Xp.out]at UD;have hsp:=amR A c GF At ct (jc n v) _ w7 UD htr (aI Lh.out (by decide)) (by rw[jc,aY,← uq.out];omega) (fun t ht=>by
       obtain⟨s',hs',e⟩:=Ko.1 ht;have:=(lT.out.2 s' (by rw[uq.out];exact hs')).2.2.2.2.1;omega) lV.out
      rw[← Xp.out]at hsp;have sQ:=ah hsp;have iV:Hid (Below w3.heap.size w3 w7):=iE.out.trans (hb7.mono iE.out.size);have QK:=ah (zI.out.below hb7 zI.out.lt);have Qy:=ah (QB.out.below hb7 QB.out.lt);have XF:=ah (Az XD.out hb7);have QV:Hid (w3.heap.size<bm∧bm<w7.heap.size):=⟨QU.out.1,by have:=QU.out.2;have:=hb7.size;omega⟩
      have X4:Hid (R=if(mW L { m0 with kind:=(n:Int) } (gu (jc n v) true GF).eP).2≠0 then(m0,(mW L { m0 with kind:=(n:Int) } (gu (jc n v) true GF).eP).2)
       else if iG { (mW L { m0 with kind:=(n:Int) } (gu (jc n v) true GF).eP).1 with rest:=gu (jc n v) false GF } v≠0 then
        (m0,iG { (mW L { m0 with kind:=(n:Int) } (gu (jc n v) true GF).eP).1 with rest:=gu (jc n v) false GF } v)
       else({ (mW L { m0 with kind:=(n:Int) } (gu (jc n v) true GF).eP).1 with rest:=gu (jc n v) false GF },0)):=by
       rw[uq.out]
       exact HD5.out
      have HFX:Hid (∀x∈(gu (jc n v) true GF).eP,(∃s'∈L,s'.tag=x.tag)∧x.text.size≤1000000∧x.num<18446744073709551616):=fun x hx=>by
       have hk:=(uT (P:=mF) (gu (jc n v) true GF).eP).1 (by rw[qE];exact Ny _ _ lV.out) x hx;have ht:=adu (Tn (jc n v) true HF3.out) x hx;have hp:=Vt (jc n v) true GF;refine⟨?_,by have:=og.out;omega,hk.1.2.2.1⟩;rw[Ed]at hx;obtain⟨s',hs',e⟩:=Ko.1 (by simpa using(List.mem_filter.1 hx).2);exact⟨s',by rw[uq.out];exact hs',e⟩
      have wJ:Hid ((gu (jc n v) false GF).All mF∧(gu (jc n v) false GF).count≤900000∧(eu (gu (jc n v) false GF)).length≤100000000) :=
       ⟨Ny _ _ lV.out,by have:=Nz (jc n v) false GF;have:=Lh.out;omega,by have:=Vt (jc n v) false GF;have:=og.out;omega⟩
      have Ug:(gu (jc n v) true GF).len≤65536:=aI (NC _ _ _) (aI GF.kH Lh.out);clear UD hsp htr htl hb7 DF X7 iE zI QB XD QU HD5 lV HF3 og Lh;generalize jc n v=TG at *;generalize hFP:gu TG true GF=F at *;generalize hFR:gu TG false GF=Rf at *;generalize TG.length=TL at *;go_wp2_with fail;refine sQ.out.mono ?_;rintro e w8 ⟨Aw,Ar,cw,cr,rfl,hsw,hsr,hb8⟩;rw[hFP]at hsw⊢;rw[hFR]at hsr⊢;have HSW:=ah hsw;have IK:=ah hsr;have kN:Hid (Below w3.heap.size w3 w8):=iV.out.trans (hb8.mono iV.out.size);have yE:=ah (QK.out.below hb8 QK.out.lt);have HM8:=ah (Qy.out.below hb8 Qy.out.lt);have aec:=ah (Az XF.out hb8);have HS8:Hid (w3.heap.size<bm∧bm<w7.heap.size∧w7.heap.size≤w8.heap.size∧w.heap.size<w3.heap.size):=⟨QV.out.1,QV.out.2,hb8.size,HR3.out.lt⟩
      have HW0:Hid (RF w8 bm L { m0 with kind:=(n:Int) } F.eP 0 w8):=⟨{ m0 with kind:=(n:Int) },_,_,_,yL.zero n Um,rfl,rfl,rfl,HM8.out,ajy _ _ _,dX.refl _ _⟩;obtain⟨FN,NQ⟩:∃FN,FN=F.len:=⟨_,rfl⟩;obtain⟨RN,TR⟩:∃RN,RN=Rf.len:=⟨_,rfl⟩;rw[← NQ,← TR];rw[← NQ]at Ug;have wF:=ah NQ;have QL:=ah TR;clear NQ TR hsw hsr hb8 sQ iV QK Qy XF QV hFP hFR;go_wp2_with fail;go_loopg [94] FN (fun gk ki wr=>∃j:Nat,j≤FN∧FN - j≤gk∧ki=.int .i64 (j:Int)∧Hid (RF w8 bm L { m0 with kind:=(n:Int) } F.eP j wr))
      case atStart=>exact⟨0,aW _,by omega,rfl,HW0⟩
      case round=>
       obtain⟨j,hj,hgj,rfl,HS⟩:=hrel;obtain⟨M,dv,tv,rv,Eh,hMr,TP,hmw,hbl,kU,kV⟩:=HS.out;obtain⟨dA,dc,tA,tc,rA,rc,rfl,rfl,rfl⟩:=kU.slices;have hS8:=HS8.out;have Ee:Below w3.heap.size w3 wr:=kN.out.trans (kV.iI (by have:=kN.out.size;omega) fun g hg e=>by omega);have hrr:dU wr w.heap.size 35 fF:=HR3.out.below Ee HR3.out.lt;by_cases hlt:j<FN
       ·have abg:j<F.len:=by rw[← wF.out];exact hlt
        have hsl:=HSW.out.fE kV (fun k hk e=>by omega);obtain⟨b,o,Ai,ci,hre,sZ,d0,d1,d2,d3,d4⟩:=PD hsl j abg;subst hre;have hkt:j<F.eP.length:=(by rw[oK];exact abg);have hdrop:F.eP.drop j=F.eP[j]'hkt::F.eP.drop (j+1):=bI hkt;obtain⟨hs',htx,hnum⟩:=HFX.out (F.eP[j]'hkt) (aS hkt);generalize F.eP[j]'hkt=x at *;obtain⟨tg,ty,nu,tx,inn⟩:=x;simp only at d0 d1 d2 d3 d4 hs' htx hnum;obtain⟨sp,hsp,hst⟩:=hs';have hix:mP L tg=six sp:=by
         rw[← hst];exact G9 lT.out hsp
        have hi22:=(lT.out.2 sp hsp).1;have hnm:=(lT.out.2 sp hsp).2.2.2.2.2.1;have hget:=adv tg (dW (six sp)) L (.string ByteArray.empty) (fun a ha e=>by rw[VQ lT.out a ha sp hsp (.inr (e.trans hst.symm))];exact hnm) (.inl ⟨sp,hsp,hst⟩);have aiy:=(lT.out.2 sp hsp).2.2.2.2.1;have hw64:(Lit.int .u64 (tg:Int)).wf=true:=by
         simp only[Lit.wf,show IntKind.u64.min=0 from rfl,show IntKind.u64.max=18446744073709551615 from rfl,bT,bG];omega
        generalize six sp=ix at *;have hba:=ba (a:=wr) b0 (.cells #[.int .u64 (tg:Int),.int .i64 ty,.int .u64 (nu:Int),.string tx,.slice Ai inn.len ci] 47);have iO:=ah (hbl.more (.cells #[.int .u64 (tg:Int),.int .i64 ty,.int .u64 (nu:Int),.string tx,.slice Ai inn.len ci] 47));have yF:=ah (hrr.more (.cells #[.int .u64 (tg:Int),.int .i64 ty,.int .u64 (nu:Int),.string tx,.slice Ai inn.len ci] 47));have HFA:=ah (dU.made wr 47 #[.int .u64 (tg:Int),.int .i64 ty,.int .u64 (nu:Int),.string tx,.slice Ai inn.len ci]);have aed:=ah (Az (aec.out.kept (ana kV) (by intro e;injection e with e;omega)) hba);have hsz:=Eh.sizes
        have hwi:=anY (wr.alloc (.cells #[.int .u64 (tg:Int),.int .i64 ty,.int .u64 (nu:Int),.string tx,.slice Ai inn.len ci] 47)) (kU.v.below hba) hsz.1 hsz.2.1 hsz.2.2 (by rw[hMr];exact aW _) ix tg ty nu tx.data.toList Ai inn.len ci hi22 hnum (by rw[fK];exact htx)
         (HT.out.below ((AU.out.trans (Ee.mono AU.out.size)).trans (hba.mono (by have:=AU.out.size;have:=Ee.size;omega))))
        rw[anh]at hwi;have LY:=ah hwi;have hstep:=ajG L M ⟨tg,ty,nu,tx,inn⟩ (F.eP.drop (j+1));rw[← hdrop,← hmw,hix]at hstep;simp only at hstep;have IL:=ah hstep;have ad8:=ah hget;have LD:Hid (∀h0:(ig (gy ix) ty nu tx.data.toList).2=0,yL (M.put ix (ig (gy ix) ty nu tx.data.toList).1)):=fun h0=>Eh.put hi22 hnum h0;have IB:=ah (Mp.Vz M ix (ig (gy ix) ty nu tx.data.toList).1);have qR:=ah hMr;have zG:=ah TP;have LU:=ah kV;have Qe:=ah hba;have iW:=ah Ee;have hS9:w8.heap.size≤wr.heap.size:=kV.size;clear hstep hget Eh hMr TP hmw hbl kU kV Ee hrr hsl hdrop hkt htx hnum hst hix hi22 hnm aiy hba hsz hwi HS HW0;generalize ig (gy ix) ty nu tx.data.toList=q at *;obtain⟨V,E⟩:=q;generalize inn.len=il at *;simp only at IL LD IB LY
        go_wp2_with
         (first|(with_reducible show wpList _ _ _ (Oper.mk _ (Op.load 35 _) _ _ _ _::_) _ _;refine nN rfl _ _ rfl _ rfl _ iO.out underlying35 rfl (iC _ _ _ _) ?_)|(at_lookup;refine E5 _ rfl _ _ 90 rfl 22 9 abM underlying90 (an9 _) _ _ rfl aed.out (.int .u64 (tg:Int)) (.int .u64 (tg:Int)) rfl (Maps.keyOf_int_mk underlying22 hw64) ad8.out ?_))
        refine LY.out.mono ?_;rintro e w9 ⟨dv9,tv9,rv9,rfl,BO,uK⟩;have Qz:=ah (iO.out.below uK iO.out.lt);have HR9:=ah (yF.out.below uK yF.out.lt);have yw:=ah (bb Qe.out uK);simp only at BO⊢;by_cases hE:E=0
        ·subst hE
         simp only[ne_eq,not_true_eq_false,if_false]at BO⊢;obtain⟨D8,D9,ES,EW,EP,ER,rfl,rfl,rfl⟩:=BO.slices;have abj:=ny (ds:=dR (M.put ix V) (.slice D8 (M.put ix V).d.length D9) (.slice ES (M.put ix V).t.length EW) (.slice EP (M.put ix V).rest.len ER)) Qz.out rfl;have Uz:=mD w9 bm (dR (M.put ix V) (.slice D8 (M.put ix V).d.length D9) (.slice ES (M.put ix V).t.length EW) (.slice EP (M.put ix V).rest.len ER));have hs9:=uK.size;simp only[World.size_alloc]at hs9;have HN:Hid (RF w8 bm L { m0 with kind:=(n:Int) } F.eP (j+1) (World.jM w9 bm (dR (M.put ix V) (.slice D8 (M.put ix V).d.length D9) (.slice ES (M.put ix V).t.length EW) (.slice EP (M.put ix V).rest.len ER)))):=by
          have h1:=IL.out;rw[ay (by simp)]at h1;refine⟨M.put ix V,_,_,_,LD.out rfl,by rw[IB.out.2,qR.out],by rw[IB.out.1,zG.out],h1,abj,?_,?_⟩
          ·refine(BO.fE Uz fun k hk e=>?_).mono ?_
           ·simp only[World.size_alloc]at hk;omega
           simp only[World.size_alloc];omega
          exact(LU.out.bel yw.out).trans Uz fun g _ e=>e
         clear BO uK abj Uz IL LD IB qR zG LU LY
         go_wp2_with
          (with_reducible show wpList _ _ _ (Oper.mk _ (Op.store 35 _ _) _ _ _ _::_) _ _;apply pin)
         refine nO rfl _ _ _ rfl _ _ rfl rfl Qz.out rfl (iC _ _ _ _) sF ?_;simp only[Act.put];go_wp2_with fail;go_roundg (FN - (j+1))
         case measure=>omega
         case rel=>exact⟨j+1,by omega,au _,by go_num,HN⟩
        simp only[ne_eq,hE,not_false_eq_true,if_true]at BO⊢;obtain⟨D8,D9,ES,EW,EP,ER,rfl,rfl,rfl⟩:=BO.slices;have h1:=IL.out;rw[aA hE]at h1;have hq:=X4.out;rw[h1,aA hE]at hq;have HQ:Hid (R=(m0,E)):=hq;have Dv:=ah (HR9.out.fE (mD w9 bm (dR m0 (.slice D8 m0.d.length D9) (.slice ES m0.t.length EW) (.slice EP m0.rest.len ER))) (by omega));have Fq:Hid (Below w.heap.size w (World.jM w9 bm (dR m0 (.slice D8 m0.d.length D9) (.slice ES m0.t.length EW) (.slice EP m0.rest.len ER)))) :=
         (AU.out.trans ((iW.out.trans (yw.out.mono iW.out.size)).mono AU.out.size)).trans ((mD w9 bm _).iI (by have:=AU.out.size;have:=iW.out.size;have:=yw.out.size;omega) fun g hg e=>by omega)
        have yU:(E==0)=false:=(by rw[aB];exact hE);clear BO uK IL LD IB qR zG LU LY h1 hq hE
        go_wp2_with
         (with_reducible show wpList _ _ _ (Oper.mk _ (Op.store 35 _ _) _ _ _ _::_) _ _;apply pin)
        refine nO rfl _ _ _ rfl _ _ rfl rfl Qz.out rfl (iC _ _ _ _) sF ?_;simp only[Act.put];generalize World.jM w9 bm (dR m0 (.slice D8 m0.d.length D9) (.slice ES m0.t.length EW) (.slice EP m0.rest.len ER))=w10 at Dv Fq⊢
        go_wp2_with
         (with_reducible show wpList _ _ _ (Oper.mk _ (Op.store 35 _ _) _ _ _ _::_) _ _;apply pin)
        refine nO rfl _ _ _ rfl _ fF rfl rfl Dv.out rfl (iC m0 (.slice none 0 0) (.slice none 0 0) (.slice none 0 0)) AP ?_;simp only[Act.put];go_wp2_with fail;refine bodyPost_ret (v:=.tuple #[.agg fF,.int .i64 (E)]) (by exact vU rfl _ _ w.heap.size 35 _ _ (.int .i64 (E)) rfl (ny Dv.out rfl) underlying35 rfl (iC m0 (.slice none 0 0) (.slice none 0 0) (.slice none 0 0)) rfl) rfl ?_;exact rG.bad HQ.out ((Fq.out).trans ((mD _ w.heap.size fF).iI (Fq.out).size fun g hg e=>by omega))
       obtain rfl:j=FN:=(by omega);have abk:mW L { m0 with kind:=(n:Int) } F.eP=(M,0):=by
        rw[hmw,dF (by rw[oK,wF.out];exact au _)];rfl
       have hq:=X4.out;rw[abk,ay (by simp)]at hq;simp only at hq;have HQ:=ah hq;obtain⟨M',hM'⟩:∃M':Mp,M'={ M with rest:=Rf }:=⟨_,rfl⟩;have hsr:=IK.out.fE kV (fun k hk e=>by omega);have rC:dU (wr.setCell ⟨bm,23,none⟩ (.slice Ar RN cr)) bm 35 (dR M' (.slice dA M'.d.length dc) (.slice tA M'.t.length tc) (.slice Ar M'.rest.len cr)):=by
        have:=hbl.put 23 (.slice Ar RN cr);rw[hM'];rw[QL.out]at this⊢;exact this
       have htp:dX (fun k=>k=bm) wr (wr.setCell ⟨bm,23,none⟩ (.slice Ar RN cr)):=(dX.refl (fun k=>k=bm) wr).put (p:=⟨bm,23,none⟩) (fun _=>rfl) _;have Uu:ni w7.heap.size (wr.setCell ⟨bm,23,none⟩ (.slice Ar RN cr)) M' (.slice dA M'.d.length dc) (.slice tA M'.t.length tc) (.slice Ar M'.rest.len cr):=by
        have h1:=(kU.fE htp fun k hk e=>by omega).mono (C:=w7.heap.size) (by omega);have h2:=hsr.fE htp fun k hk e=>(by omega);rw[hM'];exact⟨h1.1,h1.2.1,h2⟩
       have abl:jV M':=by
        rw[hM'];exact aci Eh.kind Eh.may Eh.good wJ.out.1 wJ.out.2.1 wJ.out.2.2
       have hss:(wr.setCell ⟨bm,23,none⟩ (.slice Ar RN cr)).heap.size=wr.heap.size:=(by simp[World.setCell]);have hS9:w8.heap.size≤wr.heap.size:=kV.size;have tq:wr.cell? ⟨bm,23,none⟩=some (.slice rA M.rest.len rc):=hbl.cell 23;have ah2:=hbl.free 23;have hlb:=hbl.lt;have hBw:Below w.heap.size w (wr.setCell ⟨bm,23,none⟩ (.slice Ar RN cr)):=(AU.out.trans (Ee.mono AU.out.size)).setCell (by show w.heap.size≤bm;omega) _;have Dv:Hid (dU (wr.setCell ⟨bm,23,none⟩ (.slice Ar RN cr)) w.heap.size 35 fF):=hrr.far (by show w.heap.size≠bm;omega) _;have jw:=ah (Kr v h1 h3 _ Uu.v abl (HT.out.below hBw));have Lu:=ah rC;have Xl:=ah Uu;have Fq:=ah hBw;rw[← hM']at HQ;clear abk hq hM' hsr rC htp Uu abl hBw Eh hMr TP hmw hbl kU kV Ee hrr HS HW0
       go_wp2_with
        (first|(with_reducible show wpList _ _ _ (Oper.mk _ (Op.load 35 _) _ _ _ _::_) _ _;refine nN rfl _ _ rfl _ rfl _ Lu.out underlying35 rfl (iC _ _ _ _) ?_)|(with_reducible show wpList _ _ _ (Oper.mk _ (Op.store 35 _ _) _ _ _ _::_) _ _;apply pin))
       refine jw.out.mono ?_;rintro e w11 ⟨rfl,JB⟩;have aeb:=ah (Lu.out.below JB Lu.out.lt);have LM:=ah (Dv.out.below JB Dv.out.lt);have KW:=ah (bb Fq.out JB);have ad7:=ah (Xl.out.below JB);clear JB Lu Dv Fq Xl jw tq ah2 hss;by_cases hck:iG M' v=0
       ·have hq:=HQ.out
        rw[ay (by simpa using hck)]at hq;have Du:Hid (R=(M',0)):=hq;rw[hck];clear hq HQ hck
        go_wp2_with
         (first|(with_reducible show wpList _ _ _ (Oper.mk _ (Op.load 35 _) _ _ _ _::_) _ _;refine nN rfl _ _ rfl _ rfl _ aeb.out underlying35 rfl (iC _ _ _ _) ?_)|(with_reducible show wpList _ _ _ (Oper.mk _ (Op.store 35 _ _) _ _ _ _::_) _ _;apply pin))
        refine nO rfl _ _ _ rfl _ _ rfl rfl LM.out rfl (iC _ _ _ _) sF ?_;simp only[Act.put];go_wp2_with fail;refine bodyPost_ret (v:=.tuple #[.agg (dR M' (.slice dA M'.d.length dc) (.slice tA M'.t.length tc) (.slice Ar M'.rest.len cr)),.int .i64 0]) (by exact vU rfl _ _ w.heap.size 35 _ _ (.int .i64 0) rfl (ny LM.out rfl) underlying35 rfl (iC _ _ _ _) rfl) rfl ?_;have hpa:=mD w11 w.heap.size (dR M' (.slice dA M'.d.length dc) (.slice tA M'.t.length tc) (.slice Ar M'.rest.len cr));rw[Du.out];exact⟨_,_,_,rfl,(ad7.out.fE hpa fun k hk e=>by omega).mono (by omega),KW.out.trans (hpa.iI KW.out.size fun g hg e=>by omega)⟩
       have hq:=HQ.out;rw[aA (by simpa using hck)]at hq;have Du:Hid (R=(m0,iG M' v)):=hq;have aos:(iG M' v==0)=false:=(by rw[aB];exact hck);clear hq HQ;generalize iG M' v=CK at *
       go_wp2_with
        (with_reducible show wpList _ _ _ (Oper.mk _ (Op.store 35 _ _) _ _ _ _::_) _ _;apply pin)
       refine nO rfl _ _ _ rfl _ fF rfl rfl LM.out rfl (iC m0 (.slice none 0 0) (.slice none 0 0) (.slice none 0 0)) AP ?_;simp only[Act.put];go_wp2_with fail;refine bodyPost_ret (v:=.tuple #[.agg fF,.int .i64 (CK)]) (by exact vU rfl _ _ w.heap.size 35 _ _ (.int .i64 (CK)) rfl (ny LM.out rfl) underlying35 rfl (iC m0 (.slice none 0 0) (.slice none 0 0) (.slice none 0 0)) rfl) rfl ?_;exact rG.bad Du.out ((KW.out).trans ((mD _ w.heap.size fF).iI (KW.out).size fun g hg e=>by omega))
    have hq:=HD4.out;rw[aA hgc]at hq;have hgb:((GC:Int)==0)=false:=(by rw[aB];omega);clear HD4 sN La HSL hgc;generalize GF.len=GL at *
    go_wp2_with
     (with_reducible show wpList _ _ _ (Oper.mk _ (Op.store 35 _ _) _ _ _ _::_) _ _;apply pin)
    refine nO rfl _ _ _ rfl _ fF rfl rfl HR3.out rfl (iC m0 (.slice none 0 0) (.slice none 0 0) (.slice none 0 0)) AP ?_;simp only[Act.put];go_wp2_with fail;refine bodyPost_ret (v:=.tuple #[.agg fF,.int .i64 (GC:Int)]) (by exact vU rfl _ _ w.heap.size 35 _ _ (.int .i64 (GC:Int)) rfl (ny HR3.out rfl) underlying35 rfl (iC m0 (.slice none 0 0) (.slice none 0 0) (.slice none 0 0)) rfl) rfl ?_;exact rG.bad hq ((HB3.out).trans ((mD _ w.heap.size fF).iI (HB3.out).size fun g hg e=>by omega))
   have hk8:rZ n=0:=(by unfold rZ;rw[ay hn8]);have hq:=HD3.out;rw[hk8,aA (show iP 0=0∨v<iP 0 from Or.inl rfl)]at hq;have aiq:¬(n:Int)≤8:=(by omega);have xq:Hid (∀x,Calls prog 37 #[.int .i64 0] x (aj x (.int .i64 0))):=fun x=>ND 0 x (by unfold iK;decide);clear hk8 HD3;go_wp2_with fail;refine(xq.out _).mono ?_;rintro e w2 ⟨rfl,hb2⟩;have HB2:=ah (bb HB1.out hb2);have HR2:=ah (HR1.out.below hb2 HR1.out.lt);clear hb2 xq HB1 HR1
   go_wp2_with
    (with_reducible show wpList _ _ _ (Oper.mk _ (Op.store 35 _ _) _ _ _ _::_) _ _;apply pin)
   refine nO rfl _ _ _ rfl _ fF rfl rfl HR2.out rfl (iC m0 (.slice none 0 0) (.slice none 0 0) (.slice none 0 0)) AP ?_;simp only[Act.put];go_wp2_with fail;refine bodyPost_ret (v:=.tuple #[.agg fF,.int .i64 (15)]) (by exact vU rfl _ _ w.heap.size 35 _ _ (.int .i64 (15)) rfl (ny HR2.out rfl) underlying35 rfl (iC m0 (.slice none 0 0) (.slice none 0 0) (.slice none 0 0)) rfl) rfl ?_;exact rG.bad hq ((HB2.out).trans ((mD _ w.heap.size fF).iI (HB2.out).size fun g hg e=>by omega))
  have hq:=HD2.out;rw[aA Ue]at hq;have aov:((ec:Int)==0)=false:=by rw[aB];omega
  clear HD2 Oz HV Ue
  go_wp2_with
   (with_reducible show wpList _ _ _ (Oper.mk _ (Op.store 35 _ _) _ _ _ _::_) _ _;apply pin)
  refine nO rfl _ _ _ rfl _ fF rfl rfl HR1.out rfl (iC m0 (.slice none 0 0) (.slice none 0 0) (.slice none 0 0)) AP ?_;simp only[Act.put];go_wp2_with fail;refine bodyPost_ret (v:=.tuple #[.agg fF,.int .i64 (ec:Int)]) (by exact vU rfl _ _ w.heap.size 35 _ _ (.int .i64 (ec:Int)) rfl (ny HR1.out rfl) underlying35 rfl (iC m0 (.slice none 0 0) (.slice none 0 0) (.slice none 0 0)) rfl) rfl ?_;exact rG.bad hq ((HB1.out).trans ((mD _ w.heap.size fF).iI (HB1.out).size fun g hg e=>by omega))
