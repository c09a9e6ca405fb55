/-
  Parts of the proof. Conditions: as each names.
-/
import Derived.Test.YtgidfnhfgiehjaaGreatDoorYbi
import Derived.Test.YtgidfnhfgiehjaaGreatDoorYbh
namespace Go.Proofs.YtgidfnhfgiehjaaGreatDoor
open Go.PM Go.RowKit Go.Proofs.Tryz
set_option maxRecDepth 100000
set_option maxHeartbeats 4000000
attribute [local go_sem ↓] Go.wp_at_zero Go.wp_at_succ
def Ig(w:World)(r:Fs×Int)(e:Ending)(w':World):Prop :=
 ∃(A:Option Addr) (c:Nat),e=.returned (.tuple #[.slice A r.1.len c,.int .i64 r.2])∧eF w' (w.heap.size≤·) (.slice A r.1.len c) r.1∧Below w.heap.size w w'
def ML(w:World)(f:Fs)(vv:Value)(wr:World):Prop:=∃A c xs,vv=.slice A f.len c∧wr.ownsRow w.heap.size 47 5 (.slice A f.len c) f.len xs∧Cls wr (fun _=>False) xs f∧Below w.heap.size w wr
theorem Cls.bare{w:World}{I J:Nat→Prop}:∀{xs:List Value} {f:Fs},Cls w I xs f→(∀x∈f.eP,x.inner=.nil)→Cls w J xs f
 |[],.nil,_,_=>trivial
 |_::_::_::_::_::_,.cons t y n s i r,h,hn=>by
   have hi:i=.nil:=hn ⟨t,y,n,s,i⟩ dw;subst hi;obtain⟨A,c,h1,h2,_⟩:=h.2.2.2.2.1;exact⟨h.1,h.2.1,h.2.2.1,h.2.2.2.1,⟨A,c,h1,h2,.inl rfl⟩,Cls.bare h.2.2.2.2.2 fun x hx=>hn x (dh _ hx)⟩
 |[],.cons ..,h,_=>h.elim
 |_::_,.nil,h,_=>by simp[Cls]at h
 |[_],.cons ..,h,_=>by simp[Cls]at h
 |[_,_],.cons ..,h,_=>by simp[Cls]at h
 |[_,_,_],.cons ..,h,_=>by simp[Cls]at h
 |[_,_,_,_],.cons ..,h,_=>by simp[Cls]at h
theorem aiS{w2 wr W6:World}{i0:TypeInfo}(hi0:prog.info? 47=some i0)(hz0:i0.zero=some oL)(hz1:i0.size=5)(hz2:i0.bytes=64){F:List Fl}{Av:Option Addr}{cv:Nat}{xs:List Value}{x:Fl}{g:Nat}(hown:wr.ownsRow w2.heap.size 47 5 (.slice Av (fB F).len cv) (fB F).len xs)
 (hcls:Cls wr (fun _=>False) xs (fB F)) (hbel:Below w2.heap.size w2 wr) (hb:Below wr.heap.size wr W6) (hg:dU W6 g 47 #[.int .u64 (x.tag:Int),.int .i64 x.ty,.int .u64 (x.num:Int),.string x.text,.slice none 0 0]) (hgl:wr.heap.size≤g) (hx:x.inner=.nil) (hF:∀y∈F,y.inner=.nil) (h5:(fB F).len≤100) :
 ∃(A':Option Addr) (c':Nat) (w':World),(Builtin.append_ #[33,33] 33 #[.slice Av (fB F).len cv,.slice (some ⟨g,0,none⟩) 1 1]).run prog W6=.ok (.slice A' (fB (F++[x])).len c') w'∧ML w2 (fB (F++[x])) (.slice A' (fB (F++[x])).len c') w':=by
 have hsl:eF W6 (fun k=>k=g) (.slice (some ⟨g,0,none⟩) (fB [x]).len 1) (fB [x]):=by
  refine⟨_,1,rfl,au _,.inr ⟨g,0,rfl,rfl,hg.lt,?_⟩⟩;refine Cls.at_ (xs:=[.int .u64 (x.tag:Int),.int .i64 x.ty,.int .u64 (x.num:Int),.string x.text,.slice none 0 0]) ?_ fun j u hj=>?_
  ·obtain⟨t,y,n,s,i⟩:=x
   simp only at hx;subst hx;exact⟨rfl,rfl,rfl,rfl,eF.nil _ _ _ _,trivial⟩
  rw[aX,hg.cell j,List.getElem?_toArray];exact hj
 obtain⟨A',c',w',xs',hrun,hown',Ud,hgr,_⟩:=Gu (P:=prog) 33 33 47 i0 underlying33 hi0 hz0 hz1 hz2 (own_below hown hb) (hcls.below hb) (fun k hk=>hk.elim) hsl (fun k hk e=>by have:=(hown.lt k e).2;omega) (by
  have:(fB [x]).len=1:=rfl;omega) (aI hbel.size hb.size)
 rw[Vl]
 refine⟨A',c',w',hrun,A',c',xs',rfl,hown',Cls.bare Ud fun y hy=>?_,(hbel.trans (hb.mono hbel.size)).grown hgr (aI hbel.size hb.size) fun k hk=>(hown.lt k hk).1⟩
 rw[uX,qM,qM,bZ]at hy
 rcases hy with hy|hy
 ·exact hF y hy
 ·rw[List.mem_singleton.1 hy,hx]
theorem ahb(v:Nat)(h1:1≤v)(h3:v≤3){I:Nat→Prop}{m:Mp}{dv tv rv:Value}(w:World)(hv:gU w I m dv tv rv)(hz:jV m)(hT:Tabs w) :
 Calls prog 13 #[.agg (dR m dv tv rv),.int .i64 (v:Int)] w (Ig w (fQ m v)):=by
 obtain⟨i0,hi0,hz0,hz1,hz2⟩:=info_parts EH
 have Dq:Hid (iG m v≠0→fQ m v=(.nil,iG m v)):=fun h=>by unfold fQ;rw[aA h]
 have rQ:Hid (iG m v=0→fQ m v=((jG [mQ m (fJ (eH m.kind) v),m.rest]).1,((jG [mQ m (fJ (eH m.kind) v),m.rest]).2:Int))):=fun h=>by unfold fQ;rw[ay (by simpa using h)]
 have HZ:=ah hz
 have HT:=ah hT
 obtain⟨dA,dc,tA,tc,rA,rc,rfl,rfl,rfl⟩:=hv.slices
 obtain⟨wz,hwz,hsz,HM,fC⟩:=lM w 35 (dR m (.slice dA m.d.length dc) (.slice tA m.t.length tc) (.slice rA m.rest.len rc))
 have HV:=ah (hv.below fC.out)
 clear hv
 simp only[dR]at hwz
 have jw:=ah (Kr v h1 h3 wz HV.out HZ.out (HT.out.below fC.out))
 have iO:=HM
 rw[hwz]at iO
 unfold dR
 go_enter func13,ntmps13
 go_wp2_with
  (with_reducible show wpList _ _ _ (Oper.mk _ (Op.load 35 _) _ _ _ _::_) _ _;refine nN rfl _ _ rfl _ rfl _ iO.out underlying35 rfl (iC _ _ _ _) ?_)
 rw[← hwz]
 refine jw.out.mono ?_
 rintro e w1 ⟨rfl,hb1⟩
 have HB1:=ah hb1
 clear hb1 jw hwz iO hz hT
 by_cases hc0:iG m v≠0
 ·have h:=Dq.out hc0
  have hcb:(iG m v==0)=false:=by rw[aB];exact hc0
  have HE:Hid (∀w',Below w.heap.size w w'→Ig w (fQ m v) (.returned (.tuple #[.slice none 0 0,.int .i64 (iG m v)])) w'):=fun w' hb=>by
   rw[h];exact⟨none,0,rfl,eF.nil _ _ _ _,hb⟩
  clear h Dq rQ;generalize iG m v=E at *;generalize Ig w (fQ m v)=Q at *;go_wp2_with fail;exact HE.out _ (bb fC.out HB1.out)
 ·have hce:iG m v=0:=by simpa using hc0
  have hmf:=rQ.out hce;have hE:=Kq (RJ hce 6 (by decide));obtain⟨c1,_,_,c4,_,_,_⟩:=vS hce;have hk4:=EJ c1;have hkv:iP (eH m.kind)≤v:=(vS hce).2.1;have hkk:m.kind=(eH m.kind:Int):=by
   have h1:=hk4.1;unfold eH at h1⊢;split at h1
   ·rename_i h;rw[aA h];omega
   omega
  have nU:Hid (∀x,Calls prog 39 #[.int .i64 m.kind,.int .i64 (v:Int)] x (qw x (fJ (eH m.kind) v))):=fun x=>by
   have:=OM (eH m.kind) v x hk4.1 hk4.2.1 hkv h3;rw[← hkk]at this;exact this
  have lT:=ah (zh (eH m.kind) v);have hll:(fJ (eH m.kind) v).length≤5:=aI (List.length_filter_le _ _) (Au (eH m.kind));have yB:=ah (G8 c4 HZ.out.good);have qV:Hid (∀e w' w2,Below w.heap.size w w2→Bj w2 (jG [mQ m (fJ (eH m.kind) v),m.rest]) e w'→Ig w (fQ m v) e w'):=fun e w' w2 hb hme=>by
   rw[hmf];obtain⟨A,c,h1,h2,h3⟩:=hme;exact⟨A,c,h1,h2.imp fun q hq=>aI hb.size hq,bb hb h3⟩
  have W9:=ah hE;rw[hce];clear hmf Dq rQ hc0 hce c1 c4 hk4 hkv hkk hE;generalize Ig w (fQ m v)=Q at *;generalize fJ (eH m.kind) v=L at *;have hm1:=HM.out.below HB1.out HM.out.lt;have hc0:w1.cell? ⟨w.heap.size,0,none⟩=some (.int .i64 m.kind):=hm1.cell 0;have hl1:=hm1.lt;clear hm1;go_wp2_with fail;refine(nU.out _).mono ?_;rintro e w2 ⟨A,c,rfl,hrd,hlc,hb2⟩;have jq:=ah hrd;have HB2:=ah (bb HB1.out hb2);have H0:Hid (ML w2 (fB ((L.take 0).filterMap (iH m))) (.slice none 0 0) w2):=⟨none,0,[],rfl,World.ownsRow_nil _ _ _ _,trivial,b0⟩;clear hrd hb2 nU hc0 hl1 HB1;go_wp2_with fail;go_loopg [7,23] L.length (fun gk vv ki wr=>∃j:Nat,j≤L.length∧L.length - j≤gk∧ki=.int .i64 (j:Int)∧Hid (ML w2 (fB ((L.take j).filterMap (iH m))) vv wr))
  case atStart=>exact⟨0,aW _,by omega,rfl,H0⟩
  case round=>
   obtain⟨j,hj,hgj,rfl,HS⟩:=hrel;obtain⟨Av,cv,xs,rfl,hown,hcls,hbel⟩:=HS.out;have pW:=ah (bb HB2.out hbel);by_cases hlt:j<L.length
   ·obtain⟨b,off,iL,hbl,c0,c1,c2,c3⟩:=uU (jq.out.below hbel) hlt
    subst iL;obtain⟨s1,s2,s3,_,_,s6,_⟩:=lT.out.2 L[j] (aS hlt);have hst:(L.take (j+1)).filterMap (iH m)=(L.take j).filterMap (iH m)++(iH m L[j]).toList:=by
     rw[← aT hlt,List.filterMap_append,List.filterMap_cons,List.filterMap_nil];cases iH m L[j]<;>rfl
    have HST:=ah hst;have Ug:(fB ((L.take j).filterMap (iH m))).len≤5:=by
     rw[wU];exact aI (List.length_filterMap_le _ _) (by rw[bD];omega)
    generalize hs:L[j]=s at *;rw[s6]at c3;have wF:Hid (∀y∈(L.take j).filterMap (iH m),y.inner=.nil):=fun y hy=>by
     obtain⟨s',_,hs'⟩:=dJ.1 hy;rw[(tY hs').2]
    generalize(L.take j).filterMap (iH m)=F at *;have hbs:=ba (a:=wr) b0 (.cells #[.int .u64 (s.tag:Int),.int .i64 (s.use:Int),.int .i64 (s.from_:Int),.string (txt (dW (six s)))] 94);have hms:=dU.made wr 94 #[.int .u64 (s.tag:Int),.int .i64 (s.use:Int),.int .i64 (s.from_:Int),.string (txt (dW (six s)))];have hmm:=(HM.out.below pW.out HM.out.lt).below hbs (HM.out.below pW.out HM.out.lt).lt;have yI:=ah (anM (wr.alloc (.cells #[.int .u64 (s.tag:Int),.int .i64 (s.use:Int),.int .i64 (s.from_:Int),.string (txt (dW (six s)))] 94)) (HV.out.below (bb pW.out hbs)) HZ.out W9.out (HT.out.below (bb fC.out (bb pW.out hbs))) (six s) s1);have nR:=ah hbs;have Dl:=ah hms;have jy:=ah hmm;have HOW:=ah hown;have mG:=ah hcls;have jd:=ah hbel;have pO:=jy.out.lt;simp only[World.size_alloc]at pO;have S2:=ah s2
    clear hbs hms hmm hown hcls hbel HS H0 hs hst s3 s6 s2;generalize txt (dW (six s))=N at *
    go_wp2_with
     (with_reducible show wpList _ _ _ (Oper.mk _ (Op.load 35 _) _ _ _ _::_) _ _;refine nN rfl _ _ rfl _ rfl _ jy.out underlying35 rfl (iC _ _ _ _) ?_)
    refine yI.out.mono ?_;rintro e w5 ⟨rfl,hb5⟩;have kZ:=Dl.out.below hb5 Dl.out.lt;have q0:=kZ.cell 0;have hlq:=kZ.lt;simp at q0;have gY:=ah (bb nR.out hb5);rw[← S2.out];clear kZ hb5 yI nR Dl jy;have yH:Hid (iH m s=if(m.val (six s)).field.1=0∧(m.val (six s)).field.2=[]then none else some ⟨s.tag,if s.use≤2 then 0 else 1,(m.val (six s)).field.1,txt (m.val (six s)).field.2,.nil⟩):=rfl;generalize(m.val (six s)).field.1=n at *;generalize(m.val (six s)).field.2=S at *;simp only[lZ];generalize(if s.use≤2 then(0:Int)else 1)=TY at *;have hwb:=jd.out.size;have iE:=ah (ba gY.out (.cells #[.int .u64 0,.int .i64 TY,.int .u64 (n:Int),.string (txt S),.slice none 0 0] 47));rcases Decidable.em (n=0∧S=[])with⟨hn0,hS0⟩|hne
    ·have hst:=HST.out
     rw[yH.out,aA ⟨hn0,hS0⟩,Option.toList_none,bQ]at hst;have HN:Hid (ML w2 (fB ((L.take (j+1)).filterMap (iH m))) (.slice Av (fB F).len cv) (w5.alloc (.cells #[.int .u64 0,.int .i64 TY,.int .u64 (n:Int),.string (txt S),.slice none 0 0] 47))):=by
      rw[hst];exact⟨Av,cv,xs,rfl,own_below HOW.out iE.out,mG.out.below iE.out,jd.out.trans (iE.out.mono hwb)⟩
     have he:(txt S).toList.isEmpty=true:=(by rw[BF];simpa using hS0);have hnb:((n:Int)==0)=true:=(by rw[bF];omega);clear HST yH hst hn0 hS0;go_wp2_with fail;go_roundg (L.length - (j+1))
     case measure=>omega
     case rel=>exact⟨j+1,by omega,au _,by go_num,HN⟩
    have hst:=HST.out;rw[yH.out,ay hne,Option.toList_some]at hst;have hbk:=ba (ba gY.out (.cells #[.int .u64 (s.tag:Int),.int .i64 TY,.int .u64 (n:Int),.string (txt S),.slice none 0 0] 47)) (.cells #[.int .u64 (s.tag:Int),.int .i64 TY,.int .u64 (n:Int),.string (txt S),.slice none 0 0] 47);have hmk:=dU.made (w5.alloc (.cells #[.int .u64 (s.tag:Int),.int .i64 TY,.int .u64 (n:Int),.string (txt S),.slice none 0 0] 47)) 47 #[.int .u64 (s.tag:Int),.int .i64 TY,.int .u64 (n:Int),.string (txt S),.slice none 0 0];rw[World.size_alloc]at hmk;obtain⟨A',c',w7,hrun,pK⟩:=aiS (x:=⟨s.tag,TY,n,txt S,.nil⟩) hi0 hz0 hz1 hz2 HOW.out mG.out jd.out hbk hmk (by have:=gY.out.size;omega) rfl wF.out (by omega);rw[← hst]at hrun pK;have lC:=ah hrun;have HN:=ah pK;obtain⟨G,hG⟩:∃G,G=fB ((L.take (j+1)).filterMap (iH m)):=⟨_,rfl⟩;rw[← hG]at lC HN;have Dc:=ah hG
    clear hst hbk hmk hrun pK HST yH hG wF HOW mG jd iE;by_cases hn0:n=0
    ·have hS0:S≠[]:=fun h=>hne ⟨hn0,h⟩
     have he:(txt S).toList.isEmpty=false:=(by rw[BF];simpa using hS0);have hnb:((n:Int)==0)=true:=(by rw[bF];omega);clear hS0 hne hn0;go_wp2_with(at_builtin;(refine wpList_append_run rfl _ _ _ _ rfl _ _ _ rfl rfl lC.out ?_));go_roundg (L.length - (j+1))
     case measure=>omega
     case rel=>exact⟨j+1,by omega,au _,by go_num,by rw[← Dc.out];exact HN⟩
    have hnb:((n:Int)==0)=false:=(by rw[aB];omega);clear hne hn0;go_wp2_with(at_builtin;(refine wpList_append_run rfl _ _ _ _ rfl _ _ _ rfl rfl lC.out ?_));go_roundg (L.length - (j+1))
    case measure=>omega
    case rel=>exact⟨j+1,by omega,au _,by go_num,by rw[← Dc.out];exact HN⟩
   obtain rfl:j=L.length:=(by omega);rw[aU (au _)]at hown hcls;have hsl:eF wr (fun _=>True) (.slice Av (fB (L.filterMap (iH m))).len cv) (fB (L.filterMap (iH m))):=O6 hown hcls;have HSL:=ah hsl;have pF:Hid (∀e w' w2,Below w.heap.size w w2→Bj w2 (jG [fB (L.filterMap (iH m)),m.rest]) e w'→Q e w'):=qV;have Dj:Hid ((fB (L.filterMap (iH m))).All mF):=yB;have JL:(fB (L.filterMap (iH m))).count≤100:=by
    rw[Gl];refine aI (KE _ 1 _ fun f hf=>?_) ?_
    ·obtain⟨s',_,hs'⟩:=dJ.1 hf
     rw[(tY hs').2];exact au _
    have:=List.length_filterMap_le (iH m) L;omega
   have Qw:=ah JL;have hm1:=HM.out.below pW.out HM.out.lt;have tq:wr.cell? ⟨w.heap.size,23,none⟩=some (.slice rA m.rest.len rc):=hm1.cell 23;have pO:=hm1.lt;rw[aU (au _)];clear hown hcls hsl hbel HS H0 hm1 qV yB JL;generalize fB (L.filterMap (iH m))=F at *;have hbk:=ba (a:=wr) b0 (.cells #[.slice Av F.len cv,.slice rA m.rest.len rc] 33);have hrd:Rd (wr.alloc (.cells #[.slice Av F.len cv,.slice rA m.rest.len rc] 33)) (some ⟨wr.heap.size,0,none⟩) [.slice Av F.len cv,.slice rA m.rest.len rc]:=Hq wr _ [.slice Av F.len cv,.slice rA m.rest.len rc]
   have oq:=ah (merge_any (some ⟨wr.heap.size,0,none⟩) 2 [F,m.rest] [.slice Av F.len cv,.slice rA m.rest.len rc] (fun _=>True) (wr.alloc (.cells #[.slice Av F.len cv,.slice rA m.rest.len rc] 33)) hrd
    ⟨HSL.out.below hbk,((HV.out.below (bb pW.out hbk)).2.2).imp fun _ _=>trivial,trivial⟩ (fun f hf=>by
      simp only[bC,bW,or_false]at hf;rcases hf with rfl|rfl
      ·exact Dj.out
      ·exact HZ.out.good.2) (by
      show(F.app (m.rest.app .nil)).count≤1000000;rw[Fs.Bq,Fs.xJ];have:=Qw.out;have:=HZ.out.rest;omega) (by simp))
   have zB:=ah hbk;clear hbk hrd HSL;generalize jG [F,m.rest]=R at *;generalize F.len=FL at *;generalize m.rest.len=RL at *;simp only[bK,cO,aX,Nat.reduceAdd]at oq;go_wp2_with fail;refine oq.out.mono ?_;rintro e w7 hme;have HQ:=pF.out e w7 _ (bb fC.out (bb pW.out zB.out)) hme;obtain⟨A',c',rfl,_,_⟩:=hme;have Du:=ah HQ;clear HQ pF oq;generalize R.1.len=RRL at *;go_wp2_with fail;exact Du.out
theorem ahs{f:Fs}(h:(kT f).2=0):(kT f).1.length≤65536:=by
 unfold kT at h⊢;by_cases e1:fM f 0 0≠0
 ·rw[aA e1]at h;exact aJ h e1
 rw[ay e1]at h⊢;by_cases e2:65536<(eu f).length
 ·rw[aA e2]at h;exact aJ h (by decide)
 rw[ay e2];show(eu f).length≤65536;omega
theorem ady(V X:List UInt8):(⟨V.toArray⟩:ByteArray)++txt X=txt (V++X):=by
 apply ByteArray.ext;simp[txt,ByteArray.data_append]
def DT(w:World)(r:List UInt8×Int)(e:Ending)(w':World):Prop:=e=.returned (.tuple #[.string (txt r.1),.int .i64 r.2])∧Below w.heap.size w w'
theorem Nq(v:Nat)(h1:1≤v)(h3:v≤3){I:Nat→Prop}{m:Mp}{dv tv rv:Value}(w:World)(hv:gU w I m dv tv rv)(hz:jV m)(hT:Tabs w) :
 Calls prog 11 #[.agg (dR m dv tv rv),.int .i64 (v:Int)] w (DT w (lK m v)):=by
 have HZ:=ah hz
 have HT:=ah hT
 have oq:Hid (lK m v=if(fQ m v).2≠0 then([],(fQ m v).2)else if(kT (fQ m v).1).2≠0 then([],((kT (fQ m v).1).2:Int))
  else if 65536<(dY (eH m.kind)++(kT (fQ m v).1).1).length then([],4)else(dY (eH m.kind)++(kT (fQ m v).1).1,0)):=rfl
 have jA:Hid ((fQ m v).2=0→(fQ m v).1.All mF∧(fQ m v).1.count≤1000000∧(eu (fQ m v).1).length≤1000000000000):=fun h=>ace hz h
 have zF:Hid ((fQ m v).2=0→1≤eH m.kind∧eH m.kind≤8∧m.kind=(eH m.kind:Int)):=fun h=>by
  have h4:=EJ (vS (OY h).1).1;refine⟨h4.1,h4.2.1,?_⟩;have h1:=h4.1;unfold eH at h1⊢;split at h1
  ·rename_i h;rw[aA h];omega
  omega
 obtain⟨dA,dc,tA,tc,rA,rc,rfl,rfl,rfl⟩:=hv.slices
 obtain⟨wz,hwz,hsz,HM,fC⟩:=lM w 35 (dR m (.slice dA m.d.length dc) (.slice tA m.t.length tc) (.slice rA m.rest.len rc))
 have HV:=ah (hv.below fC.out)
 clear hv
 simp only[dR]at hwz
 have wE:=ah (ahb v h1 h3 wz HV.out HZ.out (HT.out.below fC.out))
 have iO:=HM
 rw[hwz]at iO
 clear hz hT HV HZ HT
 generalize lK m v=R at *
 generalize fQ m v=FE at *
 obtain⟨F,E⟩:=FE
 simp only at oq jA zF
 unfold dR
 go_enter func11,ntmps11
 go_wp2_with
  (with_reducible show wpList _ _ _ (Oper.mk _ (Op.load 35 _) _ _ _ _::_) _ _;refine nN rfl _ _ rfl _ rfl _ iO.out underlying35 rfl (iC _ _ _ _) ?_)
 rw[← hwz]
 refine wE.out.mono ?_
 rintro e w1 ⟨A,c,rfl,hsl,hb1⟩
 simp only at hsl
 have HB1:=ah (bb fC.out hb1)
 have gQ:=ah (HM.out.below hb1 HM.out.lt)
 have HSL:=ah hsl
 clear hb1 hsl wE hwz iO HM
 by_cases hE:E=0
 ·subst hE
  obtain⟨g1,g2,g3⟩:=jA.out rfl;obtain⟨k1,k8,kk⟩:=zF.out rfl;have KK:=ah kk;clear kk;have Rh:=ah (adR (.slice A F.len c) F _ w1 HSL.out g1 g2 g3);have hr2:=oq.out;rw[ay (by simp)]at hr2;have HR2:=ah hr2;have Yw:=ah (ahs (f:=F));clear hr2 oq jA zF g1 g2 g3 HSL;generalize kT F=PU at *;obtain⟨X,Y⟩:=PU;simp only at HR2 Rh Yw;generalize F.len=FL at *;go_wp2_with fail;refine Rh.out.mono ?_;rintro e w2 ⟨rfl,hb2⟩;have HB2:=ah (bb HB1.out hb2);have hm2:=gQ.out.below hb2 gQ.out.lt;have hc0:w2.cell? ⟨w.heap.size,0,none⟩=some (.int .i64 m.kind):=hm2.cell 0;have hl2:=hm2.lt;clear hb2 Rh gQ hm2 HB1;by_cases hY:Y=0
  ·subst hY
   have hr2:=HR2.out;rw[ay (by simp)]at hr2;have HR3:=ah hr2;clear hr2 HR2;rw[KK.out]at hc0;clear KK;generalize eH m.kind=k at *;have yJ:=ah (fun x=>put_any k x (by unfold In64;omega));have hcv:IntKind.u64.wrap (k:Int)=(k:Int):=(by rw[IntKind.wrap_u64];omega);have hXl:=Yw.out rfl;have hVl:(dY k).length≤10:=(by rw[fO];exact iJ (by omega));have Ub:∀x:World,(Op.stringOp .add ⟨(dY k).toArray⟩ (txt X)).run prog x=.ok (.string (txt (dY k++X))) x:=fun x=>by
    rw[← ady];exact run_string_add_sum x _ _ (by simp[txt,ByteArray.size];omega)
   generalize hV:dY k=V at *;go_wp2_with fail;refine(yJ.out _).mono ?_;rintro e w3 ⟨rfl,hb3⟩;have HB3:=ah (bb HB2.out hb3);have HR4:Hid (R=if 65536<(V++X).length then([],4)else(V++X,0)):=HR3.out;have jA:Hid ((txt (V++X)).size=(V++X).length):=gI _;obtain⟨Z,hZ⟩:∃Z,Z=txt (V++X):=⟨_,rfl⟩;rw[← hZ]at Ub jA;have Bh:=ah hZ;clear hb3 yJ HR3 hc0 hl2 hXl hVl hZ;generalize V++X=U at *;by_cases hbig:65536<Z.size
   ·have hr3:=HR4.out
    rw[aA (by rw[← jA.out];exact hbig)]at hr3;have hbi:(65536:Int)<(Z.size:Int):=(by omega);clear HR4 jA Bh;go_wp2_with fail;go_ret2;rw[hr3];exact⟨rfl,HB3.out⟩
   have hr3:=HR4.out;rw[ay (by rw[← jA.out];exact hbig)]at hr3;have hbi:¬(65536:Int)<(Z.size:Int):=(by omega);clear HR4 jA;go_wp2_with fail;go_ret2;rw[hr3];exact⟨by rw[Bh.out];rfl,HB3.out⟩
  have hYp:¬(Y:Int)=0:=by omega
  have hYb:((Y:Int)==0)=false:=by rw[aB];exact hYp
  have hr2:=HR2.out;rw[aA hY]at hr2;clear HR2;go_wp2_with fail;go_ret2;rw[hr2];exact⟨rfl,HB2.out⟩
 ·have yU:(E==0)=false:=by rw[aB];exact hE
  have hr2:=oq.out;rw[aA hE]at hr2;clear oq jA zF HSL;generalize F.len=FL at *;go_wp2_with fail;go_ret2;rw[hr2];exact⟨rfl,HB1.out⟩
theorem ahC(v:Nat)(h1:1≤v)(h3:v≤3){I:Nat→Prop}{m:Mp}{dv tv rv:Value}(w:World)(hv:gU w I m dv tv rv)(hz:jV m)(hT:Tabs w) :
 Calls prog 19 #[.agg (dR m dv tv rv),.int .i64 (v:Int)] w (aj w (.bool (decide ((lK m v).2=0)))):=by
 have HZ:=ah hz
 have HT:=ah hT
 obtain⟨dA,dc,tA,tc,rA,rc,rfl,rfl,rfl⟩:=hv.slices
 obtain⟨wz,hwz,hsz,HM,fC⟩:=lM w 35 (dR m (.slice dA m.d.length dc) (.slice tA m.t.length tc) (.slice rA m.rest.len rc))
 have HV:=ah (hv.below fC.out)
 clear hv
 simp only[dR]at hwz
 have wE:=ah (Nq v h1 h3 wz HV.out HZ.out (HT.out.below fC.out))
 have iO:=HM
 rw[hwz]at iO
 clear hz hT HV HZ HT
 generalize lK m v=R at *
 obtain⟨X,E⟩:=R
 unfold dR
 go_enter func19,ntmps19
 go_wp2_with
  (with_reducible show wpList _ _ _ (Oper.mk _ (Op.load 35 _) _ _ _ _::_) _ _;refine nN rfl _ _ rfl _ rfl _ iO.out underlying35 rfl (iC _ _ _ _) ?_)
 rw[← hwz]
 refine wE.out.mono ?_
 rintro e w1 ⟨rfl,hb1⟩
 have HB1:=ah (bb fC.out hb1)
 clear hb1 wE hwz HM iO
 simp only
 go_wp2_with fail
 go_ret
 exact⟨congrArg (fun x=>Ending.returned (.bool x)) (ZV E),HB1.out⟩
