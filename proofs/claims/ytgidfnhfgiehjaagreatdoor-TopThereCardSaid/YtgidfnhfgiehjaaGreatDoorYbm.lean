/-
  Parts of the proof. Conditions: as each names.
-/
import Derived.Test.YtgidfnhfgiehjaaGreatDoorYbi
import Derived.Test.YtgidfnhfgiehjaaGreatDoorYbh
namespace Go.Proofs.YtgidfnhfgiehjaaGreatDoor
open Go.PM Go.RowKit Go.Proofs.Tryz
set_option maxRecDepth 100000
set_option maxHeartbeats 4000000
attribute [local go_sem ↓] Go.wp_at_zero Go.wp_at_succ
theorem adG{m:Mp}{d:List fD}:∀i,i<22→m.val i=.of d→d=m.d:=by
 refine kD ?_ ?_ ?_ ?_ ?_ ?_ ?_ ?_ ?_ ?_ ?_ ?_ ?_ ?_ ?_ ?_ ?_ ?_ ?_ ?_ ?_ ?_<;>(intro h;simp only[Mp.val]at h;first|(cases h;done)|(injection h with h;exact h.symm))
theorem adH{m:Mp}{t:List Rw}:∀i,i<22→m.val i=.rows t→t=m.t:=by
 refine kD ?_ ?_ ?_ ?_ ?_ ?_ ?_ ?_ ?_ ?_ ?_ ?_ ?_ ?_ ?_ ?_ ?_ ?_ ?_ ?_ ?_ ?_<;>(intro h;simp only[Mp.val]at h;first|(cases h;done)|(injection h with h;exact h.symm))
theorem aey{I:Nat→Prop}{m m':Mp}{dv tv rv jC tv' rv':Value}{b b':Nat}(w:World)(hb:dU w b 35 (dR m dv tv rv))(hb':dU w b' 35 (dR m' jC tv' rv'))(hv:gU w I m dv tv rv)(hv':gU w I m' jC tv' rv')(hz:jV m)(i:Nat)(hi:i<22) :
 Calls prog 58 #[gW b i,gW b' i] w fun e w'=>(∃F:Bool,e=.returned (.bool F)∧(F=true↔m.val i=m'.val i))∧Below w.heap.size w w':=by
 have hu:=m.CB i
 have hu':=m'.CB i
 have c1:=(hb.cell (fP i)).trans (wS m dv tv rv i hi)
 have c2:=(hb'.cell (fP i)).trans (wS m' jC tv' rv' i hi)
 unfold mV at c1 c2
 unfold gW
 rw[← hu]
 rw[← hu]at hu'
 cases hq:m.val i<;>cases hq':m'.val i<;>rw[hq]at hu' c1<;>rw[hq']at hu' c2<;>first|(exfalso;simp[Mv.use]at hu';done)|skip
 ·exact(aew b _ b' _ _ _ w hb.lt hb'.lt c1 c2).mono fun e w' ⟨h1,h2⟩=>⟨⟨_,h1,by rw[decide_eq_true_iff,Mv.num.injEq]⟩,h2⟩
 ·exact(aex b _ b' _ _ _ w hb.lt hb'.lt c1 c2).mono fun e w' ⟨h1,h2⟩=>⟨⟨_,h1,by rw[decide_eq_true_iff,Mv.flag.injEq]⟩,h2⟩
 ·exact(aez b _ b' _ _ _ w hb.lt hb'.lt c1 c2).mono fun e w' ⟨h1,h2⟩=>⟨⟨_,h1,by rw[decide_eq_true_iff,Mv.qG.injEq]⟩,h2⟩
 ·exact(aeA b _ b' _ _ _ w hb.lt hb'.lt c1 c2).mono fun e w' ⟨h1,h2⟩=>⟨⟨_,h1,by rw[decide_eq_true_iff,Mv.word.injEq]⟩,h2⟩
 ·rename_i d d'
  obtain rfl:=adG i hi hq;obtain rfl:=adG i hi hq';obtain⟨⟨A,c,rfl,_,hr⟩,_⟩:=hv;obtain⟨⟨B,c',rfl,_,hr'⟩,_⟩:=hv';exact(aeB b _ b' _ _ _ A B c c' w hb.lt hb'.lt c1 c2 hr.rd hr'.rd hz.dl).mono fun e w' ⟨h1,h2⟩=>⟨⟨_,h1,by rw[decide_eq_true_iff,Mv.of.injEq]⟩,h2⟩
 ·rename_i t t'
  obtain rfl:=adH i hi hq;obtain rfl:=adH i hi hq';exact(aeC b _ b' _ _ _ _ _ I w hb.lt hb'.lt c1 c2 hv.2.1 hv'.2.1 (fun r hr=>(hz.t r hr).2) hz.tl).mono fun e w' ⟨h1,h2⟩=>⟨⟨_,h1,by rw[decide_eq_true_iff,Mv.rows.injEq]⟩,h2⟩
theorem ajB{m m':Mp}(hk:m.kind=m'.kind)(h:∀i,i<22→m.val i=m'.val i):m=m'↔m.rest=m'.rest:=⟨fun e=>by rw[e],fun e=>Mp.aad hk e h⟩
theorem ajD{I:Nat→Prop}{m m':Mp}{dv tv rv jC tv' rv':Value}(w:World)(hv:gU w I m dv tv rv)(hv':gU w I m' jC tv' rv')(hz:jV m)(hr':m'.rest.count≤1000000) :
 Calls prog 20 #[.agg (dR m dv tv rv),.agg (dR m' jC tv' rv')] w fun e w'=>(∃F:Bool,e=.returned (.bool F)∧(F=true↔m=m'))∧Below w.heap.size w w':=by
 obtain⟨dA,dc,tA,tc,rA,rc,rfl,rfl,rfl⟩:=hv.slices
 obtain⟨uF,dc',tA',vV,mX,rc',rfl,rfl,rfl⟩:=hv'.slices
 have hm1:=(dU.made w 35 (dR m (.slice dA m.d.length dc) (.slice tA m.t.length tc) (.slice rA m.rest.len rc))).more (.cells (dR m' (.slice uF m'.d.length dc') (.slice tA' m'.t.length vV) (.slice mX m'.rest.len rc')) 35)
 have hm2:=dU.made (w.alloc (.cells (dR m (.slice dA m.d.length dc) (.slice tA m.t.length tc) (.slice rA m.rest.len rc)) 35)) 35 (dR m' (.slice uF m'.d.length dc') (.slice tA' m'.t.length vV) (.slice mX m'.rest.len rc'))
 have hbm:=ba (ba (a:=w) b0 (.cells (dR m (.slice dA m.d.length dc) (.slice tA m.t.length tc) (.slice rA m.rest.len rc)) 35)) (.cells (dR m' (.slice uF m'.d.length dc') (.slice tA' m'.t.length vV) (.slice mX m'.rest.len rc')) 35)
 obtain⟨wz,hwz⟩:∃wz,wz=(w.alloc (.cells (dR m (.slice dA m.d.length dc) (.slice tA m.t.length tc) (.slice rA m.rest.len rc)) 35)).alloc (.cells (dR m' (.slice uF m'.d.length dc') (.slice tA' m'.t.length vV) (.slice mX m'.rest.len rc')) 35):=⟨_,rfl⟩
 rw[← hwz]at hm1 hm2 hbm
 simp only[World.size_alloc]at hm2
 have gQ:=ah hm1
 have jK:=ah hm2
 have fC:=ah hbm
 have HV:=ah (hv.below hbm)
 have kQ:=ah (hv'.below hbm)
 have HZ:=ah hz
 have HR2:=ah hr'
 clear hm1 hm2 hbm hv hv' hz hr'
 simp only[dR]at hwz
 unfold dR
 by_cases hk:m.kind=m'.kind
 ·have hkn:(m.kind != m'.kind)=false:=by rw[hk];simp
  have HK:=ah hk;clear hk;go_enter func20,ntmps20;go_wp2_with fail;rw[← hwz];clear hwz hkn;have Dn:=ah (aco wz);refine Dn.out.mono ?_;rintro e w4 ⟨g,cg,rfl,hg,hnm,hb4⟩;have HB4:=ah hb4;have zH:=ah hnm;have ou:Hid (∀i,i<0→m.val i=m'.val i):=fun i hi=>aJ hi (by omega);clear hnm hb4 Dn hg;go_wp2_with fail;go_loopg [14] 22 (fun gk ki wr=>∃j:Nat,j≤22∧22 - j≤gk∧ki=.int .i64 (j:Int)∧Hid (∀i,i<j→m.val i=m'.val i)∧Hid (Below w4.heap.size w4 wr))
  case atStart=>exact⟨0,by omega,by omega,rfl,ou,b0⟩
  case round=>
   obtain⟨j,hj,hgj,rfl,HN,HB⟩:=hrel;have iW:Hid (Below wz.heap.size wz wr):=bb HB4.out HB.out;by_cases jl:j<22
   ·obtain⟨b,off,iL,hbl,hcn⟩:=(zH.out.below HB.out).at_ (k:=j) (by simpa[oU,tH]using jl)
    injection iL with iL;injection iL with e1 e2;subst e1 e2;rw[O4,aX]at hcn;have rQ:=ah (fun x=>qF w.heap.size x j jl);have HP2:=ah (fun x=>qF (w.heap.size+1) x j jl);have sJ:Hid (∀x,Below wr.heap.size wr x→Calls prog 58 #[gW w.heap.size j,gW (w.heap.size+1) j] x fun e w'=>(∃F:Bool,e=.returned (.bool F)∧(F=true↔m.val j=m'.val j))∧Below x.heap.size x w'):=fun x hx=>
     aey x (gQ.out.below (bb iW.out hx) gQ.out.lt) (jK.out.below (bb iW.out hx) jK.out.lt) (HV.out.below (bb iW.out hx)) (kQ.out.below (bb iW.out hx)) HZ.out j jl
    generalize dW j=N at *;generalize gW w.heap.size j=P1 at *;generalize gW (w.heap.size+1) j=P2 at *;clear ou;go_wp2_with fail;refine(rQ.out _).mono ?_;rintro e w5 ⟨rfl,hb5⟩;have gY:=ah hb5;clear hb5 rQ;go_wp2_with fail;refine(HP2.out _).mono ?_;rintro e w6 ⟨rfl,hb6⟩;have iE:=ah (bb gY.out hb6);clear hb6 HP2 gY;go_wp2_with fail;refine(sJ.out _ iE.out).mono ?_;rintro e w7 ⟨⟨F,rfl,hF⟩,hb7⟩;have iV:=ah (bb iE.out hb7);have HF:=ah hF;clear hb7 sJ iE hF;cases F with
    |true=>
      have iq:Hid (∀i,i<j+1→m.val i=m'.val i):=fun i hi=>by
       rcases Nat.lt_or_ge i j with h2|h2
       ·exact HN.out i h2
       obtain rfl:i=j:=(by omega);exact HF.out.1 rfl
      clear HN HF;go_wp2_with fail;go_roundg (22 - (j+1))
      case measure=>omega
      case rel=>exact⟨j+1,by omega,au _,by go_num,iq,bb HB.out iV.out⟩
    |false=>
      have HE:Hid (∀w',Below wr.heap.size wr w'→(∃F:Bool,Ending.returned (.bool false)=Ending.returned (.bool F)∧(F=true↔m=m'))∧Below w.heap.size w w'):=fun w' h=>⟨⟨false,rfl,fun h=>(by cases h),fun h=>by rw[h]at HF;exact aJ (HF.out.2 rfl) (by simp)⟩,bb fC.out (bb iW.out h)⟩;clear HN HF;go_wp2_with fail;go_ret;exact HE.out _ iV.out
   ·obtain rfl:j=22:=by omega
    have c1:wr.cell? ⟨w.heap.size,23,none⟩=some (.slice rA m.rest.len rc):=(gQ.out.below iW.out gQ.out.lt).cell 23;have c2:wr.cell? ⟨w.heap.size+1,23,none⟩=some (.slice mX m'.rest.len rc'):=(jK.out.below iW.out jK.out.lt).cell 23;have HS:=ah (amy _ _ m.rest m'.rest I wr (HV.out.below iW.out).2.2 (kQ.out.below iW.out).2.2 (by have:=HZ.out.rest;omega) HR2.out);have HE:Hid (∀w',Below wr.heap.size wr w'→(∃F:Bool,Ending.returned (.bool (m.rest.same m'.rest))=Ending.returned (.bool F)∧(F=true↔m=m'))∧Below w.heap.size w w'):=fun w' h=>⟨⟨_,rfl,by rw[same_iff,ajB HK.out HN.out]⟩,bb fC.out (bb iW.out h)⟩;clear HN ou HB;generalize m.rest.same m'.rest=F at *;go_wp2_with fail;refine HS.out.mono ?_;rintro e w5 ⟨rfl,hb5⟩;have gY:=ah hb5;clear hb5;go_wp2_with fail;go_ret;exact HE.out _ gY.out
 ·have hkn:(m.kind != m'.kind)=true:=by simpa using hk
  have HE:Hid (∀w',Below w.heap.size w w'→(∃F:Bool,Ending.returned (.bool false)=Ending.returned (.bool F)∧(F=true↔m=m'))∧Below w.heap.size w w'):=fun w' h=>⟨⟨false,rfl,fun h=>(by cases h),fun h=>aJ (congrArg Mp.kind h) hk⟩,h⟩;clear hk;go_enter func20,ntmps20;go_wp2_with fail;rw[← hwz];go_ret;exact HE.out _ fC.out
end Go.Proofs.YtgidfnhfgiehjaaGreatDoor
namespace Go.Proofs.YtgidfnhfgiehjaaGreatDoor
open Go.PM Go.RowKit Go.Proofs.Tryz
def WC(x:Fl)(within:Nat):Prop:=0<x.tag∧x.tag≤4294967296∧In64 x.num∧(x.ty=0∧x.text=ByteArray.empty∧x.inner=.nil∨x.ty=1∧x.num=0∧x.inner=.nil∧x.text.size≤9223372036854775807∨x.ty=2∧x.num=0∧x.text=ByteArray.empty∧within<8∧kY x.inner 0 (within+1))
theorem SQ:∀{f:Fs} {a w:Nat},kY f a w→∀x∈f.eP,WC x w
 |.nil,_,_,_=>fun x hx=>by cases hx
 |.cons t y n s i r,a,w,h=>fun x hx=>by
   rw[Fs.eP]at hx;rcases bC.1 hx with rfl|hx
   ·exact h.1.2
   exact SQ h.2 x hx
theorem SV:∀{f:Fs} {a w:Nat},f.eP.Pairwise (fun x y=>x.tag<y.tag)→(∀x∈f.eP,a<x.tag)→(∀x∈f.eP,WC x w)→kY f a w
 |.nil,_,_,_,_,_=>trivial
 |.cons t y n s i r,a,w,h1,h2,h3=>by
   rw[Fs.eP]at h1 h2 h3;rw[cu]at h1;exact⟨⟨h2 _ dw,h3 _ dw⟩,SV h1.2 (fun x hx=>h1.1 x hx) fun x hx=>h3 x (dh _ hx)⟩
theorem OZ(m:Mp)(l:List Sp):(mQ m l).eP=l.filterMap (iH m):=qM _
theorem ajA{m:Mp}{k v:Nat}(hm:iQ m (fJ k v)=0)(hg:m.good):kY (mQ m (fJ k v)) 0 0:=by
 have hok:=zh k v;refine SV ?_ (fun x hx=>?_) fun x hx=>?_
 ·rw[OZ]
  refine List.Pairwise.filterMap (R:=fun a b=>a.tag<b.tag∧six a≠six b) (iH m) (fun a b hab x hx y hy=>?_) hok.1;rw[(tY hx).2,(tY hy).2];exact hab.1
 ·rw[OZ]at hx
  obtain⟨s,hs,hf⟩:=dJ.1 hx;rw[(tY hf).2];exact(hok.2 s hs).2.2.2.1
 rw[OZ]at hx;obtain⟨s,hs,hf⟩:=dJ.1 hx;obtain⟨s1,s2,s3,s4,s5,_⟩:=hok.2 s hs;obtain⟨h1,h2⟩:=Tc (EO hm s hs) (hg.1 _ s1);have hu:=Td (m.val (six s));rw[Mp.CB,← s2]at hu;rw[(tY hf).2];refine⟨s4,?_,h1,?_⟩
 ·show s.tag≤_
  omega
 by_cases hl:s.use≤2
 ·left
  refine⟨aA hl,?_,rfl⟩;show txt _=_;rw[hu.1 hl];rfl
 right;left
 refine⟨ay hl,hu.2 (by omega),rfl,?_⟩;show(txt _).size≤_;rw[gI];omega
theorem ab9{m:Mp}{v:Nat}(hg:m.good)(h:iG m v=0):(fQ m v).2=0∧kY (fQ m v).1 0 0:=by
 obtain⟨c1,c2,c3,c4,c5,c6,c7⟩:=vS h;have hk:=ajA (k:=eH m.kind) (v:=v) c4 hg;have hka:=G8 c4 hg;have hk0:=(xP _ 0 0 hka (by omega)).2 hk;have hr:=(xP m.rest 0 0 hg.2 (by omega)).1 c6;have h1:=Jh hk;have h2:=Jh hr;have hn:(((mQ m (fJ (eH m.kind) v)).app m.rest).eP.map Fl.tag).Nodup:=by
  rw[uX,dB,List.nodup_append];refine⟨OO Fl.tag h1.1,OO Fl.tag h2.1,fun a ha b hb e=>?_⟩;obtain⟨x,hx,rfl⟩:=dL.1 ha;obtain⟨y,hy,rfl⟩:=dL.1 hb;rw[OZ]at hx;obtain⟨s,hs,hf⟩:=dJ.1 hx;refine c7 y hy (Ko.2 ⟨s,hs,?_⟩);rw[← e,(tY hf).2]
 have e:fQ m v=(fB (jD Fl.tag ((mQ m (fJ (eH m.kind) v)).app m.rest).eP),0):=by
  unfold fQ;rw[ay (by simpa using h),aaz hk0 c6];unfold vI;rw[aA hn];rfl
 rw[e];have hp:=Cb Fl.tag ((mQ m (fJ (eH m.kind) v)).app m.rest).eP;have hin:∀x∈jD Fl.tag ((mQ m (fJ (eH m.kind) v)).app m.rest).eP,x∈(mQ m (fJ (eH m.kind) v)).eP∨x∈m.rest.eP:=fun x hx=>by
  have:=hp.mem_iff.1 hx
  rwa [uX,bZ]at this
 refine⟨rfl,SV ?_ ?_ ?_⟩<;>simp only[qM]
 ·exact OQ Fl.tag (U3 Fl.tag _) (((hp.symm).map Fl.tag).nodup hn)
 ·exact fun x hx=>(hin x hx).elim (h1.2 x) (h2.2 x)
 exact fun x hx=>(hin x hx).elim (SQ hk x) (SQ hr x)
theorem ajv{m:Mp}(v:Nat)(hg:m.good):lK m v=if iG m v≠0 then([],iG m v)else if 65536<(dY (eH m.kind)++eu (fQ m v).1).length then([],4)else(dY (eH m.kind)++eu (fQ m v).1,0):=by
 by_cases h:iG m v≠0
 ·rw[aA h]
  have e:fQ m v=(.nil,iG m v):=by unfold fQ;rw[aA h]
  unfold lK;rw[e,aA h]
 rw[ay h];have h0:iG m v=0:=by simpa using h
 obtain⟨h1,h2⟩:=ab9 hg h0;have hall:(fQ m v).1.All mF:=by
  have hp:=(OY h1).2.1;rw[← qE (fQ m v).1,← Vk hp,uX,uT];have hka:=G8 (vS h0).2.2.2.1 hg;rw[← qE (mQ m _),uT]at hka;have hra:=hg.2;rw[← qE m.rest,uT]at hra;intro x hx;rcases bZ.1 hx with hx|hx
  ·exact hka x hx
  exact hra x hx
 have h3:=(xP _ 0 0 hall (by omega)).2 h2;unfold lK;rw[ay (by rw[h1];simp)];by_cases h5:65536<(eu (fQ m v).1).length
 ·have e:kT (fQ m v).1=([],4):=by unfold kT;rw[ay (by simpa using h3),aA h5]
  rw[e,aA (by simp),aA (by rw[aC];omega)];rfl
 have e:kT (fQ m v).1=(eu (fQ m v).1,0):=by unfold kT;rw[ay (by simpa using h3),ay h5]
 rw[e,ay (by simp)]
