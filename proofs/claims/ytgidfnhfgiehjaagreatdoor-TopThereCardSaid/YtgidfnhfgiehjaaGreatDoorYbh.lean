/-
  Parts of the proof. Conditions: as each names.
-/
import Derived.Test.YtgidfnhfgiehjaaGreatDoorYbe
namespace Go.Proofs.YtgidfnhfgiehjaaGreatDoor
open Go.PM Go.RowKit Go.Proofs.Tryz
theorem NI:∀l:List Fl,(eu (fB l)).length=(l.map fun f=>(eu (fB [f])).length).sum
 |[]=>rfl
 |f::r=>by
   have e:fB (f::r)=(fB [f]).app (fB r):=rfl;rw[e,Jr,aC,NI r,dK,List.sum_cons]
theorem ahy{f g:Fs}(h:f.eP.Perm g.eP):(eu f).length=(eu g).length:=by
 rw[← qE f,← qE g,NI,NI];exact(h.map _).sum_nat
theorem Gl:∀l:List Fl,(fB l).count=(l.map fun f=>1+f.inner.count).sum
 |[]=>rfl
 |f::r=>by
   show 1+f.inner.count+(fB r).count=_;rw[Gl r,dK,List.sum_cons]
theorem afL{f g:Fs}(h:f.eP.Perm g.eP):f.count=g.count:=by
 rw[← qE f,← qE g,Gl,Gl];exact(h.map _).sum_nat
theorem KE{α:Type}(f:α→Nat)(b:Nat):∀l:List α,(∀x∈l,f x≤b)→(l.map f).sum≤l.length*b
 |[],_=>by simp
 |x::r,h=>by
   have h1:=h x dw;have h2:=KE f b r fun y hy=>h y (dh _ hy);rw[dK,List.sum_cons,bK,Nat.add_mul];omega
theorem ahz(t n u:Nat)(s:List UInt8)(ht:t≤5)(hn:n<18446744073709551616)(hs:s.length≤2000000):(eu (fB [⟨t,if u≤2 then 0 else 1,n,txt s,.nil⟩])).length≤3000000:=by
 have e:fB [(⟨t,if u≤2 then 0 else 1,n,txt s,.nil⟩:Fl)]=.cons t (if u≤2 then 0 else 1) n (txt s) .nil .nil:=rfl;have h1:=iJ hn;have h2:=iJ (n:=s.length) (by omega);rw[e];by_cases h:u≤2
 ·rw[aA h]
  have h3:=iJ (n:=4*t+(0:Int).toNat) (by simp;omega);simp only[eu,aC,fO,if_true,cO];omega
 rw[ay h];have h3:=iJ (n:=4*t+(1:Int).toNat) (by simp;omega);simp only[eu,aC,fO,if_true,cO,show¬(1:Int)=0 by decide,if_false,gI];have h4:(txt s).data.toList.length=s.length:=by simp[txt]
 omega
theorem Ia:jJ [] 0 256=0:=by unfold jJ;rw[ay (by simp),aA ug]
theorem Va:∀i,i<22→(m0.val i).may=0:=by
 refine kD ?_ ?_ ?_ ?_ ?_ ?_ ?_ ?_ ?_ ?_ ?_ ?_ ?_ ?_ ?_ ?_ ?_ ?_ ?_ ?_ ?_ ?_<;>first|rfl|exact Ia
theorem ab3:∀i,i<22→(m0.val i).good:=by
 refine kD ?_ ?_ ?_ ?_ ?_ ?_ ?_ ?_ ?_ ?_ ?_ ?_ ?_ ?_ ?_ ?_ ?_ ?_ ?_ ?_ ?_ ?_<;>simp[m0,Mp.val,Mv.good,iK]
theorem RJ{m:Mp}{v:Nat}(h:iG m v=0):∀i,i<22→(m.val i).may=0:=fun i hi=>by
 obtain⟨c1,c2,c3,c4,c5,c6,c7⟩:=vS h;by_cases hk:∃s∈fJ (eH m.kind) v,six s=i
 ·obtain⟨s,hs,e⟩:=hk
  rw[← e];exact EO c4 s hs
 rw[acv m i hi (ach (zh _ _) c3 hi fun s hs e=>hk ⟨s,hs,e⟩)];exact Va i hi
theorem Kq{m:Mp}(h:(m.val 6).may=0):m.d=[]∨um m.d:=by
 by_cases hd:m.d=[]
 ·exact .inl hd
 have h2:(if m.d=[]then 0 else iZ dV m.d)=0:=h;rw[ay hd]at h2;exact .inr (uH h2).1
theorem Zo{d:List fD}(h:iZ dV d=0):lg d∧d.length≤9223372036854775807:=by
 refine⟨fun e he=>?_,?_⟩
 ·have:=Nc h e he
  omega
 have:=(uH h).2.1;omega
theorem aci{m:Mp}(hk:iK m.kind)(hm:∀i,i<22→(m.val i).may=0)(hg:∀i,i<22→(m.val i).good)(hr:m.rest.All mF)(hc:m.rest.count≤900000)(hL:(eu m.rest).length≤100000000):jV m where
 good:=⟨hg,hr⟩
 kind:=hk
 nm:=by have:=KN (l:=m.nm) (hm 14 (by decide));omega
 rg:=by have:=KN (l:=m.rg) (hm 17 (by decide));omega
 nt:=by have:=KN (l:=m.nt) (hm 15 (by decide));omega
 d:=by
  rcases Decidable.em (m.d=[])with h|h
  ·rw[h];intro e he;cases he
  have h2:(if m.d=[]then 0 else iZ dV m.d)=0:=hm 6 (by decide);rw[ay h]at h2;exact(Zo h2).1
 dl:=by
  rcases Kq (hm 6 (by decide))with h|h
  ·rw[h];simp
  have:=h.1;omega
 t:=fun r hr=>by
  have h1:=Ce (l:=m.t) (hm 20 (by decide));exact Zo (Pv (PO h1.2 r hr))
 tl:=by
  have h1:=Ce (l:=m.t) (hm 20 (by decide));omega
 rest:=hc
 VG:=hL
theorem ace{m:Mp}{v:Nat}(hz:jV m)(h:(fQ m v).2=0):(fQ m v).1.All mF∧(fQ m v).1.count≤1000000∧(eu (fQ m v).1).length≤1000000000000:=by
 obtain⟨f1,f2,f3⟩:=OY h;obtain⟨c1,c2,c3,c4,c5,c6,c7⟩:=vS f1;have hka:=G8 c4 hz.good;have hlen:((fJ (eH m.kind) v).filterMap (iH m)).length≤5:=aI (List.length_filterMap_le _ _) (aI (List.length_filter_le _ _) (Au _));refine⟨?_,?_,?_⟩
 ·rw[← qE (fQ m v).1]
  refine(Vk f2).1 ?_;rw[uT];intro x hx;rw[uX,bZ]at hx;rcases hx with hx|hx
  ·refine(uT _).1 ?_ x hx
   rw[qE];exact hka
  refine(uT _).1 ?_ x hx;rw[qE];exact hz.good.2
 ·rw[← afL f2,Fs.Bq,mQ,Gl]
  have h1:(((fJ (eH m.kind) v).filterMap (iH m)).map fun f=>1+f.inner.count).sum≤((fJ (eH m.kind) v).filterMap (iH m)).length*1:=by
   refine KE _ _ _ fun f hf=>?_;obtain⟨s,_,hs⟩:=dJ.1 hf;rw[(tY hs).2];exact au _
  have:=hz.rest;omega
 rw[← ahy f2,Jr,aC,mQ,NI];have h1:(((fJ (eH m.kind) v).filterMap (iH m)).map fun f=>(eu (fB [f])).length).sum≤((fJ (eH m.kind) v).filterMap (iH m)).length*3000000:=by
  refine KE _ _ _ fun f hf=>?_;obtain⟨s,hs,hsf⟩:=dJ.1 hf;rw[(tY hsf).2];obtain⟨s1,_,_,_,s5,_⟩:=(zh (eH m.kind) v).2 s hs;obtain⟨h1,h2⟩:=Tc (EO c4 s hs) (hz.good.1 _ s1);exact ahz _ _ _ _ (by omega) h1 h2
 have:=hz.VG;omega
end Go.Proofs.YtgidfnhfgiehjaaGreatDoor
namespace Go.Proofs.YtgidfnhfgiehjaaGreatDoor
open Go.PM Go.RowKit Go.Proofs.Tryz
set_option maxRecDepth 100000
set_option maxHeartbeats 4000000
attribute [local go_sem ↓] Go.wp_at_zero Go.wp_at_succ
theorem ajE(m:Mp)(dv tv rv:Value)(v:Mv)(jC tv':Value):∀i,i<22→v.use=gy i→(gy i=4∨jC=dv)→(gy i=5∨tv'=tv)→(dR m dv tv rv).setIfInBounds (fP i) (mV (m.put i v) jC tv' i)=dR (m.put i v) jC tv' rv:=by
 refine kD ?_ ?_ ?_ ?_ ?_ ?_ ?_ ?_ ?_ ?_ ?_ ?_ ?_ ?_ ?_ ?_ ?_ ?_ ?_ ?_ ?_ ?_<;>
  (intro hu hd ht;cases v<;>first|(exfalso;revert hu;simp[Mv.use,gy];done)|(rcases hd with hd|rfl<;>rcases ht with ht|rfl<;>first|(exact aJ hd (by decide))|(exact aJ ht (by decide))|rfl))
def mvw(v:Mv)(dv tv:Value):Value:=match v with
 |.num n=>.int .u64 (n:Int)
 |.flag b=>.bool b
 |.qG z=>.int .i64 z
 |.word s=>.string (txt s)
 |.of _=>dv
 |.rows _=>tv
theorem ajF(m:Mp)(v:Mv)(dv tv:Value){i:Nat}(hi:i<22)(hu:v.use=gy i):mV (m.put i v) dv tv i=mvw v dv tv:=by
 unfold mV;rw[Mp.PY m v i hi hu i hi,aA rfl];rfl
def ni(B:Nat)(w:World)(m:Mp)(dv tv rv:Value):Prop:=(∃A c,dv=.slice A m.d.length c∧m.d.length≤c∧pG w (B≤·) A m.d)∧l7 B w tv m.t∧eF w (B≤·) rv m.rest
theorem l7.fE{B:Nat}{w w':World}{v:Value}{t:List Rw}{S:Nat→Prop}(h:l7 B w v t)(hb:dX S w w')(hs:∀k,B≤k→¬S k):l7 B w' v t:=by
 obtain⟨l,A,c,h1,h2,h3,h4,h5,h6⟩:=h;exact⟨l,A,c,h1,h2,h3.fE hb fun b off e=>hs b (h6 b off e),fun r hr=>(h4 r hr).fE hb hs,h5,h6⟩
theorem ni.fE{B:Nat}{w w':World}{m:Mp}{dv tv rv:Value}{S:Nat→Prop}(h:ni B w m dv tv rv)(hb:dX S w w')(hs:∀k,B≤k→¬S k):ni B w' m dv tv rv:=by
 obtain⟨⟨A,c,h1,h2,h3⟩,h4,h5⟩:=h;exact⟨⟨A,c,h1,h2,h3.fE hb hs⟩,h4.fE hb hs,h5.fE hb hs⟩
theorem ni.below{B:Nat}{w w':World}{m:Mp}{dv tv rv:Value}(h:ni B w m dv tv rv)(hb:Below w.heap.size w w'):ni B w' m dv tv rv:=h.fE (S:=fun _=>False) (dX.below hb) fun _ _=>id
theorem ni.mono{B C:Nat}{w:World}{m:Mp}{dv tv rv:Value}(h:ni B w m dv tv rv)(hb:C≤B):ni C w m dv tv rv:=by
 obtain⟨⟨A,c,h1,h2,h3⟩,h4,h5⟩:=h;exact⟨⟨A,c,h1,h2,h3.imp fun g _ hg=>aI hb hg⟩,h4.mono hb,h5.imp fun g hg=>aI hb hg⟩
theorem ni.v{B:Nat}{w:World}{m:Mp}{dv tv rv:Value}(h:ni B w m dv tv rv):gU w (B≤·) m dv tv rv:=by
 obtain⟨h1,⟨l,A,c,g1,g2,g3,g4,g5,_⟩,h5⟩:=h;exact⟨h1,⟨l,A,c,g1,g2,g3,g4,g5⟩,h5⟩
theorem ni.put{B:Nat}{w:World}{m:Mp}{dv tv rv jC tv':Value}(h:ni B w m dv tv rv)(v:Mv):∀i,i<22→v.use=gy i→(gy i=4∨jC=dv)→(gy i=5∨tv'=tv)→
 (∀d,v=.of d→∃A c,jC=.slice A d.length c∧d.length≤c∧pG w (B≤·) A d)→(∀t,v=.rows t→l7 B w tv' t)→ni B w (m.put i v) jC tv' rv:=by
 obtain⟨h1,h2,h3⟩:=h
 refine kD ?_ ?_ ?_ ?_ ?_ ?_ ?_ ?_ ?_ ?_ ?_ ?_ ?_ ?_ ?_ ?_ ?_ ?_ ?_ ?_ ?_ ?_<;>
  (intro hu hd ht h4 h5;cases v <;> first
    |(exfalso;revert hu;simp[Mv.use,gy];done)
    | (rcases hd with hd | rfl <;> rcases ht with ht | rfl <;> first
        |(exact aJ hd (by decide))
        |(exact aJ ht (by decide))
        |(exact⟨h4 _ rfl,h2,h3⟩)
        |(exact⟨h1,h5 _ rfl,h3⟩)
        |(exact⟨h1,h2,h3⟩)))
def zT(B:Nat)(w:World)(b:Nat)(m:Mp)(i:Nat)(rv:Value)(q:Mv×Int)(e:Ending)(w':World):Prop :=
 e=.returned (.int .i64 q.2)∧dX (fun j=>j=b) w w'∧(q.2=0→∃jC tv',DJ w' b (m.put i q.1) jC tv' rv∧ni B w' (m.put i q.1) jC tv' rv)
structure nG (B:Nat) (wc w:World) (b:Nat) (m:Mp) (dv tv rv:Value):Prop where
 mg:ni B wc m dv tv rv
 bel:Below wc.heap.size wc w
 le:wc.heap.size≤b
 leB:B≤wc.heap.size
 at_:DJ w b m dv tv rv
theorem nG.below{B:Nat}{wc w w':World}{b:Nat}{m:Mp}{dv tv rv:Value}(h:nG B wc w b m dv tv rv)(hb:Below w.heap.size w w'):nG B wc w' b m dv tv rv :=
 ⟨h.mg,bb h.bel hb,h.le,h.leB,h.at_.below hb h.at_.lt⟩
theorem nG.store{B:Nat}{wc w w':World}{b:Nat}{m:Mp}{dv tv rv:Value}{i:Nat}(hi:i<22)(h:nG B wc w b m dv tv rv)(hb:Below w.heap.size w w')(v:Mv)(jC tv':Value)(hu:v.use=gy i)(hd:gy i=4∨jC=dv)(ht:gy i=5∨tv'=tv)
 (h4:∀d,v=.of d→yN w.heap.size w' jC d) (h5:∀t,v=.rows t→l7 w.heap.size w' tv' t) {q:Mv×Int} (hq:q=(v,0)) (u:Value) (hx:u=mvw v jC tv') {ci:Nat} (hci:ci=fP i) :
 zT B w b m i rv q (.returned (.int .i64 0)) (w'.setCell ⟨b,ci,none⟩ u):=by
 subst hci
 rw[← ajF m v jC tv' hi hu]at hx
 subst hx
 have h':=h.below hb
 have hlt:=h.at_.lt
 have hsz:=h.bel.size
 refine⟨by rw[hq],(show dX (fun j=>j=b) w w' from dX.below hb).put (p:=⟨b,fP i,none⟩) (fun _=>rfl) _,fun _=>⟨jC,tv',?_,?_⟩⟩
 ·rw[hq]
  have:=h'.at_.put (fP i) (mV (m.put i v) jC tv' i);unfold DJ;rw[← ajE m dv tv rv v jC tv' i hi hu hd ht];exact this
 ·rw[hq]
  have hT:dX (fun j=>j=b) w' (w'.setCell ⟨b,fP i,none⟩ (mV (m.put i v) jC tv' i)):=(dX.refl (fun j=>j=b) w').put (p:=⟨b,fP i,none⟩) (fun _=>rfl) _;have hm:=h.mg.below (w':=w'.setCell ⟨b,fP i,none⟩ (mV (m.put i v) jC tv' i)) ((h'.bel).setCell h.le _);refine hm.put v i hi hu hd ht (fun d e=>?_) (fun t e=>?_)
  ·obtain⟨A,c,g1,g2,g3,g4⟩:=h4 d e
   have hI:=(g2.zi (I:=fun k=>w.heap.size≤k) g4).fE hT fun k hk e=>(by omega);exact⟨A,c,g1,g3,hI.imp fun k _ hk=>by have:=h.leB;omega⟩
  exact((h5 t e).fE hT fun k hk e=>by omega).mono (by have:=h.leB;omega)
theorem nG.bad{B:Nat}{w w':World}{b:Nat}{m:Mp}{rv:Value}{i:Nat}{q:Mv×Int}{k:Int}(hb:dX (fun j=>j=b) w w')(hq:q.2=k)(hk:k≠0):zT B w b m i rv q (.returned (.int .i64 k)) w' :=
 ⟨by rw[hq],hb,fun h=>aJ (hq.symm.trans h) hk⟩
theorem VO{u:Nat}(hu:u≤2)(ty:Int)(n:Nat)(s:List UInt8):(ty==0)=false∧(ig u ty n s).2=8∨((ty==0)=true∧(ty==1)=false)∧(((n:Int)==0)=true∧(ig u ty n s).2=17∨((n:Int)==0)=false∧n≠0∧ty=0):=by
 by_cases hty:ty=0
 ·subst hty
  by_cases hn:n=0
  ·subst hn
   exact .inr ⟨⟨rfl,rfl⟩,.inl ⟨rfl,by unfold ig;rw[aA hu];rfl⟩⟩
  exact .inr ⟨⟨rfl,rfl⟩,.inr ⟨by rw[aB];omega,hn,rfl⟩⟩
 exact .inl ⟨by rw[aB];exact hty,by unfold ig;rw[aA hu,aA hty]⟩
theorem VP{u:Nat}(hu:¬u≤2)(ty:Int)(n:Nat)(s:List UInt8):(ty==1)=false∧(ig u ty n s).2=8∨((ty==1)=true∧(ty==0)=false)∧((txt s).toList.isEmpty=true∧(ig u ty n s).2=17∨(txt s).toList.isEmpty=false∧s≠[]∧ty=1):=by
 by_cases hty:ty=1
 ·subst hty
  by_cases hs:s=[]
  ·exact .inr ⟨⟨rfl,rfl⟩,.inl ⟨by rw[BF];simpa using hs,by unfold ig;rw[ay hu,ay (by decide),aA hs]⟩⟩
  exact .inr ⟨⟨rfl,rfl⟩,.inr ⟨by rw[BF];simpa using hs,hs,rfl⟩⟩
 exact .inl ⟨by rw[aB];exact hty,by unfold ig;rw[ay hu,aA hty]⟩
theorem amB(B:Nat)(wc:World)(b:Nat)(m:Mp)(dv tv rv:Value)(i:Nat)(t:Nat)(ty:Int)(n:Nat)(s:List UInt8)(fA:Option Addr)(fn fc:Nat)(w:World)(hi:i<22)(hu:gy i=0)(hin:nG B wc w b m dv tv rv)(_:True) :
 Calls prog 83 #[.pointer (some ⟨b,0,none⟩),.string (txt (dW i)),.agg #[.int .u64 (t:Int),.int .i64 ty,.int .u64 (n:Int),.string (txt s),.slice fA fn fc]] w (zT B w b m i rv (ig 0 ty n s)):=by
 have hp:∀b,gW b i=.iface (eY 0) (.pointer (some ⟨b,fP i,none⟩)):=fun b=>by rw[gW,hu]
 have gG:=ah (fun x=>qF b x i hi)
 simp only[hp]at gG
 have oC:Hid (∀x,Calls prog 138 #[.iface (eY 0) (.pointer (some ⟨b,fP i,none⟩))] x (aj x (.tuple #[.int .i64 0,.bool true]))):=fun x=>anu (.pointer (some ⟨b,fP i,none⟩)) x
 obtain⟨iY,fU⟩:=EN w 47 #[.int .u64 (t:Int),.int .i64 ty,.int .u64 (n:Int),.string (txt s),.slice fA fn fc]
 have oh:=ah hin
 obtain⟨N,hN⟩:∃N,N=txt (dW i):=⟨_,rfl⟩
 rw[← hN]at gG⊢
 have hlt:=hin.at_.lt
 obtain⟨ci,hci⟩:∃ci,ci=fP i:=⟨_,rfl⟩
 rw[← hci]at gG oC
 have qQ:=ah hci
 clear hp hN hin hci
 have y0:=jO 0
 simp only[eY]at *
 go_enter func83,ntmps83
 go_wp2_with fail
 generalize w.alloc (.cells #[.int .u64 (t:Int),.int .i64 ty,.int .u64 (n:Int),.string (txt s),.slice fA fn fc] 47)=wf at iY fU⊢
 refine(gG.out _).mono ?_
 rintro e w1 ⟨rfl,hb1⟩
 have lV:=ah (iY.out.below hb1 iY.out.lt)
 have HB1:=ah (bb fU.out hb1)
 clear hb1 gG iY fU
 go_wp2_with fail
 refine(oC.out _).mono ?_
 rintro e w2 ⟨rfl,hb2⟩
 have HF2:=ah (lV.out.below hb2 lV.out.lt)
 have HB2:=ah (bb HB1.out hb2)
 clear hb2 oC lV HB1
 go_wp2_with fail
 have n1:∀n':fV w2,n'.wld.cell? ⟨w.heap.size,1,none⟩=some (.int .i64 ty):=fun n'=>(HF2.out.below n'.bel HF2.out.lt).cell 1
 have lF:Hid (∀n':fV w2,Calls prog 139 #[.int .i64 0] n'.wld (aj n'.wld (.int .i64 0))):=fun n'=>H9 0 n'.wld (by decide)
 refine kM (by kernel_rfl) (by kernel_rfl) ?_
 repeat(first|go_big_quiet_skip|(go_big_quiet_want;go_big_quiet_op;first|go_big_quiet_on|(apply Exists.intro;refine⟨fun nq=>?_,?_⟩;(go_at_call 139;exact jW (lF.out _));go_big_quiet_on)))
 refine wpQuiet_nil ?_
 intro wq hnq
 obtain⟨nq,rfl⟩:=hnq
 have hq:=nq.bel
 generalize nq.wld=wq at hq⊢
 clear nq
 have hf3:=HF2.out.below hq HF2.out.lt
 have f1:=hf3.cell 1
 have f2:=hf3.cell 2
 have f3:=hf3.cell 3
 have hlf:=hf3.lt
 simp at f1 f2 f3
 have HB3:=ah (bb HB2.out hq)
 have JM:b<wq.heap.size:=aQ hlt HB3.out.size
 clear hf3 hq n1 lF HF2 HB2
 rcases VO (u:=0) (by decide) ty n s with⟨hyb,hq⟩|⟨⟨hyb,hy1⟩,⟨hnb,hq⟩|⟨hnb,hn,hty⟩⟩
 iterate 2
  ·have HQ:=ah hq
   clear hq;go_wp2_with fail;go_ret;exact nG.bad (dX.below HB3.out) HQ.out (by decide)
 have hq:ig 0 ty n s=(.num n,0):=by unfold ig;simp[hty,hn]
 have HQ:=ah hq
 clear hq hty hn
 have oI:=oh.out.below HB3.out
 have hcc:=oI.at_.cell hi
 have rD:=oI.at_.free (fP i)
 rw[← qQ.out]at hcc rD
 clear oI
 go_wp2_with fail
 go_ret
 exact oh.out.store hi HB3.out (.num n) dv tv hu.symm (.inr rfl) (.inr rfl) (fun _ h=>by cases h) (fun _ h=>by cases h) HQ.out _ rfl qQ.out
theorem amC(B:Nat)(wc:World)(b:Nat)(m:Mp)(dv tv rv:Value)(i:Nat)(t:Nat)(ty:Int)(n:Nat)(s:List UInt8)(fA:Option Addr)(fn fc:Nat)(w:World)(hi:i<22)(hu:gy i=1)(hin:nG B wc w b m dv tv rv)(_:True) :
 Calls prog 83 #[.pointer (some ⟨b,0,none⟩),.string (txt (dW i)),.agg #[.int .u64 (t:Int),.int .i64 ty,.int .u64 (n:Int),.string (txt s),.slice fA fn fc]] w (zT B w b m i rv (ig 1 ty n s)):=by
 have hp:∀b,gW b i=.iface (eY 1) (.pointer (some ⟨b,fP i,none⟩)):=fun b=>by rw[gW,hu]
 have gG:=ah (fun x=>qF b x i hi)
 simp only[hp]at gG
 have oC:Hid (∀x,Calls prog 138 #[.iface (eY 1) (.pointer (some ⟨b,fP i,none⟩))] x (aj x (.tuple #[.int .i64 1,.bool true]))):=fun x=>anv (.pointer (some ⟨b,fP i,none⟩)) x
 obtain⟨iY,fU⟩:=EN w 47 #[.int .u64 (t:Int),.int .i64 ty,.int .u64 (n:Int),.string (txt s),.slice fA fn fc]
 have oh:=ah hin
 obtain⟨N,hN⟩:∃N,N=txt (dW i):=⟨_,rfl⟩
 rw[← hN]at gG⊢
 have hlt:=hin.at_.lt
 obtain⟨ci,hci⟩:∃ci,ci=fP i:=⟨_,rfl⟩
 rw[← hci]at gG oC
 have qQ:=ah hci
 clear hp hN hin hci
 have y1:=jO 1
 have n0:=F8
 simp only[eY]at *
 go_enter func83,ntmps83
 go_wp2_with fail
 generalize w.alloc (.cells #[.int .u64 (t:Int),.int .i64 ty,.int .u64 (n:Int),.string (txt s),.slice fA fn fc] 47)=wf at iY fU⊢
 refine(gG.out _).mono ?_
 rintro e w1 ⟨rfl,hb1⟩
 have lV:=ah (iY.out.below hb1 iY.out.lt)
 have HB1:=ah (bb fU.out hb1)
 clear hb1 gG iY fU
 go_wp2_with fail
 refine(oC.out _).mono ?_
 rintro e w2 ⟨rfl,hb2⟩
 have HF2:=ah (lV.out.below hb2 lV.out.lt)
 have HB2:=ah (bb HB1.out hb2)
 clear hb2 oC lV HB1
 go_wp2_with fail
 have n1:∀n':fV w2,n'.wld.cell? ⟨w.heap.size,1,none⟩=some (.int .i64 ty):=fun n'=>(HF2.out.below n'.bel HF2.out.lt).cell 1
 have lF:Hid (∀n':fV w2,Calls prog 139 #[.int .i64 1] n'.wld (aj n'.wld (.int .i64 0))):=fun n'=>H9 1 n'.wld (by decide)
 refine kM (by kernel_rfl) (by kernel_rfl) ?_
 repeat(first|go_big_quiet_skip|(go_big_quiet_want;go_big_quiet_op;first|go_big_quiet_on|(apply Exists.intro;refine⟨fun nq=>?_,?_⟩;(go_at_call 139;exact jW (lF.out _));go_big_quiet_on)))
 refine wpQuiet_nil ?_
 intro wq hnq
 obtain⟨nq,rfl⟩:=hnq
 have hq:=nq.bel
 generalize nq.wld=wq at hq⊢
 clear nq
 have hf3:=HF2.out.below hq HF2.out.lt
 have f1:=hf3.cell 1
 have f2:=hf3.cell 2
 have f3:=hf3.cell 3
 have hlf:=hf3.lt
 simp at f1 f2 f3
 have HB3:=ah (bb HB2.out hq)
 have JM:b<wq.heap.size:=aQ hlt HB3.out.size
 clear hf3 hq n1 lF HF2 HB2
 rcases VO (u:=1) (by decide) ty n s with⟨hyb,hq⟩|⟨⟨hyb,hy1⟩,⟨hnb,hq⟩|⟨hnb,hn,hty⟩⟩
 iterate 2
  ·have HQ:=ah hq
   clear hq;go_wp2_with fail;go_ret;exact nG.bad (dX.below HB3.out) HQ.out (by decide)
 by_cases hn1:n=1
 ·have hnc:((n:Int)==1)=true:=by rw[bF];omega
  have hq:ig 1 ty n s=(.flag true,0):=by unfold ig;simp[hty,hn1]
  have HQ:=ah hq;clear hq hty hn hn1;have oI:=oh.out.below HB3.out;have hcc:=oI.at_.cell hi;have rD:=oI.at_.free (fP i);rw[← qQ.out]at hcc rD;clear oI;go_wp2_with fail;go_ret;exact oh.out.store hi HB3.out (.flag true) dv tv hu.symm (.inr rfl) (.inr rfl) (fun _ h=>by cases h) (fun _ h=>by cases h) HQ.out _ rfl qQ.out
 ·have hnc:((n:Int)==1)=false:=by rw[aB];omega
  have hq:(ig 1 ty n s).2=18:=by unfold ig;simp[hty,hn,hn1]
  clear hty hn hn1;have HQ:=ah hq;clear hq;go_wp2_with fail;go_ret;exact nG.bad (dX.below HB3.out) HQ.out (by decide)
theorem amD(B:Nat)(wc:World)(b:Nat)(m:Mp)(dv tv rv:Value)(i:Nat)(t:Nat)(ty:Int)(n:Nat)(s:List UInt8)(fA:Option Addr)(fn fc:Nat)(w:World)(hi:i<22)(hu:gy i=2)(hin:nG B wc w b m dv tv rv)(h64:In64 n) :
 Calls prog 83 #[.pointer (some ⟨b,0,none⟩),.string (txt (dW i)),.agg #[.int .u64 (t:Int),.int .i64 ty,.int .u64 (n:Int),.string (txt s),.slice fA fn fc]] w (zT B w b m i rv (ig 2 ty n s)):=by
 have YD:=ah (fun x=>YT n x h64)
 clear h64
 have hp:∀b,gW b i=.iface (eY 2) (.pointer (some ⟨b,fP i,none⟩)):=fun b=>by rw[gW,hu]
 have gG:=ah (fun x=>qF b x i hi)
 simp only[hp]at gG
 have oC:Hid (∀x,Calls prog 138 #[.iface (eY 2) (.pointer (some ⟨b,fP i,none⟩))] x (aj x (.tuple #[.int .i64 2,.bool true]))):=fun x=>anw (.pointer (some ⟨b,fP i,none⟩)) x
 obtain⟨iY,fU⟩:=EN w 47 #[.int .u64 (t:Int),.int .i64 ty,.int .u64 (n:Int),.string (txt s),.slice fA fn fc]
 have oh:=ah hin
 obtain⟨N,hN⟩:∃N,N=txt (dW i):=⟨_,rfl⟩
 rw[← hN]at gG⊢
 have hlt:=hin.at_.lt
 obtain⟨ci,hci⟩:∃ci,ci=fP i:=⟨_,rfl⟩
 rw[← hci]at gG oC
 have qQ:=ah hci
 clear hp hN hin hci
 have y2:=jO 2
 have n0:=Ja
 have n1:=Jb
 simp only[eY]at *
 go_enter func83,ntmps83
 go_wp2_with fail
 generalize w.alloc (.cells #[.int .u64 (t:Int),.int .i64 ty,.int .u64 (n:Int),.string (txt s),.slice fA fn fc] 47)=wf at iY fU⊢
 refine(gG.out _).mono ?_
 rintro e w1 ⟨rfl,hb1⟩
 have lV:=ah (iY.out.below hb1 iY.out.lt)
 have HB1:=ah (bb fU.out hb1)
 clear hb1 gG iY fU
 go_wp2_with fail
 refine(oC.out _).mono ?_
 rintro e w2 ⟨rfl,hb2⟩
 have HF2:=ah (lV.out.below hb2 lV.out.lt)
 have HB2:=ah (bb HB1.out hb2)
 clear hb2 oC lV HB1
 go_wp2_with fail
 have n1:∀n':fV w2,n'.wld.cell? ⟨w.heap.size,1,none⟩=some (.int .i64 ty):=fun n'=>(HF2.out.below n'.bel HF2.out.lt).cell 1
 have lF:Hid (∀n':fV w2,Calls prog 139 #[.int .i64 2] n'.wld (aj n'.wld (.int .i64 0))):=fun n'=>H9 2 n'.wld (by decide)
 refine kM (by kernel_rfl) (by kernel_rfl) ?_
 repeat(first|go_big_quiet_skip|(go_big_quiet_want;go_big_quiet_op;first|go_big_quiet_on|(apply Exists.intro;refine⟨fun nq=>?_,?_⟩;(go_at_call 139;exact jW (lF.out _));go_big_quiet_on)))
 refine wpQuiet_nil ?_
 intro wq hnq
 obtain⟨nq,rfl⟩:=hnq
 have hq:=nq.bel
 generalize nq.wld=wq at hq⊢
 clear nq
 have hf3:=HF2.out.below hq HF2.out.lt
 have f1:=hf3.cell 1
 have f2:=hf3.cell 2
 have f3:=hf3.cell 3
 have hlf:=hf3.lt
 simp at f1 f2 f3
 have HB3:=ah (bb HB2.out hq)
 have JM:b<wq.heap.size:=aQ hlt HB3.out.size
 clear hf3 hq n1 lF HF2 HB2
 rcases VO (u:=2) (by decide) ty n s with⟨hyb,hq⟩|⟨⟨hyb,hy1⟩,⟨hnb,hq⟩|⟨hnb,hn,hty⟩⟩
 iterate 2
  ·have HQ:=ah hq
   clear hq;go_wp2_with fail;go_ret;exact nG.bad (dX.below HB3.out) HQ.out (by decide)
 have hq:ig 2 ty n s=(.qG (uj n),0):=by unfold ig;simp[hty,hn]
 have HQ:=ah hq
 clear hq hty hn
 go_wp2_with fail
 refine(YD.out _).mono ?_
 rintro e w4 ⟨rfl,hb4⟩
 have HB4:=ah (bb HB3.out hb4)
 clear hb4 YD
 have oI:=oh.out.below HB4.out
 have hcc:=oI.at_.cell hi
 have rD:=oI.at_.free (fP i)
 rw[← qQ.out]at hcc rD
 clear oI
 have hlt4:b<w4.heap.size:=aQ hlt HB4.out.size
 generalize uj n=Z at *
 go_wp2_with fail
 go_ret
 exact oh.out.store hi HB4.out (.qG Z) dv tv hu.symm (.inr rfl) (.inr rfl) (fun _ h=>by cases h) (fun _ h=>by cases h) HQ.out _ rfl qQ.out
theorem amE(B:Nat)(wc:World)(b:Nat)(m:Mp)(dv tv rv:Value)(i:Nat)(t:Nat)(ty:Int)(n:Nat)(s:List UInt8)(fA:Option Addr)(fn fc:Nat)(w:World)(hi:i<22)(hu:gy i=3)(hin:nG B wc w b m dv tv rv)(hsl:s.length≤9223372036854775807)(hT:Tabs w) :
 Calls prog 83 #[.pointer (some ⟨b,0,none⟩),.string (txt (dW i)),.agg #[.int .u64 (t:Int),.int .i64 ty,.int .u64 (n:Int),.string (txt s),.slice fA fn fc]] w (zT B w b m i rv (ig 3 ty n s)):=by
 have HT:=ah hT
 have HU:Hid (∀x,Below w.heap.size w x→Calls prog 141 #[.string (txt s),.int .i64 0,.int .i64 256] x (aj x (.int .i64 (jJ s 0 256)))):=fun x hx=>by
  have:=PV (txt s) 0 256 x (by simpa[txt,ByteArray.size]using hsl) (HT.out.below hx);simpa[txt]using this
 clear hT hsl
 have hp:∀b,gW b i=.iface (eY 3) (.pointer (some ⟨b,fP i,none⟩)):=fun b=>by rw[gW,hu]
 have gG:=ah (fun x=>qF b x i hi)
 simp only[hp]at gG
 have oC:Hid (∀x,Calls prog 138 #[.iface (eY 3) (.pointer (some ⟨b,fP i,none⟩))] x (aj x (.tuple #[.int .i64 3,.bool true]))):=fun x=>anx (.pointer (some ⟨b,fP i,none⟩)) x
 obtain⟨iY,fU⟩:=EN w 47 #[.int .u64 (t:Int),.int .i64 ty,.int .u64 (n:Int),.string (txt s),.slice fA fn fc]
 have oh:=ah hin
 obtain⟨N,hN⟩:∃N,N=txt (dW i):=⟨_,rfl⟩
 rw[← hN]at gG⊢
 have hlt:=hin.at_.lt
 obtain⟨ci,hci⟩:∃ci,ci=fP i:=⟨_,rfl⟩
 rw[← hci]at gG oC
 have qQ:=ah hci
 clear hp hN hin hci
 have y3:=jO 3
 have n0:=Jc
 have n1:=Jd
 have n2:=Je
 simp only[eY]at *
 go_enter func83,ntmps83
 go_wp2_with fail
 generalize w.alloc (.cells #[.int .u64 (t:Int),.int .i64 ty,.int .u64 (n:Int),.string (txt s),.slice fA fn fc] 47)=wf at iY fU⊢
 refine(gG.out _).mono ?_
 rintro e w1 ⟨rfl,hb1⟩
 have lV:=ah (iY.out.below hb1 iY.out.lt)
 have HB1:=ah (bb fU.out hb1)
 clear hb1 gG iY fU
 go_wp2_with fail
 refine(oC.out _).mono ?_
 rintro e w2 ⟨rfl,hb2⟩
 have HF2:=ah (lV.out.below hb2 lV.out.lt)
 have HB2:=ah (bb HB1.out hb2)
 clear hb2 oC lV HB1
 go_wp2_with fail
 have n1:∀n':fV w2,n'.wld.cell? ⟨w.heap.size,1,none⟩=some (.int .i64 ty):=fun n'=>(HF2.out.below n'.bel HF2.out.lt).cell 1
 have lF:Hid (∀n':fV w2,Calls prog 139 #[.int .i64 3] n'.wld (aj n'.wld (.int .i64 1))):=fun n'=>H9 3 n'.wld (by decide)
 refine kM (by kernel_rfl) (by kernel_rfl) ?_
 repeat(first|go_big_quiet_skip|(go_big_quiet_want;go_big_quiet_op;first|go_big_quiet_on|(apply Exists.intro;refine⟨fun nq=>?_,?_⟩;(go_at_call 139;exact jW (lF.out _));go_big_quiet_on)))
 refine wpQuiet_nil ?_
 intro wq hnq
 obtain⟨nq,rfl⟩:=hnq
 have hq:=nq.bel
 generalize nq.wld=wq at hq⊢
 clear nq
 have hf3:=HF2.out.below hq HF2.out.lt
 have f1:=hf3.cell 1
 have f2:=hf3.cell 2
 have f3:=hf3.cell 3
 have hlf:=hf3.lt
 simp at f1 f2 f3
 have HB3:=ah (bb HB2.out hq)
 have JM:b<wq.heap.size:=aQ hlt HB3.out.size
 clear hf3 hq n1 lF HF2 HB2
 rcases VP (u:=3) (by decide) ty n s with⟨hyb,hq⟩|⟨⟨hyb,hy1⟩,⟨hnb,hq⟩|⟨hnb,hn,hty⟩⟩
 iterate 2
  ·have HQ:=ah hq
   clear hq;go_wp2_with fail;go_ret;exact nG.bad (dX.below HB3.out) HQ.out (by decide)
 have hq:ig 3 ty n s=if jJ s 0 256≠0 then(.num 0,jJ s 0 256)else(.word s,0):=by unfold ig;simp[hty,hn]
 have HQ:=ah hq
 clear hq hty hn
 generalize jJ s 0 256=K at *
 go_wp2_with fail
 refine(HU.out _ HB3.out).mono ?_
 rintro e w4 ⟨rfl,hb4⟩
 have hf4:w4.cell? ⟨w.heap.size,3,none⟩=some (.string (txt s)):=(hb4.cell (p:=⟨w.heap.size,3,none⟩) hlf).trans f3
 have aoJ:w.heap.size<w4.heap.size:=aQ hlf hb4.size
 have HB4:=ah (bb HB3.out hb4)
 clear hb4 HU f1 f2 f3 hlf
 have oI:=oh.out.below HB4.out
 have hcc:=oI.at_.cell hi
 have rD:=oI.at_.free (fP i)
 rw[← qQ.out]at hcc rD
 clear oI
 have hlt4:b<w4.heap.size:=aQ hlt HB4.out.size
 go_wp2_with fail
 go_ret
 have hq:=HQ.out
 by_cases hK:K=0
 ·subst hK
  rw[ay (by simp)]at hq;exact oh.out.store hi HB4.out (.word s) dv tv hu.symm (.inr rfl) (.inr rfl) (fun _ h=>by cases h) (fun _ h=>by cases h) hq _ rfl qQ.out
 ·rw[aA hK]at hq
  exact nG.bad (((show dX (fun j=>j=b) w w4 from dX.below HB4.out)).put (p:=⟨b,ci,none⟩) (fun _=>rfl) _) (by rw[hq]) hK
theorem amF(B:Nat)(wc:World)(b:Nat)(m:Mp)(dv tv rv:Value)(i:Nat)(t:Nat)(ty:Int)(n:Nat)(s:List UInt8)(fA:Option Addr)(fn fc:Nat)(w:World)(hi:i<22)(hu:gy i=4)(hin:nG B wc w b m dv tv rv)(hsl:s.length≤9223372036854775807)(hT:Tabs w) :
 Calls prog 83 #[.pointer (some ⟨b,0,none⟩),.string (txt (dW i)),.agg #[.int .u64 (t:Int),.int .i64 ty,.int .u64 (n:Int),.string (txt s),.slice fA fn fc]] w (zT B w b m i rv (ig 4 ty n s)):=by
 have HT:=ah hT
 have HU:Hid (∀x,Below w.heap.size w x→Calls prog 142 #[.string (txt s)] x fun e w'=>∃v,e=.returned (.tuple #[v,.int .i64 (mM dV s).2])∧yN x.heap.size w' v (mM dV s).1∧Below x.heap.size x w'):=fun x hx=>by
  exact Zy (txt s) x (HT.out.below hx) (by simpa[txt,ByteArray.size]using hsl)
 clear hT hsl
 have hp:∀b,gW b i=.iface (eY 4) (.pointer (some ⟨b,fP i,none⟩)):=fun b=>by rw[gW,hu]
 have gG:=ah (fun x=>qF b x i hi)
 simp only[hp]at gG
 have oC:Hid (∀x,Calls prog 138 #[.iface (eY 4) (.pointer (some ⟨b,fP i,none⟩))] x (aj x (.tuple #[.int .i64 4,.bool true]))):=fun x=>anz (.pointer (some ⟨b,fP i,none⟩)) x
 obtain⟨iY,fU⟩:=EN w 47 #[.int .u64 (t:Int),.int .i64 ty,.int .u64 (n:Int),.string (txt s),.slice fA fn fc]
 have oh:=ah hin
 obtain⟨N,hN⟩:∃N,N=txt (dW i):=⟨_,rfl⟩
 rw[← hN]at gG⊢
 have hlt:=hin.at_.lt
 obtain⟨ci,hci⟩:∃ci,ci=fP i:=⟨_,rfl⟩
 rw[← hci]at gG oC
 have qQ:=ah hci
 clear hp hN hin hci
 have y4:=jO 4
 have n0:=F9
 have n1:=Gf
 have n2:=Gg
 have n3:=DV
 simp only[eY]at *
 go_enter func83,ntmps83
 go_wp2_with fail
 generalize w.alloc (.cells #[.int .u64 (t:Int),.int .i64 ty,.int .u64 (n:Int),.string (txt s),.slice fA fn fc] 47)=wf at iY fU⊢
 refine(gG.out _).mono ?_
 rintro e w1 ⟨rfl,hb1⟩
 have lV:=ah (iY.out.below hb1 iY.out.lt)
 have HB1:=ah (bb fU.out hb1)
 clear hb1 gG iY fU
 go_wp2_with fail
 refine(oC.out _).mono ?_
 rintro e w2 ⟨rfl,hb2⟩
 have HF2:=ah (lV.out.below hb2 lV.out.lt)
 have HB2:=ah (bb HB1.out hb2)
 clear hb2 oC lV HB1
 go_wp2_with fail
 have n1:∀n':fV w2,n'.wld.cell? ⟨w.heap.size,1,none⟩=some (.int .i64 ty):=fun n'=>(HF2.out.below n'.bel HF2.out.lt).cell 1
 have lF:Hid (∀n':fV w2,Calls prog 139 #[.int .i64 4] n'.wld (aj n'.wld (.int .i64 1))):=fun n'=>H9 4 n'.wld (by decide)
 refine kM (by kernel_rfl) (by kernel_rfl) ?_
 repeat(first|go_big_quiet_skip|(go_big_quiet_want;go_big_quiet_op;first|go_big_quiet_on|(apply Exists.intro;refine⟨fun nq=>?_,?_⟩;(go_at_call 139;exact jW (lF.out _));go_big_quiet_on)))
 refine wpQuiet_nil ?_
 intro wq hnq
 obtain⟨nq,rfl⟩:=hnq
 have hq:=nq.bel
 generalize nq.wld=wq at hq⊢
 clear nq
 have hf3:=HF2.out.below hq HF2.out.lt
 have f1:=hf3.cell 1
 have f2:=hf3.cell 2
 have f3:=hf3.cell 3
 have hlf:=hf3.lt
 simp at f1 f2 f3
 have HB3:=ah (bb HB2.out hq)
 have JM:b<wq.heap.size:=aQ hlt HB3.out.size
 clear hf3 hq n1 lF HF2 HB2
 rcases VP (u:=4) (by decide) ty n s with⟨hyb,hq⟩|⟨⟨hyb,hy1⟩,⟨hnb,hq⟩|⟨hnb,hn,hty⟩⟩
 iterate 2
  ·have HQ:=ah hq
   clear hq;go_wp2_with fail;go_ret;exact nG.bad (dX.below HB3.out) HQ.out (by decide)
 have hq:ig 4 ty n s=if(mM dV s).2≠0 then(.num 0,(mM dV s).2)else(.of (mM dV s).1,0):=by unfold ig;simp[hty,hn]
 have HQ:=ah hq
 clear hq hty hn
 generalize(mM dV s).2=K at *
 generalize(mM dV s).1=D at *
 go_wp2_with fail
 refine(HU.out _ HB3.out).mono ?_
 rintro e w4 ⟨v4,rfl,⟨A4,c4,rfl,rX,hc4,aa5⟩,hb4⟩
 have IJ:Hid (yN wq.heap.size w4 (.slice A4 D.length c4) D):=⟨A4,c4,rfl,rX,hc4,aa5⟩
 have HB4:=ah (bb HB3.out hb4)
 clear hb4 HU f1 f2 f3 hlf rX hc4 aa5
 have oI:=oh.out.below HB4.out
 have hcc:=oI.at_.cell hi
 have rD:=oI.at_.free (fP i)
 rw[← qQ.out]at hcc rD
 clear oI
 have hlt4:b<w4.heap.size:=aQ hlt HB4.out.size
 generalize hDL:D.length=DL at *
 go_wp2_with fail
 go_ret
 have hq:=HQ.out
 by_cases hK:K=0
 ·subst hK
  rw[ay (by simp)]at hq;refine oh.out.store hi HB4.out (.of D) (.slice A4 DL c4) tv hu.symm (.inl hu) (.inr rfl) (fun d h=>?_) (fun _ h=>by cases h) hq _ rfl qQ.out;injection h with h;subst h;obtain⟨A',c',g1,g2,g3,g4⟩:=IJ.out;exact⟨A',c',g1,g2,g3,fun b off e=>aI HB3.out.size (g4 b off e)⟩
 ·rw[aA hK]at hq
  exact nG.bad (((show dX (fun j=>j=b) w w4 from dX.below HB4.out)).put (p:=⟨b,ci,none⟩) (fun _=>rfl) _) (by rw[hq]) hK
theorem amG(B:Nat)(wc:World)(b:Nat)(m:Mp)(dv tv rv:Value)(i:Nat)(t:Nat)(ty:Int)(n:Nat)(s:List UInt8)(fA:Option Addr)(fn fc:Nat)(w:World)(hi:i<22)(hu:gy i=5)(hin:nG B wc w b m dv tv rv)(hsl:s.length≤1000000)(hT:Tabs w) :
 Calls prog 83 #[.pointer (some ⟨b,0,none⟩),.string (txt (dW i)),.agg #[.int .u64 (t:Int),.int .i64 ty,.int .u64 (n:Int),.string (txt s),.slice fA fn fc]] w (zT B w b m i rv (ig 5 ty n s)):=by
 have HT:=ah hT
 have HU:Hid (∀x,Below w.heap.size w x→Calls prog 143 #[.string (txt s)] x fun e w'=>∃v,e=.returned (.tuple #[v,.int .i64 (lN dV s).2])∧l7 x.heap.size w' v (lN dV s).1∧Below x.heap.size x w'):=fun x hx=>by
  exact acG (txt s) x (HT.out.below hx) (by simpa[txt,ByteArray.size]using hsl)
 clear hT hsl
 have hp:∀b,gW b i=.iface (eY 5) (.pointer (some ⟨b,fP i,none⟩)):=fun b=>by rw[gW,hu]
 have gG:=ah (fun x=>qF b x i hi)
 simp only[hp]at gG
 have oC:Hid (∀x,Calls prog 138 #[.iface (eY 5) (.pointer (some ⟨b,fP i,none⟩))] x (aj x (.tuple #[.int .i64 5,.bool true]))):=fun x=>anA (.pointer (some ⟨b,fP i,none⟩)) x
 obtain⟨iY,fU⟩:=EN w 47 #[.int .u64 (t:Int),.int .i64 ty,.int .u64 (n:Int),.string (txt s),.slice fA fn fc]
 have oh:=ah hin
 obtain⟨N,hN⟩:∃N,N=txt (dW i):=⟨_,rfl⟩
 rw[← hN]at gG⊢
 have hlt:=hin.at_.lt
 obtain⟨ci,hci⟩:∃ci,ci=fP i:=⟨_,rfl⟩
 rw[← hci]at gG oC
 have qQ:=ah hci
 clear hp hN hin hci
 have y5:=jO 5
 have n0:=Gh
 have n1:=Gi
 have n2:=Gj
 have n3:=DW
 have n4:=DX
 simp only[eY]at *
 go_enter func83,ntmps83
 go_wp2_with fail
 generalize w.alloc (.cells #[.int .u64 (t:Int),.int .i64 ty,.int .u64 (n:Int),.string (txt s),.slice fA fn fc] 47)=wf at iY fU⊢
 refine(gG.out _).mono ?_
 rintro e w1 ⟨rfl,hb1⟩
 have lV:=ah (iY.out.below hb1 iY.out.lt)
 have HB1:=ah (bb fU.out hb1)
 clear hb1 gG iY fU
 go_wp2_with fail
 refine(oC.out _).mono ?_
 rintro e w2 ⟨rfl,hb2⟩
 have HF2:=ah (lV.out.below hb2 lV.out.lt)
 have HB2:=ah (bb HB1.out hb2)
 clear hb2 oC lV HB1
 go_wp2_with fail
 have n1:∀n':fV w2,n'.wld.cell? ⟨w.heap.size,1,none⟩=some (.int .i64 ty):=fun n'=>(HF2.out.below n'.bel HF2.out.lt).cell 1
 have lF:Hid (∀n':fV w2,Calls prog 139 #[.int .i64 5] n'.wld (aj n'.wld (.int .i64 1))):=fun n'=>H9 5 n'.wld (by decide)
 refine kM (by kernel_rfl) (by kernel_rfl) ?_
 repeat(first|go_big_quiet_skip|(go_big_quiet_want;go_big_quiet_op;first|go_big_quiet_on|(apply Exists.intro;refine⟨fun nq=>?_,?_⟩;(go_at_call 139;exact jW (lF.out _));go_big_quiet_on)))
 refine wpQuiet_nil ?_
 intro wq hnq
 obtain⟨nq,rfl⟩:=hnq
 have hq:=nq.bel
 generalize nq.wld=wq at hq⊢
 clear nq
 have hf3:=HF2.out.below hq HF2.out.lt
 have f1:=hf3.cell 1
 have f2:=hf3.cell 2
 have f3:=hf3.cell 3
 have hlf:=hf3.lt
 simp at f1 f2 f3
 have HB3:=ah (bb HB2.out hq)
 have JM:b<wq.heap.size:=aQ hlt HB3.out.size
 clear hf3 hq n1 lF HF2 HB2
 rcases VP (u:=5) (by decide) ty n s with⟨hyb,hq⟩|⟨⟨hyb,hy1⟩,⟨hnb,hq⟩|⟨hnb,hn,hty⟩⟩
 iterate 2
  ·have HQ:=ah hq
   clear hq;go_wp2_with fail;go_ret;exact nG.bad (dX.below HB3.out) HQ.out (by decide)
 have hq:ig 5 ty n s=if(lN dV s).2≠0 then(.num 0,(lN dV s).2)else if(lN dV s).1=[]then(.num 0,17)else(.rows (lN dV s).1,0):=by unfold ig;simp[hty,hn]
 have HQ:=ah hq
 clear hq hty hn
 generalize(lN dV s).2=K at *
 generalize(lN dV s).1=D at *
 go_wp2_with fail
 refine(HU.out _ HB3.out).mono ?_
 rintro e w4 ⟨v4,rfl,abG,hb4⟩
 have IJ:=ah abG
 obtain⟨l4,A4,c4,rfl,hD4,_,_,_,_⟩:=abG
 have hDl:l4.length=D.length:=by rw[hD4,aY]
 have HB4:=ah (bb HB3.out hb4)
 clear hb4 HU f1 f2 f3 hlf hD4
 have oI:=oh.out.below HB4.out
 have hcc:=oI.at_.cell hi
 have rD:=oI.at_.free (fP i)
 rw[← qQ.out]at hcc rD
 clear oI
 have hlt4:b<w4.heap.size:=aQ hlt HB4.out.size
 have hD0:D=[]↔l4.length=0:=by rw[hDl];exact List.length_eq_zero_iff.symm
 have HD0:=ah hD0
 clear hDl hD0
 generalize l4.length=DL at *
 by_cases hK:K=0
 ·subst hK
  by_cases h0:DL=0
  ·subst h0
   go_wp2_with fail;go_ret;have hq:=HQ.out;rw[ay (by simp),aA (HD0.out.2 (by simp))]at hq;exact nG.bad (((show dX (fun j=>j=b) w w4 from dX.below HB4.out)).put (p:=⟨b,ci,none⟩) (fun _=>rfl) _) (by rw[hq]) (by decide)
  have h0b:((DL:Int)==0)=false:=by rw[aB];omega
  go_wp2_with fail;go_ret;have hq:=HQ.out;rw[ay (by simp),ay (fun h=>h0 (HD0.out.1 h))]at hq;refine oh.out.store hi HB4.out (.rows D) dv (.slice A4 DL c4) hu.symm (.inr rfl) (.inl hu) (fun _ h=>by cases h) (fun d h=>?_) hq _ rfl qQ.out;injection h with h;subst h;exact IJ.out.mono HB3.out.size
 ·have hKb:(K==0)=false:=by rw[aB];exact hK
  go_wp2_with fail;go_ret;have hq:=HQ.out;rw[aA hK]at hq;exact nG.bad (((show dX (fun j=>j=b) w w4 from dX.below HB4.out)).put (p:=⟨b,ci,none⟩) (fun _=>rfl) _) (by rw[hq]) hK
theorem set_any(B:Nat)(wc:World)(b:Nat)(m:Mp)(dv tv rv:Value)(i:Nat)(t:Nat)(ty:Int)(n:Nat)(s:List UInt8)(fA:Option Addr)(fn fc:Nat)(w:World)(hi:i<22)(hin:nG B wc w b m dv tv rv)(h64:In64 n)(hsl:s.length≤1000000)(hT:Tabs w) :
 Calls prog 83 #[.pointer (some ⟨b,0,none⟩),.string (txt (dW i)),.agg #[.int .u64 (t:Int),.int .i64 ty,.int .u64 (n:Int),.string (txt s),.slice fA fn fc]] w (zT B w b m i rv (ig (gy i) ty n s)):=by
 have h5:gy i=0∨gy i=1∨gy i=2∨gy i=3∨gy i=4∨gy i=5:=by
  revert i;intro i hi;revert i;refine kD ?_ ?_ ?_ ?_ ?_ ?_ ?_ ?_ ?_ ?_ ?_ ?_ ?_ ?_ ?_ ?_ ?_ ?_ ?_ ?_ ?_ ?_<;>simp[gy]
 rcases h5 with hu|hu|hu|hu|hu|hu<;>rw[hu]
 ·exact amB B wc b m dv tv rv i t ty n s fA fn fc w hi hu hin trivial
 ·exact amC B wc b m dv tv rv i t ty n s fA fn fc w hi hu hin trivial
 ·exact amD B wc b m dv tv rv i t ty n s fA fn fc w hi hu hin h64
 ·exact amE B wc b m dv tv rv i t ty n s fA fn fc w hi hu hin (by omega) hT
 ·exact amF B wc b m dv tv rv i t ty n s fA fn fc w hi hu hin (by omega) hT
 ·exact amG B wc b m dv tv rv i t ty n s fA fn fc w hi hu hin hsl hT
end Go.Proofs.YtgidfnhfgiehjaaGreatDoor
namespace Go.Proofs.YtgidfnhfgiehjaaGreatDoor
open Go.PM Go.RowKit Go.Proofs.Tryz
theorem acI:∀(n:Nat) (o:Option (List UInt8)) (s:List UInt8),(jI dV n o s).2.2=0→∀x∈(jI dV n o s).1,x.2<18446744073709551616
 |0,o,s,_,x,hx=>by simp[jI]at hx
 |n+1,o,s,h,x,hx=>by
   rw[jI]at h hx;split at h
   ·rename_i k;exact aJ h k
   rename_i k1;rw[ay k1]at hx;split at h
   ·rename_i k;exact aJ h k
   rename_i k2;rw[ay k2]at hx;split at h
   ·rename_i k;exact aJ h k
   rename_i k3;rw[ay k3]at hx;simp only at hx;rcases bC.1 hx with rfl|hx
   ·exact(Vw (chk:=dV) (by simpa using k2)).2.2.2.2
   exact acI n _ _ (by simpa using k3) x hx
theorem akw{s:List UInt8}(h:(lN dV s).2=0):∀x∈(lN dV s).1,x.2<18446744073709551616:=fun x hx=>by
 unfold lN at h hx;split at h
 ·rename_i k;exact aJ h k
 rename_i k1;rw[ay k1]at hx;split at h
 ·exact aJ h (by decide)
 rename_i k2;rw[ay k2]at hx;simp only at hx;have k1':(oJ dV s).2.2=0:=by simpa using k1
 unfold oJ at k1' hx;split at k1'
 ·rename_i k;simp at k1';exact aJ k1' k
 rename_i k3;rw[ay k3]at hx;split at k1'
 ·exact aJ k1' (by decide)
 rename_i k4;rw[ay k4]at hx;split at k1'
 ·rename_i k;exact aJ k1' k
 rename_i k5;rw[ay k5]at hx;exact acI _ _ _ (by simpa using k5) x hx
theorem amI{use:Nat}{ty:Int}{n:Nat}{s:List UInt8}(hn:n<18446744073709551616)(h:(ig use ty n s).2=0):(ig use ty n s).1.good:=by
 unfold ig at h⊢;by_cases h2:use≤2
 ·simp only[aA h2]at h⊢
  by_cases ht:ty≠0
  ·simp only[aA ht]at h;exact aJ h (by decide)
  simp only[ay ht]at h⊢;by_cases hn0:n=0
  ·simp only[aA hn0]at h;exact aJ h (by decide)
  simp only[ay hn0]at h⊢;by_cases h0:use=0
  ·simp only[aA h0];exact hn
  simp only[ay h0]at h⊢;by_cases h1:use=1
  ·simp only[aA h1]at h⊢
   by_cases hn1:n≠1
   ·simp only[aA hn1]at h;exact aJ h (by decide)
   simp only[ay hn1];trivial
  simp only[ay h1];exact an5 (by unfold In64;exact hn)
 simp only[ay h2]at h⊢;by_cases ht:ty≠1
 ·simp only[aA ht]at h;exact aJ h (by decide)
 simp only[ay ht]at h⊢;by_cases hs:s=[]
 ·simp only[aA hs]at h;exact aJ h (by decide)
 simp only[ay hs]at h⊢;by_cases h3:use=3
 ·simp only[aA h3]at h⊢
  by_cases hu:jJ s 0 256≠0
  ·simp only[aA hu]at h;exact aJ h hu
  simp only[ay hu];trivial
 simp only[ay h3]at h⊢;by_cases h4:use=4
 ·simp only[aA h4]at h⊢
  by_cases hd:(mM dV s).2≠0
  ·simp only[aA hd]at h;exact aJ h hd
  simp only[ay hd];trivial
 simp only[ay h4]at h⊢;by_cases hd:(lN dV s).2≠0
 ·simp only[aA hd]at h;exact aJ h hd
 simp only[ay hd]at h⊢;by_cases he:(lN dV s).1=[]
 ·simp only[aA he]at h;exact aJ h (by decide)
 simp only[ay he];exact akw (by simpa using hd)
structure yL (m:Mp):Prop where
 kind:iK m.kind
 may:∀i,i<22→(m.val i).may=0
 good:∀i,i<22→(m.val i).good
theorem yL.zero(k:Nat)(hk:k≤8):yL { m0 with kind:=(k:Int) } where
 kind:=by unfold iK;show _≤(k:Int)∧(k:Int)≤_;omega
 may:=Va
 good:=ab3
theorem ajJ:∀i,i<22→gy i≤5:=by
 refine kD ?_ ?_ ?_ ?_ ?_ ?_ ?_ ?_ ?_ ?_ ?_ ?_ ?_ ?_ ?_ ?_ ?_ ?_ ?_ ?_ ?_ ?_<;>decide
theorem yL.put{m:Mp}(h:yL m){i:Nat}(hi:i<22){ty:Int}{n:Nat}{s:List UInt8}(hn:n<18446744073709551616)(h0:(ig (gy i) ty n s).2=0):yL (m.put i (ig (gy i) ty n s).1):=by
 obtain⟨g1,g2,g3,_⟩:=ac8 (ajJ i hi) h0;refine⟨by rw[(Mp.Vz m i _).1];exact h.kind,fun j hj=>?_,fun j hj=>?_⟩
 ·rw[Mp.PY m _ i hi g1 j hj]
  split
  ·exact g3
  exact h.may j hj
 rw[Mp.PY m _ i hi g1 j hj];split
 ·exact amI hn h0
 exact h.good j hj
theorem yL.sizes{m:Mp}(h:yL m):m.d.length≤1000000∧(∀r∈m.t,r.1.length≤1000000)∧m.t.length≤100000:=by
 have h1:=Ce (l:=m.t) (h.may 20 (by decide));refine⟨?_,fun r hr=>?_,by omega⟩
 ·rcases Kq (h.may 6 (by decide))with e|e
  ·rw[e];simp
  have:=e.1;omega
 have:=(uH (Pv (PO h1.2 r hr))).2.1;omega
theorem aha{s:List UInt8}(hs:s.length≤65536)(h:(kF s).2=0):(kF s).1.count≤s.length:=by
 have e:kF s=gV s 0 0:=by unfold kF;rw[ay (by omega)]
 rw[e]at h⊢;exact(Nw s.length s 0 0 (au _) (by omega) (by omega) h).2.2
theorem adu:∀{f:Fs} {a w:Nat},kY f a w→∀x∈f.eP,x.text.size≤(eu f).length
 |.nil,_,_,_,x,hx=>by cases hx
 |.cons t y n s i r,a,w,h,x,hx=>by
   rw[Fs.eP]at hx;rcases bC.1 hx with rfl|hx
   ·obtain⟨⟨_,_,_,_,h1⟩,_⟩:=h
    simp only;rcases h1 with⟨_,e,_⟩|⟨e,_⟩|⟨_,_,e,_⟩
    ·rw[e];exact aW _
    ·subst e
     simp only[eu,aC,show¬(1:Int)=0 by decide,if_false,if_true];have:s.data.toList.length=s.size:=(by simp);omega
    rw[e];exact aW _
   have:=adu h.2 x hx;simp only[eu,aC];omega
theorem Vt(tags:List Nat)(yes:Bool):∀f:Fs,(eu (gu tags yes f)).length≤(eu f).length
 |.nil=>au _
 |.cons t y n s i r=>by
   have ih:=Vt tags yes r;rw[gu];split
   ·simp only[eu,aC];omega
   simp only[eu,aC];omega
theorem anh(b:ByteArray):txt b.data.toList=b:=by
 apply ByteArray.ext;simp[txt]
theorem aiW(n:Nat):eH (rZ n:Int)=rZ n:=by
 unfold eH rZ;split<;>split<;>omega
theorem ajG(l:List Sp)(m:Mp)(f:Fl)(r:List Fl):mW l m (f::r)=if(ig (gy (mP l f.tag)) f.ty f.num f.text.data.toList).2≠0 then(m0,(ig (gy (mP l f.tag)) f.ty f.num f.text.data.toList).2)
 else mW l (m.put (mP l f.tag) (ig (gy (mP l f.tag)) f.ty f.num f.text.data.toList).1) r:=rfl
def e18:Mp:={ m0 with kind:=7 }
def vG:Mp:={ m0 with kind:=7,lag:=3 }
def e19:Mp:={ m0 with kind:=7,epoch:=7 }
def e20:Mp:={ m0 with kind:=1,min_:=1,max_:=2,rg:=[101,117] }
def jL:Mp:={ m0 with kind:=1,min_:=1,max_:=2,rest:=.cons 4 1 0 (txt [101,117]) .nil .nil }
theorem agA:iG e18 1=0:=by decide
theorem agB:iG vG 2=26:=by decide
theorem agC:iG vG 3=0:=by decide
theorem aaG{f:Fs}{l:List UInt8}(h1:fM f 0 0=0)(h2:eu f=l)(h3:l.length≤65536):kT f=(l,0):=by
 unfold kT;rw[ay (by rw[h1];simp),h2,ay (by omega)]
theorem ab8{m:Mp}{v:Nat}{F:Fs}{l:List UInt8}(h0:fQ m v=(F,0))(h1:kT F=(l,0))(hk:eH m.kind<128)(hl:l.length≤60000):lK m v=(UInt8.ofNat (eH m.kind)::l,0):=by
 unfold lK;rw[h0];simp only;rw[ay (by simp),h1];simp only;rw[ay (by simp),kL hk,ay (by simp;omega)];rfl
theorem acd{m:Mp}{v:Nat}{F:Fs}(h0:iG m v=0)(h1:jG [mQ m (fJ (eH m.kind) v),m.rest]=(F,0)):fQ m v=(F,0):=by
 unfold fQ;rw[ay (by rw[h0];simp),h1];rfl
def f19:Fs:=.cons 1 0 7 (txt []) .nil .nil
def f20:Fs:=.cons 1 0 1 (txt []) .nil (.cons 2 0 2 (txt []) .nil (.cons 4 1 0 (txt [101,117]) .nil .nil))
theorem ahx:eu f19=[4,7]:=by
 simp only[f19,eu,if_true];rw[kL (by decide),kL (by decide)];rfl
theorem Tq:eu f20=[4,1,8,2,17,2,101,117]:=by
 simp only[f20,eu,if_true,show¬(1:Int)=0 by decide,if_false];rw[kL (by decide),kL (by decide),kL (by decide),kL (by decide),kL (by decide),kL (by decide)];rfl
theorem agE:iG e19 1=0:=by decide
theorem agD:lK e19 1=([7,4,7],0):=ab8 (F:=f19) (l:=[4,7]) (acd agE rfl) (aaG (by decide) ahx (by decide)) (by decide) (by decide)
theorem Vf{m:Mp}:∀{l:List Sp},(∀s∈l,(m.val (six s)).may=0)→iQ m l=0
 |[],_=>rfl
 |a::r,h=>by
   rw[iQ,ay (by rw[h a dw];simp)];exact Vf fun s hs=>h s (dh _ hs)
theorem adB:jJ [101,117] 0 256=0:=by
 unfold jJ;rw[ay (by decide),aA (by rw[sG (by decide)];show jE [117]=true;rw[sG (by decide)];exact ug)]
theorem aiY:fJ 1 2=[⟨1,0,1,dW 13⟩,⟨2,0,1,dW 12⟩,⟨3,3,1,dW 14⟩,⟨4,3,2,dW 17⟩]:=rfl
theorem aiX:fJ 1 1=[⟨1,0,1,dW 13⟩,⟨2,0,1,dW 12⟩,⟨3,3,1,dW 14⟩]:=rfl
theorem agI:iQ e20 (fJ 1 2)=0:=Vf fun s hs=>by
 rw[aiY]at hs;simp only[bC,bW,or_false]at hs;rcases hs with rfl|rfl|rfl|rfl
 ·rfl
 ·rfl
 ·exact Ia
 exact adB
theorem ab7{m:Mp}{v k:Nat}(hk:eH m.kind=k)(h1:iP k≠0)(h2:iP k≤v)(h3:ql m (fJ k v)=false)(h4:iQ m (fJ k v)=0)(h5:m.bounds=0)(h6:fM m.rest 0 0=0)(h7:m.rest.eP.any (fun f=>decide (f.tag∈jc k v))=false):iG m v=0:=by
 unfold iG;rw[hk,ay (by omega),ay (by rw[h3];simp),ay (by rw[h4];simp),ay (by rw[h5];simp),ay (by rw[h6];simp),ay (by rw[h7];simp)]
theorem agG:iG e20 2=0:=ab7 (k:=1) rfl (by decide) (by decide) (by decide) agI (by decide) rfl rfl
theorem agF:lK e20 2=([1,4,1,8,2,17,2,101,117],0):=ab8 (F:=f20) (l:=[4,1,8,2,17,2,101,117]) (acd agG rfl) (aaG (by decide) Tq (by decide)) (by decide) (by decide)
theorem agK:iQ jL (fJ 1 1)=0:=Vf fun s hs=>by
 rw[aiX]at hs;simp only[bC,bW,or_false]at hs;rcases hs with rfl|rfl|rfl
 ·rfl
 ·rfl
 exact Ia
theorem agJ:iG jL 1=0:=ab7 (k:=1) rfl (by decide) (by decide) (by decide) agK (by decide) (by decide) (by decide)
theorem ag0:f20.All mF:=by
 simp only[f20,Fs.All,mF,In64,iK,gI];decide
theorem agL:mW (fJ 1 1) { m0 with kind:=((1:Nat):Int) } (gu (jc 1 1) true f20).eP=({ m0 with kind:=1,min_:=1,max_:=2 },0):=by rfl
theorem agH:vT [1,4,1,8,2,17,2,101,117] 1=(jL,0):=by
 unfold vT;rw[ay (by decide),show dQ [1,4,1,8,2,17,2,101,117]=(1,1,0)by decide];simp only;rw[ay (by simp),ay (by decide)];have h:=aaq ag0 (by decide) (by rw[Tq];decide);rw[Tq]at h;rw[show List.drop 1 [(1:UInt8),4,1,8,2,17,2,101,117]=[4,1,8,2,17,2,101,117]from rfl,h];simp only;rw[ay (by simp)];unfold He;rw[show rZ 1=1 from rfl,agL];simp only;rw[ay (by simp)];have e:({ m0 with kind:=1,min_:=1,max_:=2,rest:=gu (jc 1 1) false f20 }:Mp)=jL:=rfl;rw[e,ay (by rw[agJ];simp)]


