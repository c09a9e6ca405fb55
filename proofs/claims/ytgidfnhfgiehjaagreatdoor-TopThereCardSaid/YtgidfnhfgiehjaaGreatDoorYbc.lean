/-
  Parts of the proof. Conditions: as each names.
-/
import Derived.Test.YtgidfnhfgiehjaaGreatDoorYba
import Derived.Test.YtgidfnhfgiehjaaGreatDoorYaz
import Derived.Test.YtgidfnhfgiehjaaGreatDoorYay
namespace Go.Proofs.YtgidfnhfgiehjaaGreatDoor
open Go.PM Go.RowKit Go.Proofs.Tryz
open Go.Lib (compareBytes)
def Mv.nothing:Mv→Bool
 |.num n=>decide (n=0)
 |.flag b => !b
 |.qG z=>decide (z=0)
 |.word s=>decide (s=[])
 |.of d=>decide (d=[])
 |.rows t=>decide (t=[])
def Mv.field:Mv→Nat×List UInt8
 |.num n=>(n,[])
 |.flag b=>(if b then 1 else 0,[])
 |.qG z=>(nP z,[])
 |.word s=>(0,s)
 |.of d=>(0,if d=[]then[]else eG d)
 |.rows t=>(0,if t=[]then[]else(oV dV t).1)
def Mv.may:Mv→Int
 |.word s=>jJ s 0 256
 |.of d=>if d=[]then 0 else iZ dV d
 |.rows t=>jv dV t
 |_=>0
theorem acv(m:Mp):∀i,i<22→(m.val i).nothing=true→m.val i=m0.val i:=by
 refine kD ?_ ?_ ?_ ?_ ?_ ?_ ?_ ?_ ?_ ?_ ?_ ?_ ?_ ?_ ?_ ?_ ?_ ?_ ?_ ?_ ?_ ?_<;>(intro h;simp only[Mp.val,Mv.nothing,bG,Bool.not_eq_true']at h;simp only[Mp.val];rw[h];rfl)
def ig(use:Nat)(ty:Int)(n:Nat)(s:List UInt8):Mv×Int :=
 if use≤2 then
  if ty≠0 then(.num 0,8)else if n=0 then(.num 0,17)else if use=0 then(.num n,0)else if use=1 then(if n≠1 then(.num 0,18)else(.flag true,0))else(.qG (uj n),0)
 else if ty≠1 then(.num 0,8)else if s=[]then(.num 0,17)
 else if use=3 then(if jJ s 0 256≠0 then(.num 0,jJ s 0 256)else(.word s,0))
 else if use=4 then(if(mM dV s).2≠0 then(.num 0,(mM dV s).2)else(.of (mM dV s).1,0))
 else if(lN dV s).2≠0 then(.num 0,(lN dV s).2)else if(lN dV s).1=[]then(.num 0,17)else(.rows (lN dV s).1,0)
theorem adV{n:Nat}:nP (uj n)=n:=by unfold nP uj;split<;>split<;>omega
theorem an6{z:Int}:uj (nP z)=z:=by unfold nP uj;split<;>split<;>omega
theorem Wv{z:Int}:nP z=0↔z=0:=by unfold nP;split<;>omega
theorem adM(n:Nat):dY n≠[]:=fun h=>by have:=fO n;rw[h]at this;have:=yj n;simp at *;omega
theorem Zt(d:List fD):eG d≠[]:=fun h=>adM _ (List.append_eq_nil_iff.1 h).1
theorem acM(t:List Rw):lQ t≠[]:=fun h=>adM _ (List.append_eq_nil_iff.1 h).1
theorem O9{t:List Rw}(h:jv dV t=0):oV dV t=(lQ t,0):=by unfold oV;rw[ay (by simpa using h)]
theorem ac8{use:Nat}{ty:Int}{n:Nat}{s:List UInt8}(hu:use≤5)(h:(ig use ty n s).2=0) :
 (ig use ty n s).1.use=use∧(ig use ty n s).1.nothing=false∧(ig use ty n s).1.may=0∧ty=(if use≤2 then 0 else 1)∧(use≤2→(ig use ty n s).1.field=(n,[]))∧(3≤use→(ig use ty n s).1.field=(0,s)):=by
 unfold ig at h⊢
 by_cases h2:use≤2
 ·simp only[aA h2]at h⊢
  by_cases ht:ty≠0
  ·simp only[aA ht]at h;exact aJ h (by decide)
  simp only[ay ht]at h⊢;by_cases hn:n=0
  ·simp only[aA hn]at h;exact aJ h (by decide)
  simp only[ay hn]at h⊢;by_cases h0:use=0
  ·simp only[aA h0]
   exact⟨h0.symm,by simp[Mv.nothing,hn],rfl,by simpa using ht,fun _=>rfl,fun h=>aJ h (by omega)⟩
  simp only[ay h0]at h⊢;by_cases h1:use=1
  ·simp only[aA h1]at h⊢
   by_cases hn1:n≠1
   ·simp only[aA hn1]at h;exact aJ h (by decide)
   simp only[ay hn1];have:n=1:=(by omega);subst this;exact⟨h1.symm,rfl,rfl,by simpa using ht,fun _=>rfl,fun h=>aJ h (by omega)⟩
  simp only[ay h1];refine⟨by show 2=use;omega,?_,rfl,by simpa using ht,fun _=>by show(nP (uj n),_)=_;rw[adV],fun h=>aJ h (by omega)⟩;have:uj n≠0:=fun e=>hn (by rw[← adV (n:=n),e];rfl);simp[Mv.nothing,this]
 ·simp only[ay h2]at h⊢
  by_cases ht:ty≠1
  ·simp only[aA ht]at h;exact aJ h (by decide)
  simp only[ay ht]at h⊢;have ht':ty=1:=by simpa using ht
  by_cases hs:s=[]
  ·simp only[aA hs]at h;exact aJ h (by decide)
  simp only[ay hs]at h⊢;by_cases h3:use=3
  ·simp only[aA h3]at h⊢
   by_cases hu:jJ s 0 256≠0
   ·simp only[aA hu]at h;exact aJ h hu
   simp only[ay hu];exact⟨h3.symm,by simp[Mv.nothing,hs],by simpa[Mv.may]using hu,ht',fun h=>aJ h (by omega),fun _=>rfl⟩
  simp only[ay h3]at h⊢;by_cases h4:use=4
  ·simp only[aA h4]at h⊢
   by_cases hd:(mM dV s).2≠0
   ·simp only[aA hd]at h;exact aJ h hd
   simp only[ay hd];obtain⟨e1,e2⟩:=Zz (s:=s) (by simpa using hd);have hne:=(uH e2).2.2;exact⟨h4.symm,by simp[Mv.nothing,hne],by simp[Mv.may,hne,e2],ht',fun h=>aJ h (by omega),fun _=>by simp only[Mv.field];rw[ay hne,← e1]⟩
  simp only[ay h4]at h⊢;by_cases hd:(lN dV s).2≠0
  ·simp only[aA hd]at h;exact aJ h hd
  simp only[ay hd]at h⊢;by_cases he:(lN dV s).1=[]
  ·simp only[aA he]at h;exact aJ h (by decide)
  simp only[ay he];obtain⟨e1,e2⟩:=akx (s:=s) (by simpa using hd);exact⟨by show 5=use;omega,by simp[Mv.nothing,he],by simp[Mv.may,e2],ht',fun h=>aJ h (by omega),fun _=>by simp only[Mv.field];rw[ay he,O9 e2,← e1]⟩
theorem KN{l:List UInt8}{a:Int}(h:jJ l a 256=0):l.length≤256:=by
 unfold jJ at h;split at h
 ·exact aJ h (by decide)
 omega
theorem Nc{d:List fD}(h:iZ dV d=0):∀e∈d,e.1.length≤64∧e.2.length≤256:=by
 have h1:mJ dV none d=0:=by
  unfold iZ at h;split at h
  ·rename_i k;exact aJ h k
  exact h
 intro e he;have h2:=(Jk d).1 (Jl h1) e he;unfold dV at h2;split at h2
 ·rename_i k;exact aJ h2 k
 rename_i k;simp only[ne_eq,Decidable.not_not]at k;refine⟨?_,KN h2⟩;unfold jJ at k;split at k
 ·exact aJ k (by decide)
 omega
theorem af9(d:List fD)(h:∀e∈d,e.1.length≤64∧e.2.length≤256):(iR d).length≤340*d.length:=by
 induction d with
 |nil=>simp[iR]
 |cons e r ih=>
   have h1:=ih fun x hx=>h x (dh _ hx);have h2:=h e dw;have e1:iR (e::r)=jR e.1 e.2++iR r:=(by simp[iR]);rw[e1,aC,ZU,fO,fO,bK];have:=iJ (n:=e.1.length) (by omega);have:=iJ (n:=e.2.length) (by omega);omega
theorem Nj{d:List fD}(h:iZ dV d=0):(eG d).length≤6000:=by
 have h1:=af9 d (Nc h);have h2:=(uH h).2.1;rw[eG,aC,fO];have:=iJ (n:=d.length) (by omega);omega
theorem PO{l:List Rw}:∀{o:Option (List UInt8)},kW dV o l=0→∀x∈l,kJ dV x=0:=by
 induction l with
 |nil=>intro o _ x hx;cases hx
 |cons r m ih=>
   intro o h x hx;unfold kW at h;by_cases h1:kJ dV r≠0
   ·rw[aA h1]at h;exact aJ h h1
   rw[ay h1]at h;by_cases h2:nV o (eG r.1)≠0
   ·rw[aA h2]at h;exact aJ h h2
   rw[ay h2]at h;rcases bC.1 hx with rfl|hx
   ·simpa using h1
   exact ih h x hx
theorem Pv{r:Rw}(h:kJ dV r=0):iZ dV r.1=0:=by
 unfold kJ at h;by_cases hd:iZ dV r.1≠0
 ·rw[aA hd]at h;exact aJ h hd
 simpa using hd
theorem aky{t:List Rw}(h:jv dV t=0)(hn:∀x∈t,x.2<18446744073709551616):lN dV (lQ t)=(t,0):=by
 refine acH h fun x hx=>?_;have h1:=Pv (PO (Ce h).2 x hx);have h2:=Nc h1;have h3:=Nj h1;exact⟨hn x hx,by omega,fun e he=>by have:=h2 e he;omega⟩
theorem agf{d:List fD}(h:iZ dV d=0):mM dV (eG d)=(d,0):=ZA h fun e he=>by have:=Nc h e he;omega
theorem aas{v:Mv}(hm:v.may=0):(v.field=(0,[])↔v.nothing=true):=by
 cases v with
 |num n=>simp[Mv.field,Mv.nothing]
 |flag b=>cases b<;>simp[Mv.field,Mv.nothing]
 |qG z=>simp[Mv.field,Mv.nothing,Wv]
 |word s=>simp[Mv.field,Mv.nothing]
 |of d=>
   by_cases h:d=[]
   ·simp[Mv.field,Mv.nothing,h]
   simp[Mv.field,Mv.nothing,h,Zt]
 |rows t=>
   by_cases h:t=[]
   ·simp[Mv.field,Mv.nothing,h]
   simp only[Mv.may]at hm;simp[Mv.field,Mv.nothing,h,O9 hm,acM]
theorem Td(v:Mv):(v.use≤2→v.field.2=[])∧(3≤v.use→v.field.1=0):=by
 cases v<;>simp[Mv.use,Mv.field]
theorem amH{v:Mv}(hm:v.may=0)(hn:v.nothing=false)(hg:v.good):ig v.use (if v.use≤2 then 0 else 1) v.field.1 v.field.2=(v,0):=by
 cases v with
 |num n=>
   have:n≠0:=(by simpa[Mv.nothing]using hn);simp[ig,Mv.use,Mv.field,this]
 |flag b=>
   have:b=true:=(by simpa[Mv.nothing]using hn);subst this;rfl
 |qG z=>
   have:z≠0:=(by simpa[Mv.nothing]using hn);simp[ig,Mv.use,Mv.field,Wv,this,an6]
 |word s=>
   have:s≠[]:=(by simpa[Mv.nothing]using hn);simp only[Mv.may]at hm;simp[ig,Mv.use,Mv.field,this,hm]
 |of d=>
   have:d≠[]:=(by simpa[Mv.nothing]using hn);simp only[Mv.may,ay this]at hm;simp[ig,Mv.use,Mv.field,this,Zt,agf hm]
 |rows t=>
   have:t≠[]:=(by simpa[Mv.nothing]using hn);simp only[Mv.may]at hm;simp[ig,Mv.use,Mv.field,this,O9 hm,acM,aky hm hg]
end Go.Proofs.YtgidfnhfgiehjaaGreatDoor
namespace Go.Proofs.YtgidfnhfgiehjaaGreatDoor
open Go.PM Go.RowKit Go.Proofs.Tryz
def acu(s:List UInt8):Nat:=tH.findIdx fun x=>decide (x=s)
def six(s:Sp):Nat:=acu s.nm
def DR(l:List Sp):Prop:=l.Pairwise (fun a b=>a.tag<b.tag∧six a≠six b)∧∀s∈l,six s<22∧s.use=gy (six s)∧s.use≤5∧0<s.tag∧s.tag≤5∧s.nm=dW (six s)∧1≤s.from_∧s.from_≤3
theorem adg:∀k,DR (jm k)
 |1=>⟨by decide,by decide⟩
 |2=>⟨by decide,by decide⟩
 |3=>⟨by decide,by decide⟩
 |4=>⟨by decide,by decide⟩
 |5=>⟨by decide,by decide⟩
 |6=>⟨by decide,by decide⟩
 |7=>⟨by decide,by decide⟩
 |8=>⟨by decide,by decide⟩
 |0=>⟨by decide,by decide⟩
 |n+9=>by
   have:jm (n+9)=[]:=rfl;rw[this];exact⟨List.Pairwise.nil,fun s hs=>by cases hs⟩
theorem zh(k v:Nat):DR (fJ k v):=⟨(adg k).1.filter _,fun s hs=>(adg k).2 s (List.mem_filter.1 hs).1⟩
theorem VQ{l:List Sp}(h:DR l):∀a∈l,∀b∈l,(six a=six b∨a.tag=b.tag)→a=b:=by
 have h1:=h.1;clear h;induction l with
 |nil=>intro a ha;cases ha
 |cons x r ih=>
   rw[cu]at h1;intro a ha b hb hab;rcases bC.1 ha with rfl|ha
   ·rcases bC.1 hb with rfl|hb
    ·rfl
    have:=h1.1 b hb;rcases hab with h|h
    ·exact aJ h this.2
    omega
   rcases bC.1 hb with rfl|hb
   ·have:=h1.1 a ‹a∈r›
    rcases hab with h|h
    ·exact aJ h.symm this.2
    omega
   exact ih h1.2 a ha b hb hab
def mP(l:List Sp)(t:Nat):Nat:=match l.find? fun s=>decide (s.tag=t)with|some s=>six s|none=>22
theorem G9{l:List Sp}(h:DR l){s:Sp}(hs:s∈l):mP l s.tag=six s:=by
 unfold mP;split
 ·rename_i a ha
  have h1:=List.find?_some ha;have h2:=List.mem_of_find?_eq_some ha;rw[VQ h a h2 s hs (.inr (by simpa using h1))]
 rename_i ha;exact aJ (List.find?_eq_none.1 ha s hs) (by simp)
theorem Ko{k v t:Nat}:t∈jc k v↔∃s∈fJ k v,s.tag=t:=by unfold jc;exact dL
def iH(m:Mp)(s:Sp):Option Fl:=if(m.val (six s)).field.1=0∧(m.val (six s)).field.2=[]then none else some ⟨s.tag,if s.use≤2 then 0 else 1,(m.val (six s)).field.1,txt (m.val (six s)).field.2,.nil⟩
def mQ(m:Mp)(l:List Sp):Fs:=fB (l.filterMap (iH m))
def Mp.bounds(m:Mp):Int :=
 if m.kind=1 then(if m.min_<1∨m.max_<m.min_∨255<m.max_ then 18 else 0)
 else if m.kind=2 then(if m.chosen<1∨255<m.chosen then 18 else 0)
 else if m.kind=3 then(if m.d=[]then 12 else 0)
 else if m.kind=5 then(if m.epoch<1 then 18 else 0)
 else if m.kind=6 then(if m.base<1 then 18 else if m.epoch≤m.base then 20 else 0)
 else 0
def iQ(m:Mp):List Sp→Int
 |[]=>0
 |s::r=>if(m.val (six s)).may≠0 then(m.val (six s)).may else iQ m r
def ql(m:Mp)(l:List Sp):Bool:=(List.range 22).any fun i => !(l.any fun s=>decide (s.nm=dW i)) && !(m.val i).nothing
def iG(m:Mp)(v:Nat):Int :=
 if iP (eH m.kind)=0∨v<iP (eH m.kind)then 15
 else if ql m (fJ (eH m.kind) v)then 26
 else if iQ m (fJ (eH m.kind) v)≠0 then iQ m (fJ (eH m.kind) v)
 else if m.bounds≠0 then m.bounds
 else if fM m.rest 0 0≠0 then(fM m.rest 0 0:Int)
 else if m.rest.eP.any (fun f=>decide (f.tag∈jc (eH m.kind) v))then 14 else 0
def fQ(m:Mp)(v:Nat):Fs×Int:=if iG m v≠0 then(.nil,iG m v)else((jG [mQ m (fJ (eH m.kind) v),m.rest]).1,((jG [mQ m (fJ (eH m.kind) v),m.rest]).2:Int))
def lK(m:Mp)(v:Nat):List UInt8×Int :=
 if(fQ m v).2≠0 then([],(fQ m v).2)else if(kT (fQ m v).1).2≠0 then([],((kT (fQ m v).1).2:Int))
 else if 65536<(dY (eH m.kind)++(kT (fQ m v).1).1).length then([],4)else(dY (eH m.kind)++(kT (fQ m v).1).1,0)
def mW(l:List Sp):Mp→List Fl→Mp×Int
 |m,[]=>(m,0)
 | m,f :: r => if (ig (gy (mP l f.tag)) f.ty f.num f.text.data.toList).2≠0 then (m0,(ig (gy (mP l f.tag)) f.ty f.num f.text.data.toList).2)
   else mW l (m.put (mP l f.tag) (ig (gy (mP l f.tag)) f.ty f.num f.text.data.toList).1) r
def rZ(n:Nat):Nat:=if n≤8 then n else 0
def He(k:Nat)(l:Fs)(v:Nat):Mp×Int :=
 if(mW (fJ k v) { m0 with kind:=(k:Int) } (gu (jc k v) true l).eP).2≠0 then(m0,(mW (fJ k v) { m0 with kind:=(k:Int) } (gu (jc k v) true l).eP).2)
 else if iG { (mW (fJ k v) { m0 with kind:=(k:Int) } (gu (jc k v) true l).eP).1 with rest:=gu (jc k v) false l } v≠0 then
  (m0,iG { (mW (fJ k v) { m0 with kind:=(k:Int) } (gu (jc k v) true l).eP).1 with rest:=gu (jc k v) false l } v)
 else({ (mW (fJ k v) { m0 with kind:=(k:Int) } (gu (jc k v) true l).eP).1 with rest:=gu (jc k v) false l },0)
def vT(s:List UInt8)(v:Nat):Mp×Int :=
 if 65536<s.length then(m0,4)else if(dQ s).2.2≠0 then(m0,((dQ s).2.2:Int))
 else if iP (rZ (dQ s).1)=0∨v<iP (rZ (dQ s).1)then(m0,15)
 else if(kF (s.drop (dQ s).2.1)).2≠0 then(m0,((kF (s.drop (dQ s).2.1)).2:Int))else He (rZ (dQ s).1) (kF (s.drop (dQ s).2.1)).1 v
theorem EJ{k:Nat}(h:iP k≠0):1≤k∧k≤8∧eH (k:Int)=k:=by
 unfold iP at h;have:1≤k∧k≤8:=by
  split at h
  ·omega
  split at h
  ·assumption
  exact aJ rfl h
 refine⟨this.1,this.2,?_⟩;unfold eH
 rw[aA (by omega)];omega
theorem acV{l m:List Fl}(hl:l.Pairwise fun a b=>a.tag<b.tag)(hm:m.Pairwise fun a b=>a.tag<b.tag)(h:∀x,x∈l↔x∈m):l=m:=by
 refine U2 Fl.tag l m ?_ hl hm;have nd:∀{q:List Fl},q.Pairwise (fun a b=>a.tag<b.tag)→q.Nodup:=fun hq=>hq.imp fun {a b} h e=>by rw[e]at h;omega
 exact(List.perm_ext_iff_of_nodup (nd hl) (nd hm)).2 h
theorem abX(m:Mp){l:List Sp}(h:DR l):(l.filterMap (iH m)).Pairwise fun a b=>a.tag<b.tag:=by
 refine List.Pairwise.filterMap (iH m) (fun a a' h b hb b' hb'=>?_) h.1;unfold iH at hb hb';split at hb
 ·cases hb
 split at hb'
 ·cases hb'
 injection hb with hb;injection hb' with hb';rw[← hb,← hb'];exact h.1
theorem acj{l:List Sp}(h:DR l):∀(F:List Fl) (m:Mp),F.Pairwise (fun a b=>a.tag<b.tag)→(∀f∈F,∃s∈l,s.tag=f.tag)→(mW l m F).2=0→
 (mW l m F).1.kind=m.kind∧(mW l m F).1.rest=m.rest∧(∀i,i<22→(∀f∈F,mP l f.tag≠i)→(mW l m F).1.val i=m.val i)∧
 ∀f∈F,(mW l m F).1.val (mP l f.tag)=(ig (gy (mP l f.tag)) f.ty f.num f.text.data.toList).1∧(ig (gy (mP l f.tag)) f.ty f.num f.text.data.toList).2=0
 |[],m,_,_,_=>⟨rfl,rfl,fun _ _ _=>rfl,fun f hf=>by cases hf⟩
 |f::r,m,hp,ht,h0=>by
   rw[mW]at h0⊢;by_cases hc:(ig (gy (mP l f.tag)) f.ty f.num f.text.data.toList).2≠0
   ·rw[aA hc]at h0;exact aJ h0 hc
   rw[ay hc]at h0⊢;rw[cu]at hp;obtain⟨s,hs,hst⟩:=ht f dw;have hix:mP l f.tag=six s:=(by rw[← hst];exact G9 h hs);obtain⟨s1,s2,s3,_⟩:=h.2 s hs;have hcu:=(ac8 (use:=gy (six s)) (ty:=f.ty) (n:=f.num) (s:=f.text.data.toList) (by rw[← s2];exact s3) (by rw[← hix];simpa using hc)).1;obtain⟨g1,g2,g3,g4⟩:=acj h r _ hp.2 (fun x hx=>ht x (dh _ hx)) h0;have hput:=Mp.PY m (ig (gy (mP l f.tag)) f.ty f.num f.text.data.toList).1 (mP l f.tag) (by rw[hix];exact s1) (by rw[hix];exact hcu);obtain⟨k1,k2⟩:=Mp.Vz m (mP l f.tag) (ig (gy (mP l f.tag)) f.ty f.num f.text.data.toList).1;have hother:∀x∈r,mP l x.tag≠mP l f.tag:=fun x hx e=>by
    obtain⟨s',hs',hst'⟩:=ht x (dh _ hx);have e1:mP l x.tag=six s':=(by rw[← hst'];exact G9 h hs');have e2:=VQ h s' hs' s hs (.inl (by rw[← e1,← hix];exact e));have:=hp.1 x hx;rw[← hst,← hst',e2]at this;omega
   refine⟨g1.trans k1,g2.trans k2,fun i hi hn=>?_,fun x hx=>?_⟩
   ·rw[g3 i hi fun x hx=>hn x (dh _ hx),hput i hi,ay fun e=>hn f dw e.symm]
   rcases bC.1 hx with rfl|hx
   ·refine⟨?_,by simpa using hc⟩
    rw[g3 _ (by rw[hix];exact s1) hother,hput _ (by rw[hix];exact s1),aA rfl]
   exact g4 x hx
theorem acn{l:List Sp}:∀(F:List Fl) (m:Mp),(∀f∈F,(ig (gy (mP l f.tag)) f.ty f.num f.text.data.toList).2=0)→(mW l m F).2=0
 |[],_,_=>rfl
 |f::r,m,h=>by
   rw[mW,ay (by simpa using h f dw)];exact acn r _ fun x hx=>h x (dh _ hx)
theorem EO{m:Mp}:∀{l:List Sp},iQ m l=0→∀s∈l,(m.val (six s)).may=0
 |[],_,s,hs=>by cases hs
 |a::r,h,s,hs=>by
   rw[iQ]at h;by_cases h1:(m.val (six a)).may≠0
   ·rw[aA h1]at h;exact aJ h h1
   rw[ay h1]at h;rcases bC.1 hs with rfl|hs
   ·simpa using h1
   exact EO h s hs
theorem vS{m:Mp}{v:Nat}(h:iG m v=0):iP (eH m.kind)≠0∧iP (eH m.kind)≤v∧ql m (fJ (eH m.kind) v)=false∧iQ m (fJ (eH m.kind) v)=0∧m.bounds=0∧fM m.rest 0 0=0∧
 ∀f∈m.rest.eP,f.tag ∉ jc (eH m.kind) v:=by
 unfold iG at h
 by_cases h1:iP (eH m.kind)=0∨v<iP (eH m.kind)
 ·rw[aA h1]at h;exact aJ h (by decide)
 rw[ay h1]at h
 by_cases h2:ql m (fJ (eH m.kind) v)=true
 ·rw[aA h2]at h;exact aJ h (by decide)
 rw[ay h2]at h
 by_cases h3:iQ m (fJ (eH m.kind) v)≠0
 ·rw[aA h3]at h;exact aJ h h3
 rw[ay h3]at h
 by_cases h4:m.bounds≠0
 ·rw[aA h4]at h;exact aJ h h4
 rw[ay h4]at h
 by_cases h5:fM m.rest 0 0≠0
 ·rw[aA h5]at h;omega
 rw[ay h5]at h
 by_cases h6:m.rest.eP.any (fun f=>decide (f.tag∈jc (eH m.kind) v))=true
 ·rw[aA h6]at h;exact aJ h (by decide)
 refine⟨by omega,by omega,by simpa using h2,by simpa using h3,by simpa using h4,by omega,fun f hf e=>h6 (List.any_eq_true.2 ⟨f,hf,by simpa using e⟩)⟩
theorem ach{m:Mp}{l:List Sp}(hl:DR l)(h:ql m l=false){i:Nat}(hi:i<22)(hn:∀s∈l,six s≠i):(m.val i).nothing=true:=by
 unfold ql at h;have h1:=List.any_eq_false.1 h i (List.mem_range.2 hi);simp only[bT,Bool.not_eq_true',not_and,Bool.not_eq_false]at h1;refine h1 (List.any_eq_false.2 fun s hs=>?_);simp only[bG];intro e;have h2:=(hl.2 s hs).2.2.2.2.2.1;have h3:∀a,a<22→acu (dW a)=a:=by refine kD ?_ ?_ ?_ ?_ ?_ ?_ ?_ ?_ ?_ ?_ ?_ ?_ ?_ ?_ ?_ ?_ ?_ ?_ ?_ ?_ ?_ ?_<;>decide
 exact hn s hs (by unfold six;rw[e];exact h3 i hi)
def Mp.good(m:Mp):Prop:=(∀i,i<22→(m.val i).good)∧m.rest.All mF
theorem tY{m:Mp}{s:Sp}{f:Fl}(h:iH m s=some f):¬((m.val (six s)).field.1=0∧(m.val (six s)).field.2=[])∧f=⟨s.tag,if s.use≤2 then 0 else 1,(m.val (six s)).field.1,txt (m.val (six s)).field.2,.nil⟩:=by
 unfold iH at h;split at h
 ·cases h
 rename_i hn;injection h with h;exact⟨hn,h.symm⟩
theorem aar{v:Mv}:(v.field.1=0∧v.field.2=[])↔v.field=(0,[]):=by
 constructor
 ·intro h;exact Prod.ext h.1 h.2
 intro h;rw[h];exact⟨rfl,rfl⟩
theorem ajC{m:Mp}{v:Nat}(hc:iG m v=0)(hg:m.good){l:Fs}(hl:kY l 0 0)(hp:((mQ m (fJ (eH m.kind) v)).app m.rest).eP.Perm l.eP):He (eH m.kind) l v=(m,0):=by
 obtain⟨c1,c2,c3,c4,c5,c6,c7⟩:=vS hc;have hko:=zh (eH m.kind) v;have hkn:((eH m.kind:Nat):Int)=m.kind:=by
  have h1:1≤m.kind∧m.kind≤8:=by
   refine Classical.byContradiction fun h=>c1 ?_;unfold eH
   rw[ay h];rfl
  unfold eH
  rw[aA h1];omega
 have hr:=(Jh hl).1;have aiz:(gu (jc (eH m.kind) v) true l).eP=(fJ (eH m.kind) v).filterMap (iH m):=by
  refine acV (by rw[Ed];exact hr.filter _) (abX m hko) fun x=>?_;rw[Ed,List.mem_filter,← hp.mem_iff,uX,bZ,mQ,qM];simp only[beq_true,bG];constructor
  ·rintro⟨h|h,ht⟩
   ·exact h
   exact aJ ht (c7 x h)
  intro h;refine⟨.inl h,?_⟩;obtain⟨s,hs,hf⟩:=dJ.1 h;exact Ko.2 ⟨s,hs,by rw[(tY hf).2]⟩
 have hfalse:gu (jc (eH m.kind) v) false l=m.rest:=by
  rw[← qE m.rest,← qE (gu (jc (eH m.kind) v) false l)];refine congrArg fB (acV (by rw[Ed];exact hr.filter _) (Jh ((xP m.rest 0 0 hg.2 (by omega)).1 c6)).1 fun x=>?_);rw[Ed,List.mem_filter,← hp.mem_iff,uX,bZ,mQ,qM];simp only[beq_false,Bool.not_eq_true',bV];constructor
  ·rintro⟨h|h,ht⟩
   ·obtain⟨s,hs,hf⟩:=dJ.1 h
    exact aJ (Ko.2 ⟨s,hs,by rw[(tY hf).2]⟩) ht
   exact h
  intro h;exact⟨.inr h,c7 x h⟩
 have hcode:∀f∈(fJ (eH m.kind) v).filterMap (iH m),∃s∈fJ (eH m.kind) v,s.tag=f.tag∧(ig (gy (mP (fJ (eH m.kind) v) f.tag)) f.ty f.num f.text.data.toList)=(m.val (six s),0):=fun f hf=>by
  obtain⟨s,hs,hsf⟩:=dJ.1 hf;obtain⟨hn,rfl⟩:=tY hsf;obtain⟨s1,s2,s3,_⟩:=hko.2 s hs;refine⟨s,hs,rfl,?_⟩;rw[G9 hko hs];have hm:=EO c4 s hs;have hnn:(m.val (six s)).nothing=false:=by
   cases e:(m.val (six s)).nothing with
   |false=>rfl
   |true=>exact aJ (aar.2 ((aas hm).2 e)) hn
  have:=amH hm hnn (hg.1 _ s1);rw[m.CB,← s2]at this;rw[← s2];exact this
 have hw0:=acn (l:=fJ (eH m.kind) v) ((fJ (eH m.kind) v).filterMap (iH m)) { m0 with kind:=(eH m.kind:Int) } fun f hf=>by
  obtain⟨s,_,_,e⟩:=hcode f hf;rw[e]
 obtain⟨g1,g2,g3,g4⟩:=acj hko _ { m0 with kind:=(eH m.kind:Int) } (abX m hko) (fun f hf=>by
  obtain⟨s,hs,e,_⟩:=hcode f hf;exact⟨s,hs,e⟩) hw0
 have hM:{ (mW (fJ (eH m.kind) v) { m0 with kind:=(eH m.kind:Int) } ((fJ (eH m.kind) v).filterMap (iH m))).1 with rest:=m.rest }=m:=by
  refine Mp.aad (g1.trans hkn) rfl fun i hi=>?_;show(mW (fJ (eH m.kind) v) { m0 with kind:=(eH m.kind:Int) } ((fJ (eH m.kind) v).filterMap (iH m))).1.val i=m.val i;by_cases he:∃f∈(fJ (eH m.kind) v).filterMap (iH m),mP (fJ (eH m.kind) v) f.tag=i
  ·obtain⟨f,hf,e⟩:=he
   obtain⟨s,hs,e1,e2⟩:=hcode f hf;have:=(g4 f hf).1;rw[e2]at this;rw[← e,this,← e1,G9 hko hs]
  rw[g3 i hi fun f hf e=>he ⟨f,hf,e⟩];show m0.val i=m.val i;refine(acv m i hi ?_).symm;by_cases hk:∃s∈fJ (eH m.kind) v,six s=i
  ·obtain⟨s,hs,e⟩:=hk
   rw[← e];refine(aas (EO c4 s hs)).1 (aar.1 (Classical.byContradiction fun hn=>he ⟨⟨s.tag,if s.use≤2 then 0 else 1,(m.val (six s)).field.1,txt (m.val (six s)).field.2,.nil⟩,dJ.2 ⟨s,hs,?_⟩,?_⟩))
   ·unfold iH;rw[ay hn]
   rw[← e];exact G9 hko hs
  exact ach hko c3 hi fun s hs e=>hk ⟨s,hs,e⟩
 unfold He;rw[aiz,hfalse,ay (by simpa using hw0)];rw[hM,ay (by simpa using hc)]
theorem akE{l:List Rw}:∀{a:List UInt8},a.length≤6000→(∀x∈l,kJ dV x=0∧x.2<18446744073709551616)→(jS a l).length≤6030*l.length:=by
 induction l with
 |nil=>intro a _ _;simp[jS]
 |cons r m ih=>
   intro a ha h;obtain⟨h1,h2⟩:=h r dw;have h3:=Nj (Pv h1);have h4:=ih (a:=eG r.1) h3 fun x hx=>h x (dh _ hx);have h5:=(Hl a (eG r.1)).2;rw[jS,aC,aC,bK,je,aC,aC,aN,fO,fO,fO];have:=iJ (n:=iw a (eG r.1)) (by omega);have:=iJ (n:=(eG r.1).length - iw a (eG r.1)) (by omega);have:=iJ h2;omega
theorem Tc{v:Mv}(hm:v.may=0)(hg:v.good):v.field.1<18446744073709551616∧v.field.2.length≤2000000:=by
 cases v with
 |num n=>exact⟨hg,by simp[Mv.field]⟩
 |flag b=>cases b<;>simp[Mv.field]
 |qG z=>exact⟨aob hg,by simp[Mv.field]⟩
 |word s=>
   have:=KN (l:=s) hm;exact⟨by simp[Mv.field],by simp only[Mv.field];omega⟩
 |of d=>
   by_cases h:d=[]
   ·simp[Mv.field,h]
   simp only[Mv.may,ay h]at hm;have:=Nj hm;exact⟨by simp[Mv.field],by simp only[Mv.field,ay h];omega⟩
 |rows t=>
   by_cases h:t=[]
   ·simp[Mv.field,h]
   simp only[Mv.may]at hm;obtain⟨h1,h2⟩:=Ce hm;have h3:=akE (l:=t) (a:=[]) (by simp) fun x hx=>⟨PO h2 x hx,hg x hx⟩;refine⟨by simp[Mv.field],?_⟩;simp only[Mv.field,ay h,O9 hm,lQ,aC,fO];have:=iJ (n:=t.length) (by omega);omega
theorem G8{m:Mp}{k v:Nat}(hm:iQ m (fJ k v)=0)(hg:m.good):(mQ m (fJ k v)).All mF:=by
 rw[mQ,uT];intro x hx;obtain⟨s,hs,hf⟩:=dJ.1 hx;obtain⟨_,rfl⟩:=tY hf;obtain⟨s1,_,_,_,s5,_⟩:=(zh k v).2 s hs;obtain⟨h1,h2⟩:=Tc (EO hm s hs) (hg.1 _ s1);refine⟨⟨by unfold In64;show s.tag<_;omega,?_,h1,?_⟩,trivial⟩
 ·show iK (if s.use≤2 then 0 else 1)
  unfold iK;split<;>omega
 show(txt _).size≤_;rw[gI];omega
theorem OY{m:Mp}{v:Nat}(h:(fQ m v).2=0):iG m v=0∧((mQ m (fJ (eH m.kind) v)).app m.rest).eP.Perm (fQ m v).1.eP∧fM (mQ m (fJ (eH m.kind) v)) 0 0=0:=by
 unfold fQ at h⊢;by_cases hc:iG m v≠0
 ·rw[aA hc]at h;exact aJ h hc
 rw[ay hc]at h⊢;simp only at h⊢;have hc0:iG m v=0:=by simpa using hc
 have hcr:=(vS hc0).2.2.2.2.2.1;have hk0:fM (mQ m (fJ (eH m.kind) v)) 0 0=0:=by
  refine Classical.byContradiction fun hn=>?_;unfold jG at h;rw[mO,aA hn,aA hn]at h;omega
 refine⟨hc0,?_,hk0⟩;rw[aaz hk0 hcr]at h⊢;unfold vI at h⊢;split at h
 ·rename_i hn
  rw[aA hn];simp only[qM];exact(Cb Fl.tag _).symm
 exact aJ h (by decide)
theorem ajx{m:Mp}{v:Nat}(hg:m.good)(h:(lK m v).2=0):iG m v=0∧(lK m v).1.length≤65536∧(fQ m v).2=0∧kY (fQ m v).1 0 0∧(lK m v).1=dY (eH m.kind)++eu (fQ m v).1∧He (eH m.kind) (fQ m v).1 v=(m,0)∧vT (lK m v).1 v=(m,0):=by
 unfold lK at h⊢;by_cases h1:(fQ m v).2≠0
 ·rw[aA h1]at h;exact aJ h h1
 rw[ay h1]at h⊢;by_cases h2:(kT (fQ m v).1).2≠0
 ·rw[aA h2]at h;omega
 rw[ay h2]at h⊢;by_cases h3:65536<(dY (eH m.kind)++(kT (fQ m v).1).1).length
 ·rw[aA h3]at h;exact aJ h (by decide)
 rw[ay h3];obtain⟨f1,f2,f3⟩:=OY (by simpa using h1);obtain⟨c1,c2,c3,c4,c5,c6,c7⟩:=vS f1;have hall:(fQ m v).1.All mF:=by
  rw[← qE (fQ m v).1];refine(Vk f2).1 ?_;rw[uT];intro x hx;rw[uX,bZ]at hx;rcases hx with hx|hx
  ·refine(uT _).1 ?_ x hx
   rw[qE];exact G8 c4 hg
  refine(uT _).1 ?_ x hx;rw[qE];exact hg.2
 have hput:fM (fQ m v).1 0 0=0∧(eu (fQ m v).1).length≤65536∧kT (fQ m v).1=(eu (fQ m v).1,0):=by
  unfold kT at h2⊢;by_cases e1:fM (fQ m v).1 0 0≠0
  ·rw[aA e1]at h2;exact aJ e1 h2
  rw[ay e1]at h2⊢;by_cases e2:65536<(eu (fQ m v).1).length
  ·rw[aA e2]at h2;simp at h2
  rw[ay e2];exact⟨by omega,by omega,rfl⟩
 obtain⟨p1,p2,p3⟩:=hput;have hP:=(xP _ 0 0 hall (by omega)).1 p1;have hread:=ajC f1 hg hP f2;rw[p3]at h3⊢;simp only at h3⊢;obtain⟨k1,k2,k3⟩:=EJ c1;refine⟨f1,by omega,by simpa using h1,hP,trivial,hread,?_⟩;unfold vT;rw[ay h3,wW _ (by omega)];have hk8:rZ (eH m.kind)=eH m.kind:=by unfold rZ;rw[aA k2]
 simp only[hk8];rw[ay (by simp),ay (by omega),← fO,dM,aaq hall p1 p2];simp only;rw[ay (by simp),hread]
end Go.Proofs.YtgidfnhfgiehjaaGreatDoor
namespace Go.Proofs.YtgidfnhfgiehjaaGreatDoor
open Go.PM Go.RowKit Go.Proofs.Tryz
set_option maxRecDepth 100000
set_option maxHeartbeats 4000000
attribute [local go_sem ↓] Go.wp_at_zero Go.wp_at_succ
theorem BZ(w:World)(k:Nat):qw w (jm k) (.returned (.slice (some ⟨w.heap.size,0,none⟩) (jm k).length (jm k).length)) (w.alloc (.cells (lS (jm k)).toArray 198)) :=
 ⟨_,_,rfl,Hq _ _ _,au _,ba b0 _⟩
theorem al6(w:World):Calls prog 157 #[.int .i64 1] w (qw w (jm 1)):=by
 have HE:=ah (BZ w 1);go_enter func157,ntmps157;go_wp2_with fail;go_ret;exact HE.out
theorem al7(w:World):Calls prog 157 #[.int .i64 2] w (qw w (jm 2)):=by
 have HE:=ah (BZ w 2);go_enter func157,ntmps157;go_wp2_with fail;go_ret;exact HE.out
theorem al8(w:World):Calls prog 157 #[.int .i64 3] w (qw w (jm 3)):=by
 have HE:=ah (BZ w 3);go_enter func157,ntmps157;go_wp2_with fail;go_ret;exact HE.out
theorem al9(w:World):Calls prog 157 #[.int .i64 4] w (qw w (jm 4)):=by
 have HE:=ah (BZ w 4);go_enter func157,ntmps157;go_wp2_with fail;go_ret;exact HE.out
theorem ama(w:World):Calls prog 157 #[.int .i64 5] w (qw w (jm 5)):=by
 have HE:=ah (BZ w 5);go_enter func157,ntmps157;go_wp2_with fail;go_ret;exact HE.out
theorem amb(w:World):Calls prog 157 #[.int .i64 6] w (qw w (jm 6)):=by
 have HE:=ah (BZ w 6);go_enter func157,ntmps157;go_wp2_with fail;go_ret;exact HE.out
theorem amc(w:World):Calls prog 157 #[.int .i64 7] w (qw w (jm 7)):=by
 have HE:=ah (BZ w 7);go_enter func157,ntmps157;go_wp2_with fail;go_ret;exact HE.out
theorem amd(w:World):Calls prog 157 #[.int .i64 8] w (qw w (jm 8)):=by
 have HE:=ah (BZ w 8);go_enter func157,ntmps157;go_wp2_with fail;go_ret;exact HE.out
theorem ame(k:Int)(w:World)(h:eH k=0):Calls prog 157 #[.int .i64 k] w (qw w []):=by
 have hn:∀j:Int,1≤j→j≤8→(k==j)=false:=fun j h1 h8=>by
  rw[aB];rintro rfl;unfold eH at h;rw[aA ⟨h1,h8⟩]at h;omega
 have n1:=hn 1 (by decide) (by decide);have n2:=hn 2 (by decide) (by decide);have n3:=hn 3 (by decide) (by decide);have n4:=hn 4 (by decide) (by decide);have n5:=hn 5 (by decide) (by decide);have n6:=hn 6 (by decide) (by decide);have n7:=hn 7 (by decide) (by decide);have n8:=hn 8 (by decide) (by decide);clear hn h;go_enter func157,ntmps157;go_wp2_with fail;go_ret;exact⟨none,0,rfl,.inl rfl,au _,b0⟩
theorem ac0(k:Int)(w:World):Calls prog 157 #[.int .i64 k] w (qw w (jm (eH k))):=by
 by_cases h:eH k=0
 ·rw[h]
  exact ame k w h
 obtain⟨n,hn,h1,h8⟩:∃n:Nat,k=(n:Int)∧1≤n∧n≤8:=by
  unfold eH at h;split at h
  ·exact⟨k.toNat,by omega,by omega,by omega⟩
  exact aJ rfl h
 subst hn;rw[OL h1 h8];clear h
 match n,h1,h8 with
 |1,_,_=>exact al6 w
 |2,_,_=>exact al7 w
 |3,_,_=>exact al8 w
 |4,_,_=>exact al9 w
 |5,_,_=>exact ama w
 |6,_,_=>exact amb w
 |7,_,_=>exact amc w
 |8,_,_=>exact amd w
theorem aiM:(prog.info? 198).map (fun i=>(i.zero,i.size,i.bytes))=some (some P6,4,40):=by kernel_rfl
def MQ(w:World)(l:List Sp)(vv:Value)(wr:World):Prop:=∃A c,vv=.slice A l.length c∧wr.ownsRow w.heap.size 198 4 vv l.length (lS l)∧Below w.heap.size w wr
theorem VH(k:Int)(v:Nat)(w:World)(hv3:v≤3):Calls prog 105 #[.int .i64 k,.int .i64 (v:Int)] w (qw w (fJ (eH k) v)):=by
 obtain⟨i0,hi0,hz0,hz1,hz2⟩:=info_parts aiM;obtain⟨L,hL⟩:∃L,L=jm (eH k):=⟨_,rfl⟩;have hSP:=ac0 k w;rw[← hL]at hSP;have sQ:=ah hSP;have hLl:L.length≤5:=by rw[hL];exact Au _
 have hv2:(v:Int)≤3:=by omega
 have nU:Hid (fJ (eH k) v=L.filter fun s=>decide (s.from_≤v)):=by show _=_;rw[hL];rfl
 clear hL hSP;go_enter func105,ntmps105;go_wp2_with fail;refine sQ.out.mono ?_;rintro e w2 ⟨A0,cc0,rfl,hrd,hc0,hb2⟩;have HB2:=ah hb2;have jq:=ah hrd;clear hrd hb2 sQ;have H0:Hid (MQ w2 ((L.take 0).filter fun s=>decide (s.from_≤v)) (.slice none 0 0) w2):=⟨none,0,rfl,World.ownsRow_nil _ _ _ _,b0⟩;go_wp2_with fail;go_loopg [5,11] L.length (fun gk vv ki wr=>∃j:Nat,j≤L.length∧L.length - j≤gk∧ki=.int .i64 (j:Int)∧Hid (MQ w2 ((L.take j).filter fun s=>decide (s.from_≤v)) vv wr))
 case atStart=>exact⟨0,aW _,by omega,rfl,H0⟩
 case round=>
  obtain⟨j,hj,hgj,rfl,HS⟩:=hrel;obtain⟨A,c,rfl,hown,hbel⟩:=HS.out;by_cases hlt:j<L.length
  ·obtain⟨b,off,iL,hbl,c0,c1,c2,c3⟩:=uU (jq.out.below hbel) hlt
   subst iL;have hst:(L.take (j+1)).filter (fun s=>decide (s.from_≤v))=(L.take j).filter (fun s=>decide (s.from_≤v))++(if L[j].from_≤v then[L[j]]else[]):=by
    rw[← aT hlt,List.filter_append,List.filter_cons,List.filter_nil];by_cases h:L[j].from_≤v<;>simp[h]
   have hln:((L.take j).filter fun s=>decide (s.from_≤v)).length≤5:=aI (List.length_filter_le _ _) (by rw[bD];omega);have HST:=ah hst;generalize L[j]=s at *;generalize(L.take j).filter (fun s=>decide (s.from_≤v))=F at *;have eU:=ba (a:=wr) b0 (.cells #[.int .u64 (s.tag:Int),.int .i64 (s.use:Int),.int .i64 (s.from_:Int),.string (txt s.nm)] 198);have Ac:=ba eU (.cells #[.int .u64 (s.tag:Int),.int .i64 (s.use:Int),.int .i64 (s.from_:Int),.string (txt s.nm)] 198);have Ap:=World.news_of_block (cs:=#[.int .u64 (s.tag:Int),.int .i64 (s.use:Int),.int .i64 (s.from_:Int),.string (txt s.nm)]) (t:=198) (fr:=(0,0)) (heap_alloc_new (wr.alloc (.cells #[.int .u64 (s.tag:Int),.int .i64 (s.use:Int),.int .i64 (s.from_:Int),.string (txt s.nm)] 198)) (.cells #[.int .u64 (s.tag:Int),.int .i64 (s.use:Int),.int .i64 (s.from_:Int),.string (txt s.nm)] 198))
   simp only[World.size_alloc]at Ap;have hw2:=hbel.size;by_cases hf:s.from_≤v
   ·obtain⟨A2,c2',w3,hrun,hown3,hg3⟩:=ac4 (g:=wr.heap.size+1) (d:=1) (s:=s) 196 196 198 i0 underlying196 hi0 hz0 hz1 hz2 (own_below hown Ac) Ap (by omega) (by simp;omega)
    have lC:=ah hrun;have HN:Hid (MQ w2 (F++[s]) (.slice A2 (F++[s]).length c2') w3):=⟨A2,c2',rfl,hown3,(hbel.trans (Ac.mono hw2)).grown hg3 (by simp;omega) fun k hk=>(hown.lt k hk).1⟩;have hfi:(s.from_:Int)≤(v:Int):=(by omega);rw[aA hf]at HST;clear hown hbel hrun hown3 hg3 Ap eU Ac HS H0 hst hln;go_wp2_with(at_builtin;(refine wpList_append_run rfl _ _ _ _ rfl _ _ _ rfl rfl lC.out ?_));go_roundg (L.length - (j+1))
    case measure=>omega
    case rel=>exact⟨j+1,by omega,au _,by go_num,by
     have h:=HN;rw[aC]at h;rw[HST.out];exact h⟩
   have HN:Hid (MQ w2 F (.slice A F.length c) (wr.alloc (.cells #[.int .u64 (s.tag:Int),.int .i64 (s.use:Int),.int .i64 (s.from_:Int),.string (txt s.nm)] 198))):=⟨A,c,rfl,own_below hown eU,hbel.trans (eU.mono hw2)⟩;have hfi:¬(s.from_:Int)≤(v:Int):=(by omega);rw[ay hf,bQ]at HST;clear hown hbel Ap eU Ac HS H0 hst hln;go_wp2_with fail;go_roundg (L.length - (j+1))
   case measure=>omega
   case rel=>exact⟨j+1,by omega,au _,by go_num,by rw[HST.out];exact HN⟩
  obtain rfl:j=L.length:=by omega
  have HE:Hid (qw w (fJ (eH k) v) (.returned (.slice A ((L.take L.length).filter fun s=>decide (s.from_≤v)).length c)) wr):=by
   rw[aU (au _),← nU.out]at hown⊢;obtain⟨A',c',h1,h2,h3,_⟩:=Rd.own hown;injection h1 with e1 _ e3;subst e1 e3;exact⟨_,_,rfl,h2,h3,HB2.out.trans (hbel.mono HB2.out.size)⟩
  clear hown hbel HS H0;generalize((L.take L.length).filter fun s=>decide (s.from_≤v)).length=n at *;go_wp2_with fail;go_ret;exact HE.out
