/-
  Parts of the proof. Conditions: as each names.
-/
import Derived.Test.YtgidfnhfgiehjaaGreatDoorYak
import Derived.Deep.DeepAppendWide
import Derived.Test.YtgidfnhfgiehjaaGreatDoorYaj
import Derived.Test.YtgidfnhfgiehjaaGreatDoorRows
import Derived.Test.YtgidfnhfgiehjaaGreatDoorYah
section
namespace Go.PM
end Go.PM
namespace Go.Proofs.YtgidfnhfgiehjaaGreatDoor
open Go.RowKit Go.PM
set_option maxRecDepth 100000
set_option maxHeartbeats 2000000
attribute [local go_sem ↓] Go.wp_at_zero Go.wp_at_succ
end Go.Proofs.YtgidfnhfgiehjaaGreatDoor
end
section
namespace Go.PM
open Go.RowKit
section
variable {w w':World} {I J:Nat→Prop}
theorem gX.uniq:∀{f g:Fs} {b o:Nat},gX w I f b o→gX w J g b o→f.len=g.len→f=g
 |.nil,.nil,_,_,_,_,_=>rfl
 |.nil,.cons ..,_,_,_,_,h=>by simp[Fs.len]at h
 |.cons ..,.nil,_,_,_,_,h=>by simp[Fs.len]at h
 |.cons t y n s i r,.cons t' y' n' s' i' r',b,o,h,k,hl=>by
   obtain⟨h1,h2,h3,h4,⟨A,c,h5,_,h6⟩,h7⟩:=h;obtain⟨k1,k2,k3,k4,⟨A',c',k5,_,k6⟩,k7⟩:=k;have e1:=h1.symm.trans k1;have e2:=h2.symm.trans k2;have e3:=h3.symm.trans k3;have e4:=h4.symm.trans k4;have e5:=h5.symm.trans k5;simp only[bJ,Value.int.injEq,Value.string.injEq,Value.slice.injEq,true_and,Int.natCast_inj]at e1 e2 e3 e4 e5;obtain⟨rfl,e5,rfl⟩:=e5;have hr:=gX.uniq h7 k7 (by simp only[Fs.len]at hl;omega);have hi:i=i':=by
    rcases h6 with h0|⟨b',o',hA,_,_,h8⟩
    ·have a1:i=.nil:=Fs.jr h0
     have a2:i'=.nil:=Fs.jr (by omega);rw[a1,a2]
    rcases k6 with h0|⟨b2,o2,hA2,_,_,k8⟩
    ·have a1:i=.nil:=Fs.jr (by omega)
     have a2:i'=.nil:=Fs.jr h0;rw[a1,a2]
    rw[hA]at hA2;injection hA2 with hA2;injection hA2 with e6 e7;subst e6 e7;exact gX.uniq h8 k8 e5
   rw[e1,e2,e3,e4,hi,hr]
theorem gX.anew{p:Addr}{A A':Option Addr}{c c':Nat}{j:Fs}(hp:w.cell? p=some (.slice A j.len c))(hj:j.len=0∨∃b o,A=some ⟨b,o,none⟩∧gX w I j b o)
 (hj':j.len≤c'∧(j.len=0∨∃b o,A'=some ⟨b,o,none⟩∧I b∧b<w.heap.size∧gX w I j b o)):∀{f:Fs} {b o:Nat},gX w I f b o→gX (w.setCell p (.slice A' j.len c')) I f b o
 |.nil,_,_,_=>trivial
 |.cons t y n s i r,b,o,h=>by
   obtain⟨h1,h2,h3,h4,⟨B,d,h5,hd,h6⟩,h7⟩:=h;have hs:(w.setCell p (.slice A' j.len c')).heap.size=w.heap.size:=(by simp[World.setCell]);have O5:∀{q:Addr} {v:Value},w.cell? q=some v→(∀A n c,v≠.slice A n c)→(w.setCell p (.slice A' j.len c')).cell? q=some v:=fun {q v} hq hv=>by
    rw[World.cell?_setCell_other _ _ _ _ (by rintro rfl;rw[hp]at hq;injection hq with hq;exact hv _ _ _ hq.symm)];exact hq
   refine⟨O5 h1 (by simp),O5 h2 (by simp),O5 h3 (by simp),O5 h4 (by simp),?_,gX.anew hp hj hj' h7⟩;by_cases e:p=⟨b,o+4,none⟩
   ·have h5':=h5
    rw[← e,hp]at h5';simp only[bJ,Value.slice.injEq]at h5';obtain⟨e1,e2,e3⟩:=h5';have hij:i=j:=by
     rcases h6 with h0|⟨b',o',hA,_,_,h8⟩
     ·rw[Fs.jr h0,Fs.jr (show j.len=0 by omega)]
     rcases hj with h0|⟨b2,o2,hA2,k8⟩
     ·rw[Fs.jr h0,Fs.jr (show i.len=0 by omega)]
     rw[← e1,hA2]at hA;injection hA with hA;injection hA with e6 e7;subst e6 e7;exact gX.uniq h8 k8 e2.symm
    subst hij;refine⟨A',c',?_,hj'.1,?_⟩
    ·rw[← e]
     exact World.cell?_setCell_same _ _ _ hp
    rcases hj'.2 with h0|⟨b',o',hA,hI,hb,h8⟩
    ·exact .inl h0
    exact .inr ⟨b',o',hA,hI,by rw[hs];exact hb,gX.anew hp hj hj' h8⟩
   refine⟨B,d,?_,hd,?_⟩
   ·rw[World.cell?_setCell_other _ _ _ _ e]
    exact h5
   rcases h6 with h0|⟨b',o',hA,hI,hb,h8⟩
   ·exact .inl h0
   exact .inr ⟨b',o',hA,hI,by rw[hs];exact hb,gX.anew hp hj hj' h8⟩
def FB(w:World)(T:TypeId)(k:Nat):Prop:=∃cs,dU w k T cs
theorem FB.lt{T:TypeId}{k:Nat}(h:FB w T k):k<w.heap.size:=by obtain⟨cs,h⟩:=h;exact h.lt
theorem FB.below{T:TypeId}{k:Nat}(h:FB w T k)(hb:Below w.heap.size w w'):FB w' T k:=by obtain⟨cs,h⟩:=h;exact⟨cs,h.below hb h.lt⟩
theorem FB.fE{S:Nat→Prop}{T:TypeId}{k:Nat}(h:FB w T k)(hb:dX S w w')(hk:¬S k):FB w' T k:=by obtain⟨cs,h⟩:=h;exact⟨cs,h.fE hb hk⟩
theorem FB.put{T:TypeId}{k b i:Nat}(h:FB w T k)(u:Value):FB (w.setCell ⟨b,i,none⟩ u) T k:=by
 obtain⟨cs,h⟩:=h;by_cases e:k=b
 ·subst e;exact⟨_,h.put i u⟩
 exact⟨cs,h.far e u⟩
def FZ(w:World)(T:TypeId)(k n:Nat):Prop:=∃cs,dU w k T cs∧cs.size=n
theorem FZ.fb{T:TypeId}{k n:Nat}(h:FZ w T k n):FB w T k:=by obtain⟨cs,h,_⟩:=h;exact⟨cs,h⟩
theorem FZ.below{T:TypeId}{k n:Nat}(h:FZ w T k n)(hb:Below w.heap.size w w'):FZ w' T k n:=by obtain⟨cs,h,hn⟩:=h;exact⟨cs,h.below hb h.lt,hn⟩
theorem FZ.fE{S:Nat→Prop}{T:TypeId}{k n:Nat}(h:FZ w T k n)(hb:dX S w w')(hk:¬S k):FZ w' T k n:=by obtain⟨cs,h,hn⟩:=h;exact⟨cs,h.fE hb hk,hn⟩
theorem FZ.put{T:TypeId}{k b i n:Nat}(h:FZ w T k n)(u:Value):FZ (w.setCell ⟨b,i,none⟩ u) T k n:=by
 obtain⟨cs,h,hn⟩:=h;by_cases e:k=b
 ·subst e;exact⟨_,h.put i u,by simpa using hn⟩
 exact⟨cs,h.far e u,hn⟩
def IC(H:Nat)(T:TypeId)(w:World)(k:Nat):Prop:=k<H∨FB w T k
def CE(H:Nat)(T:TypeId)(w:World)(x:Value)(f:Fs):Prop :=
 ∃A c,x=.slice A f.len c∧f.len≤c∧(f.len=0∧A=none∧c=0∨∃b,A=some ⟨b,0,none⟩∧H≤b∧c≤maxLen∧FZ w T b (c*5)∧gX w (IC H T w) f b 0)
def Rp(H:Nat)(T:TypeId)(w w':World):Prop:=(∀f b o,IC H T w b→gX w (IC H T w) f b o→gX w' (IC H T w') f b o)∧(∀k,FB w T k→FB w' T k)∧(∀k n,FZ w T k n→FZ w' T k n)
theorem Rp.trans{H:Nat}{T:TypeId}{a:World}(h:Rp H T a w)(k:Rp H T w w'):Rp H T a w' :=
 ⟨fun f b o hb hf=>k.1 f b o (hb.imp id (h.2.1 b)) (h.1 f b o hb hf),fun j hj=>k.2.1 j (h.2.1 j hj),fun j n hj=>k.2.2 j n (h.2.2 j n hj)⟩
theorem Rp.below{H:Nat}{T:TypeId}(hH:H≤w.heap.size)(hb:Below w.heap.size w w'):Rp H T w w':=by
 have hI:∀k,IC H T w k→k<w.heap.size:=fun k hk=>by rcases hk with h|h;omega;exact h.lt
 refine⟨fun f b o hb' hf=>(hf.keep hb.size (fun k _ hk=>hb.block k hk) (hb.block b (hI b hb'))).imp fun k hk=>hk.imp id fun h=>h.below hb,fun k hk=>hk.below hb,fun k n hk=>hk.below hb⟩
theorem Rp.fE{H g:Nat}{T:TypeId}(hH:H≤w.heap.size)(hb:dX (fun k=>some g=some k) w w')(hg:H≤g)(hT:¬FB w T g):Rp H T w w':=by
 have hI:∀k,IC H T w k→k<w.heap.size:=fun k hk=>by rcases hk with h|h;omega;exact h.lt
 have hn:∀k,IC H T w k→¬(some g=some k):=fun k hk e=>by
  injection e with e;subst e;rcases hk with h|h
  ·omega
  exact hT h
 refine⟨fun f b o hb' hf=>(hf.keep hb.size (fun k hk hl=>hb.block k hl (hn k hk)) (hb.block b (hI b hb') (hn b hb'))).imp fun k hk=>hk.imp id fun h=>h.fE hb (hn k (.inr h)),fun k hk=>hk.fE hb (hn k (.inr hk)),fun k n hk=>hk.fE hb (hn k (.inr hk.fb))⟩
theorem Rp.anew{H:Nat}{T:TypeId}{b q:Nat}{A A':Option Addr}{c c':Nat}{j:Fs}(hp:w.cell? ⟨b,q,none⟩=some (.slice A j.len c))(hj:j.len=0∨∃b o,A=some ⟨b,o,none⟩∧gX w (IC H T w) j b o)
 (hj':j.len≤c'∧(j.len=0∨∃b o,A'=some ⟨b,o,none⟩∧IC H T w b∧b<w.heap.size∧gX w (IC H T w) j b o)):Rp H T w (w.setCell ⟨b,q,none⟩ (.slice A' j.len c')) :=
 ⟨fun _ _ _ _ hf=>(hf.anew hp hj hj').imp fun _ hk=>hk.imp id fun h=>h.put _,fun _ hk=>hk.put _,fun _ _ hk=>hk.put _⟩
theorem CE.rp{H:Nat}{T:TypeId}{x:Value}{f:Fs}(h:CE H T w x f)(hr:Rp H T w w'):CE H T w' x f:=by
 obtain⟨A,c,hx,hc,h⟩:=h;exact⟨A,c,hx,hc,h.imp id fun⟨b,hA,hH,hm,hb,hf⟩=>⟨b,hA,hH,hm,hr.2.2 b _ hb,hr.1 f b 0 (.inr hb.fb) hf⟩⟩
def CL(H:Nat)(T:TypeId)(w:World)(xs:List Value)(L:List Fs):Prop:=xs.length=L.length∧∀(j:Nat) (x:Value) (f:Fs),xs[j]?=some x→L[j]?=some f→CE H T w x f
theorem CL.rp{H:Nat}{T:TypeId}{xs:List Value}{L:List Fs}(h:CL H T w xs L)(hr:Rp H T w w'):CL H T w' xs L:=⟨h.1,fun j x f hx hf=>(h.2 j x f hx hf).rp hr⟩
theorem CL.nil{H:Nat}{T:TypeId}:CL H T w [] []:=⟨rfl,fun j x f h=>by simp at h⟩
theorem CL.push{H:Nat}{T:TypeId}{xs:List Value}{L:List Fs}{x:Value}{f:Fs}(h:CL H T w xs L)(hx:CE H T w x f):CL H T w (xs++[x]) (L++[f]):=by
 refine⟨by simp[h.1],fun j y g hy hg=>?_⟩;by_cases hj:j<xs.length
 ·rw[List.getElem?_append_left hj]at hy
  rw[List.getElem?_append_left (by rw[← h.1];exact hj)]at hg;exact h.2 j y g hy hg
 rw[List.getElem?_append_right (by omega)]at hy;rw[List.getElem?_append_right (by rw[← h.1];omega),← h.1]at hg;generalize j - xs.length=m at hy hg;cases m with
 |zero=>simp at hy hg;subst hy hg;exact hx
 |succ m=>simp at hy
theorem CL.pop{H:Nat}{T:TypeId}{xs:List Value}{L:List Fs}{n:Nat}(h:CL H T w xs L)(hn:L.length=n+1) :
 ∃L' f x,L=L'++[f]∧L'.length=n∧xs[n]?=some x∧CE H T w x f∧CL H T w (xs.take n) L':=by
 have hx:n<xs.length:=by rw[h.1];omega
 have hL:n<L.length:=by omega
 refine⟨L.take n,L[n],xs[n],?_,by rw[bD];omega,aP hx,h.2 n _ _ (aP hx) (aP hL),?_⟩
 ·have h1:=aT hL
  rw[h1,aU (by omega)]
 ·refine⟨by rw[bD,bD,h.1],fun j y g hy hg=>?_⟩
  rw[List.getElem?_take]at hy hg;by_cases hj:j<n
  ·rw[aA hj]at hy hg
   exact h.2 j y g hy hg
  rw[ay hj]at hy;cases hy
def GP(H g0:Nat)(T:TypeId)(w:World)(xs:List Value)(cur k n:Nat):Prop :=
 ∀b cs,H≤b→dU w b T cs→∀(o:Nat) (A:Addr) (m c:Nat),cs[o]?=some (.slice (some A) m c)→m≠0→g0<A.block∨(∃off m' c',Value.slice (some ⟨b,off,none⟩) m' c'∈xs∧o<5*m')∨(b=cur∧5*k≤o∧o<5*n)
theorem afG{T:TypeId}{f:Fs}{g:Nat}{cs:Array Value}(h:gX w I f g 0)(hb:dU w g T cs):Cls w I (cs.toList.take (f.len*5)) f:=by
 obtain⟨xs,hx,hc⟩:=h.cls;have hl:=hx.length;have e:xs=cs.toList.take (f.len*5):=by
  apply List.ext_getElem?;intro j;by_cases hj:j<xs.length
  ·have h1:=hc j xs[j] (aP hj)
   rw[aX,hb.cell]at h1;rw[aP hj,List.getElem?_take,aA (by omega),bU,h1]
  rw[List.getElem?_eq_none (by omega),List.getElem?_take,ay (by omega)]
 rw[← e];exact hx
theorem GP.out{H g0:Nat}{T:TypeId}(h:GP H g0 T w [] 0 0 0)(hH:H≤g0):∀{f:Fs} {b o:Nat},H≤b→FB w T b→gX w (IC H T w) f b o→gX w (fun k=>g0<k∧FB w T k) f b o
 |.nil,_,_,_,_,_=>trivial
 |.cons t y n s i r,b,o,hb,hF,hf=>by
   obtain⟨h1,h2,h3,h4,⟨A,c,h5,hc,h6⟩,h7⟩:=hf;refine⟨h1,h2,h3,h4,⟨A,c,h5,hc,?_⟩,GP.out h hH hb hF h7⟩;rcases h6 with h0|⟨b',o',hA,hI,hlt,h8⟩
   ·exact .inl h0
   by_cases h0:i.len=0
   ·exact .inl h0
   right
   obtain⟨cs,hcs⟩:=hF;subst hA;have hg:g0<b':=by
    rw[hcs.cell]at h5;rcases h b cs hb hcs (o+4) ⟨b',o',none⟩ i.len c h5 h0 with h|⟨_,_,_,h,_⟩|⟨_,_,h⟩
    ·exact h
    ·simp at h
    omega
   have hF':FB w T b':=by
    rcases hI with h|h
    ·omega
    exact h
   exact⟨b',o',rfl,⟨hg,hF'⟩,hlt,GP.out h hH (by omega) hF' h8⟩
end
end Go.PM
end
namespace Go.PM
open Go.RowKit
def oL:Value:=.agg #[.int .u64 0,.int .i64 0,.int .u64 0,.string ByteArray.empty,.slice none 0 0]
theorem Za{P:Program}(w:World)(t ty e:TypeId)(i:TypeInfo)(ht:P.underlying t=some (.slice e))(hi:P.info? e=some i)(A:Option Addr)(c:Nat) :
 (Builtin.append_ #[t,t] ty #[.slice none 0 0,.slice A 0 c]).run P w=.ok (.slice none 0 0) w:=by
 have h:(Builtin.firstCells i.size 0 (.slice A 0 c)).run P w=.ok #[] w:=by
  cases A with
  |none=>exact run_firstCells_none w i.size 0 0 c
  |some a=>exact run_firstCells_some w i.size 0 a 0 c [] (by simp) (fun j u h=>by simp at h)
 simp[Builtin.append_,run_underlying ht,sizeOf,typeInfo,hi,Builtin.lenOf,h]
theorem MX{w:World}{I:Nat→Prop}:∀{xs:List Value} {f:Fs},Cls w I xs f→∀u∈xs,u.oneCell'=true
 |[],.nil,_=>by simp
 |a::b::c::d::v::xs,.cons t y n s i r,h=>by
   obtain⟨rfl,rfl,rfl,rfl,⟨A,c,rfl,_⟩,h7⟩:=h;intro u hu;simp only[bC]at hu;rcases hu with rfl|rfl|rfl|rfl|rfl|hu
   ·rfl
   ·rfl
   ·rfl
   ·rfl
   ·rfl
   exact MX h7 u hu
 |[],.cons ..,h=>h.elim
 |_::_,.nil,h=>by simp[Cls]at h
 |[_],.cons ..,h=>by simp[Cls]at h
 |[_,_],.cons ..,h=>by simp[Cls]at h
 |[_,_,_],.cons ..,h=>by simp[Cls]at h
 |[_,_,_,_],.cons ..,h=>by simp[Cls]at h
theorem Zd{P:Program}(w:World)(t ty e:TypeId)(i:TypeInfo)(ht:P.underlying t=some (.slice e))(hi:P.info? e=some i)(hz:i.zero=some oL)(hsz:i.size=5)(hby:i.bytes=64)
 {I:Nat→Prop} {A:Option Addr} {c:Nat} {f:Fs} (hs:eF w I (.slice A f.len c) f) (h0:0<f.len) (h60:f.len≤1000000) :
 ∃xs G,Cls w I xs f∧(f.len≤G∧G≤maxLen)∧(Builtin.append_ #[t,t] ty #[.slice none 0 0,.slice A f.len c]).run P w=.ok (.slice (some ⟨w.heap.size,0,none⟩) f.len G) (w.drew.alloc (.cells (xs.toArray++Builtin.zeroCells oL.cells (G - f.len)) e)):=by
 obtain⟨A',c',hv,hc,hor⟩:=hs
 injection hv with e1 e2 e3
 subst e1 e3
 rcases hor with hh|⟨b,o,rfl,hI,hb,hf⟩
 ·omega
 obtain⟨xs,hx,hx2⟩:=hf.cls
 have hlen:=hx.length
 have hsrc:Src P i.size t (.slice (some ⟨b,o,none⟩) f.len c) f.len xs w:=by
  refine Src.ofSlice w ht ⟨b,o,none⟩ f.len c xs (by rw[hsz];omega) (fun j u hj=>?_) (MX hx);have ha:(⟨b,o,none⟩:Addr).add j=⟨b,o+j,none⟩:=by unfold Addr.add;split<;>simp_all
  rw[ha];exact hx2 j u hj
 have hr:=run_append_grow_src (P:=P) w t t ty e i oL ht hi hz none 0 0 [] (run_firstCells_none w.drew i.size 0 0 0) (.slice (some ⟨b,o,none⟩) f.len c) f.len xs hsrc (by omega) (by omega) (by rw[hby];exact growslice_fits (by omega) (by omega))
 simp only[aX,List.nil_append]at hr
 exact⟨xs,_,hx,⟨grownCap_ge w f.len 0 e,grownCap_le_maxLen w f.len 0 e (by unfold maxLen;omega)⟩,hr⟩
theorem an7(n o:Nat)(u:Value)(h:(Builtin.zeroCells oL.cells n)[o]?=some u):∀A m c,u≠.slice (some A) m c:=by
 have hz:oL.cells=#[.int .u64 0,.int .i64 0,.int .u64 0,.string ByteArray.empty,.slice none 0 0]:=rfl;have ho:o<n*oL.cells.size:=by
  have:=(bY.1 h).1
  rwa [size_zeroCells]at this
 unfold Builtin.zeroCells at h;rw[Array.getElem?_map,Array.getElem?_range]at h;rw[aA ho]at h;simp only[Option.map_some,bJ]at h;have hm:o%oL.cells.size<5:=Nat.mod_lt _ (by rw[hz];decide);generalize o%oL.cells.size=q at h hm;rw[hz]at h;intro A m c e;subst e
 match q,hm with
 |0,_=>simp at h
 |1,_=>simp at h
 |2,_=>simp at h
 |3,_=>simp at h
 |4,_=>simp at h
def NT(e:TypeId)(w w':World):Prop:=∀b T cs,T≠e→dU w' b T cs→dU w b T cs
theorem NT.alloc(e:TypeId)(w:World)(cs:Array Value):NT e w (w.alloc (.cells cs e)):=fun b T cs' hT h=>by
 by_cases hb:b<w.heap.size
 ·unfold dU at h⊢
  rw[← h];exact(Below.heap_alloc w (.cells cs e) b hb).symm
 have hlt:=h.lt;simp at hlt;obtain rfl:b=w.heap.size:=by omega
 exact aJ rfl (dU.apart h (dU.made w e cs) hT)
theorem NT.trans{e:TypeId}{a b c:World}(h:NT e a b)(k:NT e b c):NT e a c:=fun x T cs hT hc=>h x T cs hT (k x T cs hT hc)
theorem NT.dr{e:TypeId}{a b:World}(h:NT e a b):NT e a b.drew:=fun x T cs hT hc=>h x T cs hT hc
theorem NT.puts{e:TypeId}{w:World}{g:Nat}(hg:ng w g e)(o:Nat)(vs:List Value):NT e w (w.setCells g o vs):=fun b T cs hT h=>by
 have hne:b≠g:=by
  rintro rfl;exact hT (ng.one h.JA (hg.puts vs o w))
 have:=V5 (a:=w) (S:=fun k=>k=g) (b:=g) rfl vs o w (dX.refl _ _);have hlt:b<w.heap.size:=by
  have h1:=h.lt;have h2:∀(vs:List Value) (o:Nat) (w:World),(w.setCells g o vs).heap.size=w.heap.size:=by
   intro vs;induction vs with
   |nil=>intro o w;rfl
   |cons v vs ih=>intro o w;rw[World.setCells,ih];simp[World.setCell]
  rwa [h2]at h1
 unfold dU at h⊢;rw[← h];exact(this.block b hlt hne).symm
theorem alb{P:Program}(w:World)(t ty:TypeId)(base:Nat)(e:TypeId)(i:TypeInfo)(z:Value)(ht:P.underlying t=some (.slice e))(hi:P.info? e=some i)(hz:i.zero=some z)
 (hsize:i.size=1) {v v':Value} {n:Nat} {xs:List Value} {w':World} (hown:w.ownsRow base e 1 v n xs) (ad:Addr) (u:Value) (hu:w.cell? ad=some u) (h1:u.oneCell'=true) (h63:n+1≤4000001) (hb:i.bytes≤100)
 (hr:(Builtin.append_ #[t,t] ty #[v,.slice (some ad) 1 1]).run P w=.ok v' w'):NT e w w':=by
 have hsrc:Src P i.size t (.slice (some ad) 1 1) 1 [u] w:=by
  refine Src.ofSlice w ht ad 1 1 [u] (by rw[hsize];rfl) (fun j x hj=>?_) (by simp[h1])
  match j,hj with
  |0,hj=>
    simp at hj;subst hj;have:ad.add 0=ad:=(by unfold Addr.add;split<;>simp_all);rw[this];exact hu
 have grow:∀(A:Option Addr) (c:Nat) (olds:List Value),v=.slice A n c→(Builtin.firstCells i.size n (.slice A n c)).run P w.drew=.ok olds.toArray w.drew→c<n+1→NT e w w':=fun A c olds hv hold hg=>by
  subst hv;have hmul:(n+1)*i.bytes≤140737488355328:=aI (Nat.mul_le_mul h63 hb) (by decide);have:=run_append_grow_src (P:=P) w t t ty e i z ht hi hz A n c olds hold (.slice (some ad) 1 1) 1 [u] hsrc hg (by omega) (growslice_fits (by omega) hmul);rw[hr]at this;injection this with _ hw;subst hw;exact NT.trans (b:=w.drew) (fun b T cs _ h=>h) (NT.alloc e w.drew _)
 rcases hown.2 with⟨rfl,rfl⟩|⟨g,cap,cur,rfl,hbg,hg,hnc,hcm,hcs,htk⟩
 ·exact grow none 0 [] rfl (run_firstCells_none w.drew i.size 0 0 0) (by omega)
 ·by_cases hroom:n+1≤cap
  ·have:=run_append_room_src (P:=P) w t t ty e i ht hi g 0 n cap (.slice (some ad) 1 1) 1 [u] hsrc hroom
    (fun j hj=>by rw[cell_of_row _ _ _ _ _ _ hg];simp at hj;subst hj;simp[hsize];omega) (fun j hj=>by unfold World.frozen?;rw[hg];simp)
   rw[hr]at this;injection this with _ hw;subst hw;exact NT.puts ⟨_,_,hg⟩ _ _
  refine grow (some ⟨g,0,none⟩) cap xs rfl ?_ (by omega);refine run_firstCells_some w.drew i.size n ⟨g,0,none⟩ n cap xs (by rw[hsize];have:=hown.1;omega) fun j x hx=>?_;have:=hown.cells (g:=g) rfl j x hx;exact this
theorem an0{P:Program}{w:World}{ops:Array Oper}{rest:List Oper}{o:Oper}{a:Act}{Q:Exit→Act→World→Prop}(hgd:o.guard=none)(s x:Operand)(t:TypeId)
 (ho:o.op=.call { callee:=.builtin .append,args:=#[s,x],argTypes:=#[t,t] })
 (base:Nat) (e:TypeId) (i:TypeInfo) (z:Value) (bytes:Nat) (ht:P.underlying t=some (.slice e)) (hi:P.info? e=some i) (hz:i.zero=some z)
 (hsize:i.size=1) (hby:i.bytes=bytes) (hbb:bytes≤100) (hzs:z.cells.size=1) (v:Value) (n:Nat) (xs:List Value) (hs:a.eval s=v) (hown:w.ownsRow base e 1 v n xs)
 (B:Nat) (u:Value) (hx:a.eval x=.slice (some ⟨B,0,none⟩) 1 1) (hB:dU w B e #[u]) (h1:u.oneCell'=true) (h63:n+1≤4000001) (hbase:base≤w.heap.size)
 (h:∀g cap w',w'.ownsRow base e 1 (.slice (some ⟨g,0,none⟩) (n+1) cap) (n+1) (xs++[u])→w.grownBy w' v.ownBlock→(v.ownBlock=some g∨g=w.heap.size)→g<w'.heap.size→NT e w w'→wpList P ops Q rest (a.put o.dst (.slice (some ⟨g,0,none⟩) (n+1) cap)) w'):wpList P ops Q (o::rest) a w:=by
 have hu:w.cell? ⟨B,0,none⟩=some u:=by rw[hB.cell];rfl
 have hmul:(n+1)*bytes≤140737488355328:=aI (Nat.mul_le_mul h63 hbb) (by decide)
 obtain⟨g,cap,w',hr,h2,h3,h4,h5⟩:=run_append_lies (P:=P) w t o.type base e i z 1 bytes ht hi hz hsize hby hzs (by decide) v n xs hown ⟨B,0,none⟩ 1 1 [u] rfl hB.news (by simp[h1]) (by decide) (by unfold maxLen;omega) hmul hbase w.heap.size rfl
 exact wpList_append_run hgd s x t t ho v _ _ hs hx hr (h g cap w' h2 h3 h4 h5 (alb w t o.type base e i z ht hi hz hsize hown ⟨B,0,none⟩ u hu h1 h63 (by rw[hby];exact hbb) hr))
end Go.PM
section
namespace Go.PM
open Go.RowKit
section
variable {H g0 cur k n:Nat} {T Te:TypeId} {w:World} {xs:List Value}
theorem GP.put{b:Nat}{I:Nat→Prop}{t n':Nat}{y:Int}{s:ByteArray}{i r:Fs}{A':Option Addr}{m' c':Nat}(h:GP H g0 T w xs b k n)(hF:FB w T b)(hf:gX w I (.cons t y n' s i r) b (k*5))(hv:∀a,A'=some a→m'≠0→g0<a.block) :
 GP H g0 T (w.setCell ⟨b,k*5+4,none⟩ (.slice A' m' c')) xs b (k+1) n:=by
 intro b2 cs hb hB o A m c ho hm
 by_cases e:b2=b
 ·subst e
  obtain⟨cs0,h0⟩:=hF;have h1:=dU.same hB (h0.put (k*5+4) (.slice A' m' c'));subst h1;by_cases eo:o=k*5+4
  ·subst eo
   rw[Array.getElem?_setIfInBounds]at ho;simp only[if_true]at ho;split at ho
   ·simp only[bJ,Value.slice.injEq]at ho
    obtain⟨rfl,rfl,rfl⟩:=ho;exact .inl (hv _ rfl hm)
   cases ho
  rw[Array.getElem?_setIfInBounds,ay (by omega)]at ho;rcases h b2 cs0 hb h0 o A m c ho hm with h|h|⟨_,h1,h2⟩
  ·exact .inl h
  ·exact .inr (.inl h)
  right;right
  refine⟨rfl,?_,h2⟩;obtain⟨a0,a1,a2,a3,_⟩:=hf;rw[h0.cell]at a0 a1 a2 a3;have n0:o≠k*5:=by rintro rfl;rw[a0]at ho;simp at ho
  have n1:o≠k*5+1:=by rintro rfl;rw[a1]at ho;simp at ho
  have n2:o≠k*5+2:=by rintro rfl;rw[a2]at ho;simp at ho
  have n3:o≠k*5+3:=by rintro rfl;rw[a3]at ho;simp at ho
  omega
 ·have hB':dU w b2 T cs:=by
   unfold dU at hB⊢;rw[← hB];exact(Below.heap_setCell w ⟨b,k*5+4,none⟩ _ b2 e).symm
  rcases h b2 cs hb hB' o A m c ho hm with h|h|⟨h1,_⟩
  ·exact .inl h
  ·exact .inr (.inl h)
  exact aJ h1 e
theorem GP.nt{w':World}(h:GP H g0 T w xs cur k n)(hn:NT Te w w')(hT:T≠Te):GP H g0 T w' xs cur k n:=fun b cs hb hB=>h b cs hb (hn b T cs hT hB)
theorem GP.grow(h:GP H g0 T w xs cur k n)(x:Value):GP H g0 T w (xs++[x]) cur k n:=fun b cs hb hB o A m c ho hm=>by
 rcases h b cs hb hB o A m c ho hm with h|⟨f,a,d,h1,h2⟩|h
 ·exact .inl h
 ·exact .inr (.inl ⟨f,a,d,List.mem_append_left _ h1,h2⟩)
 exact .inr (.inr h)
theorem GP.alloc{cs':Array Value}{m' G:Nat}(h:GP H g0 T w xs cur k n)(hc:∀(o:Nat) (A:Addr) (m c:Nat),cs'[o]?=some (.slice (some A) m c)→o<5*m') :
 GP H g0 T (w.drew.alloc (.cells cs' T)) (xs++[.slice (some ⟨w.heap.size,0,none⟩) m' G]) cur k n:=fun b cs hb hB o A m c ho hm=>by
 by_cases e:b<w.heap.size
 ·have hB':dU w b T cs:=by
   unfold dU at hB⊢;rw[← hB];exact(Below.heap_alloc w.drew (.cells cs' T) b e).symm
  exact h.grow _ b cs hb hB' o A m c ho hm
 ·have hlt:=hB.lt
  simp at hlt;obtain rfl:b=w.heap.size:=by omega
  have:=dU.same hB (dU.made w.drew T cs');subst this;exact .inr (.inl ⟨0,m',G,by simp,hc o A m c ho⟩)
theorem GP.pop{b c:Nat}{A:Option Addr}(h:GP H g0 T w (xs++[.slice A n c]) 0 0 0)(hA:A=some ⟨b,0,none⟩∨n=0):GP H g0 T w xs b 0 n:=fun b2 cs hb hB o A' m c' ho hm=>by
 rcases h b2 cs hb hB o A' m c' ho hm with h|⟨f,a,d,h1,h2⟩|⟨_,_,h⟩
 ·exact .inl h
 ·rw[bZ]at h1
  rcases h1 with h1|h1
  ·exact .inr (.inl ⟨f,a,d,h1,h2⟩)
  simp only[List.mem_singleton,Value.slice.injEq]at h1;obtain⟨h3,rfl,rfl⟩:=h1;rcases hA with hA|hA
  ·rw[hA]at h3
   injection h3 with h3;injection h3 with h3;exact .inr (.inr ⟨h3,by omega,h2⟩)
  omega
 omega
theorem GP.done{b:Nat}(h:GP H g0 T w xs b n n):GP H g0 T w xs 0 0 0:=fun b2 cs hb hB o A' m c' ho hm=>by
 rcases h b2 cs hb hB o A' m c' ho hm with h|h|⟨_,h1,h2⟩
 ·exact .inl h
 ·exact .inr (.inl h)
 omega
theorem GP.dr(h:GP H g0 T w xs cur k n):GP H g0 T w.drew xs cur k n:=h
theorem Y9{I:Nat→Prop}{ys:List Value}{f:Fs}{G:Nat}(hx:Cls w I ys f):∀(o:Nat) (A:Addr) (m c:Nat),(ys.toArray++Builtin.zeroCells oL.cells (G - f.len))[o]?=some (.slice (some A) m c)→o<5*f.len:=fun o A m c h=>by
 have hl:=hx.length;by_cases e:o<5*f.len
 ·exact e
 rw[Array.getElem?_append_right (by simp;omega)]at h;exact aJ rfl (an7 _ _ _ h A m c)
theorem Zc{I:Nat→Prop}{ys:List Value}{f:Fs}{G:Nat}(hx:Cls w I ys f)(hG:f.len≤G):(ys.toArray++Builtin.zeroCells oL.cells (G - f.len)).size=G*5:=by
 have hz:oL.cells.size=5:=rfl;rw[Array.size_append,size_zeroCells,hz,List.size_toArray,hx.length];omega
theorem Zb{I:Nat→Prop}{ys:List Value}{f:Fs}{G:Nat}(hx:Cls w I ys f) :
 gX (w.drew.alloc (.cells (ys.toArray++Builtin.zeroCells oL.cells (G - f.len)) T)) I f w.heap.size 0:=by
 have hb:=dU.made w.drew T (ys.toArray++Builtin.zeroCells oL.cells (G - f.len))
 have hc:Cls (w.drew.alloc (.cells (ys.toArray++Builtin.zeroCells oL.cells (G - f.len)) T)) I ys f:=hx.below (bd b0 |>.trans (ba (a:=w.drew) b0 _ |>.mono (by exact au _)))
 refine hc.at_ fun j u hj=>?_
 rw[aX]
 have:=hb.cell j
 rw[show w.drew.heap.size=w.heap.size from rfl]at this
 rw[this,Array.getElem?_append_left (by simpa using(List.getElem?_eq_some_iff.1 hj).1)]
 simpa using hj
end
def CW(H g0:Nat)(T Te:TypeId)(w0:World)(f:Fs)(vc:Value)(b k:Nat)(f1:Fs)(v:Value)(L:List Fs)(w:World):Prop :=
 ∃(g cap:Nat) (xs:List Value),v=.slice (some ⟨g,0,none⟩) L.length cap∧w.ownsRow H Te 1 v L.length xs∧CL H T w xs L∧CE H T w vc f∧(f1.len=0∨H≤b∧FB w T b∧gX w (IC H T w) f1 b 0)∧GP H g0 T w xs b k f1.len∧Below H w0 w∧g0<w.heap.size∧H≤w.heap.size
section
variable {H g0 b k:Nat} {T Te:TypeId} {w0 w:World} {f f1:Fs} {vc v:Value} {L:List Fs}
theorem CW.at_(h:CW H g0 T Te w0 f vc b k f1 v L w)(hk:k<f1.len):∃t y n s i Ai ci,f1.drop k=.cons t y n s i (f1.drop (k+1))∧H≤b∧w.cell? ⟨b,k*5+4,none⟩=some (.slice Ai i.len ci)∧w.frozen? ⟨b,k*5+4,none⟩=false∧
 i.len≤ci∧(i.len=0∨∃b' o',Ai=some ⟨b',o',none⟩∧IC H T w b'∧b'<w.heap.size∧gX w (IC H T w) i b' o'):=by
 obtain⟨g,cap,xs,rfl,hown,hcl,hce,hcur,vN,hbel,hg1,hH⟩:=h
 obtain⟨t,y,n,s,i,hdc,_⟩:=f1.drop_cons k hk
 rcases hcur with h0|⟨hb,hF,hf⟩
 ·omega
 have hak:=hf.drop k
 rw[hdc,aX]at hak
 obtain⟨a0,a1,a2,a3,⟨Ai,ci,a4,hci,hin⟩,_⟩:=hak
 obtain⟨cs,hcs⟩:=hF
 exact⟨t,y,n,s,i,Ai,ci,hdc,hb,a4,hcs.free _,hci,hin⟩
theorem CW.clear(hT:T≠Te)(h:CW H g0 T Te w0 f vc b k f1 v L w)(hk:k<f1.len){t n:Nat}{y:Int}{s:ByteArray}{i:Fs}(hdc:f1.drop k=.cons t y n s i (f1.drop (k+1)))(hi:i.len=0) :
 CW H g0 T Te w0 f vc b (k+1) f1 v L (w.setCell ⟨b,k*5+4,none⟩ (.slice none 0 0)):=by
 obtain⟨g,cap,xs,rfl,hown,hcl,hce,hcur,vN,hbel,hg1,hH⟩:=h
 rcases hcur with h0|⟨hb,hF,hf⟩
 ·omega
 have hak:=hf.drop k
 rw[hdc,aX]at hak
 have hin:i=.nil:=Fs.jr hi
 subst hin
 obtain⟨Ai,ci,a4,_⟩:=hak.2.2.2.2.1
 have uN:Rp H T w (w.setCell ⟨b,k*5+4,none⟩ (.slice none (Fs.nil.len) 0)):=Rp.anew (j:=.nil) a4 (.inl rfl) ⟨au _,.inl rfl⟩
 have hne:∀q,(Value.slice (some ⟨g,0,none⟩) L.length cap).ownBlock=some q→¬(q=b):=fun q hq e=>by
  simp only[Value.ownBlock,bJ]at hq;subst hq e;rcases hown.2 with⟨h1,_⟩|⟨g',cap',cur,h1,_,hgg,_⟩
  ·simp at h1
  simp only[Value.slice.injEq,bJ,Addr.mk.injEq,and_true,true_and]at h1;obtain⟨rfl,_⟩:=h1;obtain⟨cs,hcs⟩:=hF;exact hT (ng.one hcs.JA ⟨_,_,hgg⟩)
 exact⟨g,cap,xs,rfl,tK hown ((dX.refl (fun q=>q=b) w).put (p:=⟨b,k*5+4,none⟩) (fun _=>rfl) _) hne,hcl.rp uN,hce.rp uN,.inr ⟨hb,uN.2.1 b hF,uN.1 f1 b 0 (.inr hF) hf⟩,vN.put hF hak (fun a h=>by cases h),hbel.setCell hb _,by simpa[World.setCell]using hg1,by simpa[World.setCell]using hH⟩
theorem CW.fill(hT:T≠Te)(h:CW H g0 T Te w0 f vc b k f1 v L w)(hk:k<f1.len){t n:Nat}{y:Int}{s:ByteArray}{i:Fs}(hdc:f1.drop k=.cons t y n s i (f1.drop (k+1)))
 {ys:List Value} {G:Nat} (hG:i.len≤G∧G≤maxLen) (hx:Cls w (fun q=>IC H T w q∧q<w.heap.size) ys i) {wa:World} (ha:wa=w.drew.alloc (.cells (ys.toArray++Builtin.zeroCells oL.cells (G - i.len)) T))
 {g cap g3 cap3:Nat} {xs:List Value} {w3:World} (hv:v=.slice (some ⟨g,0,none⟩) L.length cap) (hown:w.ownsRow H Te 1 v L.length xs)
 (hown3:w3.ownsRow H Te 1 (.slice (some ⟨g3,0,none⟩) (L.length+1) cap3) (L.length+1) (xs++[.slice (some ⟨w.heap.size,0,none⟩) i.len G]))
 (hg3:((wa.setCell ⟨b,k*5+4,none⟩ (.slice (some ⟨w.heap.size,0,none⟩) i.len G)).alloc (.cells #[.slice (some ⟨w.heap.size,0,none⟩) i.len G] Te)).grownBy w3 v.ownBlock)
 (hnt:NT Te ((wa.setCell ⟨b,k*5+4,none⟩ (.slice (some ⟨w.heap.size,0,none⟩) i.len G)).alloc (.cells #[.slice (some ⟨w.heap.size,0,none⟩) i.len G] Te)) w3) :
 CW H g0 T Te w0 f vc b (k+1) f1 (.slice (some ⟨g3,0,none⟩) (L.length+1) cap3) (L++[i]) w3:=by
 obtain⟨g',cap',xs',hv',hown',hcl,hce,hcur,vN,hbel,hg1,hH⟩:=h
 have hxs:xs'=xs:=by
  rcases hown.2 with⟨h1,_⟩|⟨g1,cap1,afR,h1,_,hgg,_,_,_,ht⟩
  ·rw[hv]at h1;simp at h1
  rcases hown'.2 with⟨h2,_⟩|⟨g2,cap2,aoe,h2,_,GR,_,_,_,ht2⟩
  ·rw[hv]at h2;simp at h2
  rw[h1]at h2;simp only[Value.slice.injEq,bJ,Addr.mk.injEq,and_true,true_and]at h2;obtain⟨rfl,_⟩:=h2;rw[hgg]at GR;injection GR with GR;injection GR with GR;rw[← ht,← ht2,GR]
 subst hxs
 rcases hcur with h0|⟨hb,hF,hf⟩
 ·omega
 have hak:=hf.drop k
 rw[hdc,aX]at hak
 obtain⟨Ai,ci,a4,hci,hin⟩:=hak.2.2.2.2.1
 have hba:Below w.heap.size w wa:=by rw[ha];exact ba (a:=w) (bd b0) _
 have hra:Rp H T w wa:=Rp.below hH hba
 have Ou:wa.heap.size=w.heap.size+1:=by rw[ha];simp
 have xR:=hra.2.1 b hF
 have hfa:=hra.1 f1 b 0 (.inr hF) hf
 have aia:GP H g0 T wa (xs'++[.slice (some ⟨w.heap.size,0,none⟩) i.len G]) b k f1.len:=by rw[ha];exact vN.alloc (Y9 hx)
 have hread:gX wa (fun q=>IC H T w q∧q<w.heap.size) i w.heap.size 0:=by rw[ha];exact Zb hx
 have hnew:FB wa T w.heap.size:=by rw[ha];exact⟨_,dU.made w.drew T _⟩
 have hia:gX wa (IC H T wa) i w.heap.size 0:=hread.imp fun q hq=>hq.1.imp id (hra.2.1 q)
 have TU:=hfa.drop k
 rw[hdc,aX]at TU
 obtain⟨Aj,cj,a4',_,hinj⟩:=TU.2.2.2.2.1
 -- the place is written
 have hrb:Rp H T wa (wa.setCell ⟨b,k*5+4,none⟩ (.slice (some ⟨w.heap.size,0,none⟩) i.len G)) :=
  Rp.anew a4' (hinj.imp id fun⟨b',o',e1,_,_,e2⟩=>⟨b',o',e1,e2⟩) ⟨hG.1,.inr ⟨w.heap.size,0,rfl,.inr hnew,hnew.lt,hia⟩⟩
 have aib:=GP.put (A':=.some ⟨w.heap.size,0,none⟩) (m':=i.len) (c':=G) aia xR TU (fun a h _=>by injection h with h;subst h;exact hg1)
 have Ew:(wa.setCell ⟨b,k*5+4,none⟩ (.slice (some ⟨w.heap.size,0,none⟩) i.len G)).heap.size=w.heap.size+1:=by simp[World.setCell,Ou]
 generalize hwb:wa.setCell ⟨b,k*5+4,none⟩ (.slice (some ⟨w.heap.size,0,none⟩) i.len G)=wb at *
 have hbc:Below wb.heap.size wb (wb.alloc (.cells #[.slice (some ⟨w.heap.size,0,none⟩) i.len G] Te)):=ba b0 _
 have hrc:Rp H T wb (wb.alloc (.cells #[.slice (some ⟨w.heap.size,0,none⟩) i.len G] Te)):=Rp.below (by omega) hbc
 have hgH:H≤g∧g<w.heap.size:=hown.lt g (by rw[hv];rfl)
 have Eo:ng w g Te:=by
  rcases hown.2 with⟨h1,_⟩|⟨g1,cap1,afR,h1,_,hgg,_⟩
  ·rw[hv]at h1;simp at h1
  rw[hv]at h1;simp only[Value.slice.injEq,bJ,Addr.mk.injEq,and_true,true_and]at h1;obtain⟨rfl,_⟩:=h1;exact⟨_,_,hgg⟩
 have ah5:ng wa g Te:=by obtain⟨c1,f1,h1⟩:=Eo;exact⟨c1,f1,(hba.block g hgH.2).trans h1⟩
 have ah6:ng wb g Te:=by rw[← hwb];exact ah5.put _ _
 have ah7:ng (wb.alloc (.cells #[.slice (some ⟨w.heap.size,0,none⟩) i.len G] Te)) g Te:=by obtain⟨c1,f1,h1⟩:=ah6;exact⟨c1,f1,(hbc.block g (by omega)).trans h1⟩
 have kV:dX (fun q=>some g=some q) (wb.alloc (.cells #[.slice (some ⟨w.heap.size,0,none⟩) i.len G] Te)) w3:=dX.grown hg3 fun q hq _=>by rw[hv]at hq;simpa[Value.ownBlock]using hq
 have hr3:Rp H T (wb.alloc (.cells #[.slice (some ⟨w.heap.size,0,none⟩) i.len G] Te)) w3:=Rp.fE (by simp;omega) kV hgH.1 (fun⟨cs,hcs⟩=>hT (ng.one hcs.JA ah7))
 have hall:Rp H T wa w3:=(hrb.trans hrc).trans hr3
 have hnz:FZ wa T w.heap.size (G*5):=by rw[ha];exact⟨_,dU.made w.drew T _,Zc hx hG.1⟩
 have hne:CE H T wa (.slice (some ⟨w.heap.size,0,none⟩) i.len G) i:=⟨_,G,rfl,hG.1,.inr ⟨w.heap.size,rfl,hH,hG.2,hnz,hia⟩⟩
 have hbw:Below H w wb:=by rw[← hwb];exact(hba.mono hH).setCell hb _
 have hs3:=kV.size
 simp only[World.size_alloc,Ew]at hs3
 refine⟨g3,cap3,_,by simp,by simpa using hown3,((hcl.rp hra).rp hall).push (hne.rp hall),(hce.rp hra).rp hall,.inr ⟨hb,hall.2.1 b xR,hall.1 f1 b 0 (.inr xR) hfa⟩,(aib.nt (NT.alloc Te wb _) hT).nt hnt hT,?_,by omega,by omega⟩
 exact hbel.trans ((hbw.alloc (by omega) _).trans (kV.iI (by simp;omega) fun q hq e=>by injection e with e;omega))
end
end Go.PM
end
namespace Go.Proofs.YtgidfnhfgiehjaaGreatDoor
open Go.PM Go.RowKit Go.Proofs.Tryz
set_option maxRecDepth 100000
set_option maxHeartbeats 4000000
attribute [local go_sem ↓] Go.wp_at_zero Go.wp_at_succ
def Fg(w:World)(f:Fs)(e:Ending)(w':World):Prop :=
 ∃(A:Option Addr) (c g0:Nat) (xs:List Value),e=.returned (.slice A f.len c)∧f.len≤c∧w'.ownsRow w.heap.size 47 5 (.slice A f.len c) f.len xs∧Cls w' (fun k=>g0<k∧FB w' 47 k) xs f∧
  w.heap.size≤g0∧(∀g,(Value.slice A f.len c).ownBlock=some g→g=g0∧FB w' 47 g)∧Below w.heap.size w w'
theorem afC{w:World}{I:Nat→Prop}{A:Option Addr}{c:Nat}{f:Fs}(hr:eF w I (.slice A f.len c) f)(h60:f.len≤1000000) :
 ∃(A1:Option Addr) (c1 g0:Nat) (w1:World),(Builtin.append_ #[33,33] 33 #[.slice none 0 0,.slice A f.len c]).run prog w=.ok (.slice A1 f.len c1) w1∧Below w.heap.size w w1∧
  CE w.heap.size 47 w1 (.slice A1 f.len c1) f∧GP w.heap.size g0 47 w1 [.slice A1 f.len c1] 0 0 0∧g0<w1.heap.size+1∧(f.len=0∨g0=w.heap.size∧A1=some ⟨w.heap.size,0,none⟩):=by
 obtain⟨i0,hi0,hz0,hz1,hz2⟩:=info_parts EH
 have hlt:=hr.lt
 by_cases h0:f.len=0
 ·refine⟨none,0,0,w,?_,b0,⟨none,0,rfl,by omega,.inl ⟨h0,rfl,rfl⟩⟩,fun b cs hb hB=>by have:=hB.lt;omega,by omega,.inl h0⟩
  have:=Za (P:=prog) w 33 33 47 i0 underlying33 hi0 A c;rw[h0];exact this
 ·obtain⟨ys,G,hx,hG,hrun⟩:=Zd (P:=prog) w 33 33 47 i0 underlying33 hi0 hz0 hz1 hz2 hlt (by omega) h60
  have hb:Below w.heap.size w (w.drew.alloc (.cells (ys.toArray++Builtin.zeroCells oL.cells (G - f.len)) 47)):=ba (a:=w) (bd b0) _;refine⟨some ⟨w.heap.size,0,none⟩,G,w.heap.size,_,hrun,hb,⟨_,G,rfl,hG.1,.inr ⟨w.heap.size,rfl,au _,hG.2,⟨_,dU.made w.drew _ _,Zc hx hG.1⟩,(Zb hx).imp fun q hq=>.inl hq.2⟩⟩,?_,by simp;omega,.inr ⟨rfl,rfl⟩⟩;have hg0:GP w.heap.size w.heap.size 47 w [] 0 0 0:=fun b cs hb hB=>by have:=hB.lt;omega
  exact hg0.alloc (Y9 hx)
theorem Ji(v:Value)(f:Fs)(I:Nat→Prop)(w:World)(hr:eF w I v f)(h60:f.count≤1000000):Calls prog 49 #[v] w (Fg w f):=by
 have hfl:=aI f.kH h60;obtain⟨A,c,rfl,hr'⟩:=id hr;obtain⟨A1,c1,g0,w1,hrun,hb1,hce,vN,hg0,hor⟩:=afC hr hfl;have lC:=ah hrun;have CO:=ah h60;have HB1:=ah hb1;have QF:=ah hor;have hst:CW w.heap.size g0 47 33 w f (.slice A1 f.len c1) 0 0 .nil (.slice (some ⟨w1.heap.size,0,none⟩) 1 1) [f] (w1.alloc (.cells #[.slice A1 f.len c1] 33)):=by
  have eU:=ba (a:=w1) b0 (.cells #[.slice A1 f.len c1] 33);have uN:=Rp.below (T:=47) hb1.size eU;exact⟨w1.heap.size,1,[.slice A1 f.len c1],rfl,World.ownsRow_lit w1 #[.slice A1 f.len c1] 1 hb1.size (by decide) rfl,(CL.nil (T:=47)).push (hce.rp uN),hce.rp uN,.inl rfl,GP.nt (Te:=33) vN (NT.alloc _ w1 _) (by decide),hb1.alloc hb1.size _,by simp;omega,aI hb1.size eU.size⟩
 have HST:=ah hst;obtain⟨i0,hi0,hz0,hz1,hz2⟩:=info_parts aiG;obtain⟨j0,hj0,hy0,hy1,hy2⟩:=info_parts EH;clear hr hr' hrun hb1 hce vN hor hst h60 hg0;go_enter func49,ntmps49;go_wp2_with(at_builtin;(refine wpList_append_run rfl _ _ _ _ rfl _ _ _ rfl rfl lC.out ?_));go_loopg [4] 2000001 (fun gk vv wr=>∃(L:List Fs),Hid (2*sD L+L.length≤gk∧gk≤2000001)∧CW w.heap.size g0 47 33 w f (.slice A1 f.len c1) 0 0 .nil vv L wr)
 case atStart=>exact⟨[f],⟨by have:=CO.out;simp[sD];omega,au _⟩,HST.out⟩
 case round=>
  obtain⟨L,hn,hcw⟩:=hrel;have FH:=ah hcw;obtain⟨g,cap,xs,rfl,hown,hcl,hce,_,vN,hbel,hg0,hH⟩:=hcw;cases hL:L.length with
  |zero=>
    obtain rfl:L=[]:=aV hL;obtain rfl:xs=[]:=aV (by rw[hcl.1];rfl);have HE:Hid (Fg w f (.returned (.slice A1 f.len c1)) wr):=by
     obtain⟨A2,c2,hv,hc2,hor⟩:=hce;injection hv with e1 e2 e3;subst e1 e3;rcases hor with⟨h,rfl,rfl⟩|⟨b,hb,Em,hm,hF,hf⟩
     ·have:f=.nil:=Fs.jr h
      subst this;exact⟨none,0,w.heap.size,[],rfl,au _,World.ownsRow_nil _ _ _ _,trivial,au _,fun g hg=>(by cases hg),hbel⟩
     subst hb;have hg0:f.len=0∨g0=b:=by
      rcases QF.out with h|⟨h1,h2⟩
      ·exact .inl h
      injection h2 with h2;injection h2 with h2;exact .inr (h1.trans h2.symm)
     obtain⟨cs,hcs,hsz⟩:=hF;by_cases h0:f.len=0
     ·have:f=.nil:=Fs.jr h0
      subst this;exact⟨some ⟨b,0,none⟩,c1,b,_,rfl,hc2,⟨by simp[Fs.len],.inr ⟨b,c1,cs,rfl,Em,hcs,hc2,hm,hsz,rfl⟩⟩,by simp[Fs.len,Cls],Em,fun g hg=>by injection hg with hg;subst hg;exact⟨rfl,cs,hcs⟩,hbel⟩
     have hgb:g0=b:=(by rcases hg0 with h|h;exact aJ h h0;exact h);subst hgb;exact⟨some ⟨g0,0,none⟩,c1,g0,_,rfl,hc2,⟨by have:f.len*5≤cs.size:=(by rw[hsz];exact Nat.mul_le_mul_right 5 hc2);rw[bD,Array.length_toList];omega,.inr ⟨g0,c1,cs,rfl,Em,hcs,hc2,hm,hsz,rfl⟩⟩,afG (vN.out Em Em ⟨cs,hcs⟩ hf) hcs,Em,fun g hg=>by injection hg with hg;subst hg;exact⟨rfl,cs,hcs⟩,hbel⟩
    clear hown hcl hce vN hbel hL hn;go_wp2_with fail;go_ret;exact HE.out
  |succ m=>
    obtain⟨L',f1,x,rfl,hL',hx,hsx,hcl'⟩:=hcl.pop hL;obtain⟨Ax,cx,rfl,hcx,hor⟩:=hsx;obtain⟨b,hbx⟩:∃b,f1.len=0∨Ax=some ⟨b,0,none⟩∧w.heap.size≤b∧FB wr 47 b∧gX wr (IC w.heap.size 47 wr) f1 b 0:=by
     rcases hor with⟨h,_⟩|⟨b,h1,h2,_,h3,h4⟩
     ·exact⟨0,.inl h⟩
     exact⟨b,.inr ⟨h1,h2,h3.fb,h4⟩⟩
    have hcell:=hown.cellAt m (by rw[hL];omega);rw[hx]at hcell;rw[hL]at hown;have HO:=ah (acB hown);obtain⟨hmc,hcap⟩:=acA hown;have GX:(m:Int)≤(cap:Int):=(by omega);have hxs:xs=xs.take m++[.slice Ax f1.len cx]:=by
     have hl:xs.length=m+1:=(by rw[hcl.1,hL]);have hm:m<xs.length:=(by omega);have h1:=aT hm;rw[aP hm]at hx;injection hx with hx;rw[hx,show List.take (m+1) xs=xs from aU (by omega)]at h1;exact h1.symm
    have hin:CW w.heap.size g0 47 33 w f (.slice A1 f.len c1) b 0 f1 (.slice (some ⟨g,0,none⟩) m cap) L' wr:=by
     refine⟨g,cap,xs.take m,by rw[hL'],by rw[hL'];have:=HO.out;rwa [Nat.mul_one]at this,hcl',hce,hbx.imp id fun h=>h.2,?_,hbel,hg0,hH⟩;rw[hxs]at vN;exact vN.pop (hbx.symm.imp (fun h=>h.1) id)
    have oh:=ah hin;have iy:Hid (f1.len=0∨Ax=some ⟨b,0,none⟩):=hbx.imp id fun h=>h.1;obtain⟨hn2,Eo⟩:=hn.out;rw[U9]at hn2;simp only[sD,aC,bK,cO]at hn2;have hfc:=f1.DY;have H0:Hid (2*sD L'+L'.length+2*f1.pR+f1.len+1≤gk∧gk≤2000001):=⟨by omega,Eo⟩;have hm6:m≤2000001:=(by omega);have hf6:f1.len≤2000001:=(by omega);obtain⟨G,hG⟩:∃G,G=gk:=⟨gk,rfl⟩;rw[← hG]at H0;have HG:=ah hG;clear hG hn hn2 Eo hfc hown hcl hce vN hbel hin hor hbx hx hL hL' hcl' hxs FH HO;go_wp2_with fail;go_loopg [4,28] f1.len (fun gj vv kk w2=>∃(k:Nat) (L2:List Fs),k+gj=f1.len∧kk=.int .i64 (k:Int)∧Hid (2*sD L2+L2.length+2*(f1.drop k).pR+(f1.drop k).len+1≤G)∧CW w.heap.size g0 47 33 w f (.slice A1 f.len c1) b k f1 vv L2 w2)
    case atStart=>
     refine⟨0,L',by omega,rfl,?_,oh.out⟩;have:f1.drop 0=f1:=(by cases f1<;>rfl);rw[this];exact H0.out.1
    case round=>
     obtain⟨k,L2,hkj,rfl,hn2,hcw⟩:=hrel;have FH:=ah hcw;by_cases hlt:k<f1.len
     ·obtain⟨t,y,n,s,i,Ai,ci,hdc,Em,a4,hfr,hci,hin⟩:=hcw.at_ hlt
      have hA:Ax=some ⟨b,0,none⟩:=by
       rcases iy.out with h|h
       ·omega
       exact h
      subst hA;have hkl:(k:Int)<(f1.len:Int):=(by omega);have hn3:=hn2.out;rw[hdc]at hn3;simp only[Fs.pR,Fs.len]at hn3;have hic:=i.DY;have zD:=ah hdc;obtain⟨g2,cap2,xs2,rfl,hown2,_,_,_,_,vK,_,hH2⟩:=hcw;by_cases Uk:i.len=0
      ·have HN:Hid (2*sD L2+L2.length+2*(f1.drop (k+1)).pR+(f1.drop (k+1)).len+1≤G):=by show _≤_;omega
       have hr2:=Za (P:=prog) wr 33 33 47 j0 underlying33 hj0 Ai ci;have hnil:i=.nil:=Fs.jr Uk;subst hnil;have HR2:=ah hr2;clear hn3 hn2 hown2 vK hin hic Uk hr2 hdc;go_wp2_with(at_builtin;(refine wpList_append_run rfl _ _ _ _ rfl _ _ _ rfl rfl HR2.out ?_));go_roundg (f1.len - (k+1))
       case measure=>omega
       case rel=>
        refine⟨k+1,L2,by omega,by go_num,HN.out,?_⟩;exact FH.out.clear (by decide) hlt zD.out rfl
      have hip:(0:Int)<(i.len:Int):=(by omega);have aii:0<i.len:=(by omega);have HN:Hid (2*sD (L2++[i])+(L2++[i]).length+2*(f1.drop (k+1)).pR+(f1.drop (k+1)).len+1≤G):=by
       rw[U9];simp only[sD,aC,bK,cO];show _≤_;omega
      have Ep:i.len≤1000000:=(by have:=i.kH;have:=H0.out.2;omega);have hL6:L2.length+1≤4000001:=(by have:=H0.out.2;omega);have hsl:eF wr (fun q=>IC w.heap.size 47 wr q∧q<wr.heap.size) (.slice Ai i.len ci) i:=by
       have h1:eF wr (IC w.heap.size 47 wr) (.slice Ai i.len ci) i:=⟨Ai,ci,rfl,hci,hin⟩;exact h1.lt
      obtain⟨ys,GG,hx,hGG,hr2⟩:=Zd (P:=prog) wr 33 33 47 j0 underlying33 hj0 hy0 hy1 hy2 hsl aii Ep;obtain⟨wa,vP⟩:∃wa,wa=wr.drew.alloc (.cells (ys.toArray++Builtin.zeroCells oL.cells (GG - i.len)) 47):=⟨_,rfl⟩;rw[← vP]at hr2;have hba:Below wr.heap.size wr wa:=(by rw[vP];exact ba (a:=wr) (bd b0) _);have LW:=ah vP;have HR2:=ah hr2;have HX:=ah hx;have HGG:=ah hGG;obtain⟨cs5,NW⟩:∃cs,dU wr b 47 cs:=by
       obtain⟨_,_,_,_,_,_,_,hcur,_⟩:=FH.out;rcases hcur with h|⟨_,h,_⟩
       ·omega
       exact h
      have hbl:=NW.lt;have a5:=(World.cell?_of_block (a:=⟨b,k*5+4,none⟩) (hba.block b hbl)).trans a4;have aow:=(NW.below hba hbl).free (k*5+4);have ah4:=hown2.lt g2 rfl;have Ou:wa.heap.size=wr.heap.size+1:=(by rw[vP];simp);have hne:g2≠b:=by
       rintro rfl;rcases hown2.2 with⟨h1,_⟩|⟨g',cap',cur,h1,_,hgg,_⟩
       ·simp at h1
       simp only[Value.slice.injEq,bJ,Addr.mk.injEq,and_true,true_and]at h1;obtain⟨rfl,_⟩:=h1;exact aJ (ng.one NW.JA ⟨_,_,hgg⟩) (by decide)
      have abu:=(tK (own_below hown2 hba) ((dX.refl (fun q=>q=b) wa).put (p:=⟨b,k*5+4,none⟩) (fun _=>rfl) (.slice (some ⟨wr.heap.size,0,none⟩) i.len GG)) (fun q hq e=>by simp only[Value.ownBlock,bJ]at hq;omega)).alloc (.cells #[.slice (some ⟨wr.heap.size,0,none⟩) i.len GG] 33);have Ew:(wa.setCell ⟨b,k*5+4,none⟩ (.slice (some ⟨wr.heap.size,0,none⟩) i.len GG)).heap.size=wr.heap.size+1:=(by simp[World.setCell,Ou]);have hnb:=dU.made (wa.setCell ⟨b,k*5+4,none⟩ (.slice (some ⟨wr.heap.size,0,none⟩) i.len GG)) 33 #[.slice (some ⟨wr.heap.size,0,none⟩) i.len GG];rw[show(wa.setCell ⟨b,k*5+4,none⟩ (.slice (some ⟨wr.heap.size,0,none⟩) i.len GG)).heap.size=wa.heap.size by simp[World.setCell]]at hnb;have Iz:=ah abu;have yC:=ah hnb;have vk:=ah hown2
      have jA:Hid (w.heap.size≤((wa.setCell ⟨b,k*5+4,none⟩ (.slice (some ⟨wr.heap.size,0,none⟩) i.len GG)).alloc (.cells #[.slice (some ⟨wr.heap.size,0,none⟩) i.len GG] 33)).heap.size):=(by show _≤_;rw[World.size_alloc,Ew];omega);clear hn3 hn2 hown2 vK hin hic Uk hr2 hdc vP hx hGG hsl hba NW ah4 Ou hne abu Ew hnb hbl;go_wp2_with(first|(at_builtin;refine wpList_append_run rfl _ _ _ _ rfl _ _ _ rfl rfl HR2.out ?_)|(at_builtin;go_loud (refine an0 rfl _ _ 169 rfl w.heap.size 33 i0 _ 24 underlying169 hi0 hz0 hz1 hz2 (by decide) rfl _ L2.length xs2 rfl Iz.out wa.heap.size (.slice (some ⟨wr.heap.size,0,none⟩) i.len GG) rfl yC.out rfl hL6 jA.out ?_);intro g3 cap3 w3 hown3 hg3 iF hlt3 abm;have rP:=ah hown3;have jo:=ah hg3;have xE:=ah abm;clear hown3 hg3 iF hlt3 abm));go_roundg (f1.len - (k+1))
      case measure=>omega
      case rel=>exact⟨k+1,L2++[i],by omega,by go_num,HN.out,FH.out.fill (by decide) hlt zD.out HGG.out HX.out LW.out rfl vk.out rP.out jo.out xE.out⟩
     obtain rfl:k=f1.len:=(by omega);have hlr:f1.drop f1.len=.nil:=Fs.jr (by rw[Fs.uJ];omega);rw[hlr]at hn2;have HE:Hid (2*sD L2+L2.length<G):=(by have:=hn2.out;simp only[Fs.pR,Fs.len]at this;show _<_;omega);obtain⟨g2,cap2,xs2,rfl,h1,h2,h3,h4,h5,h6⟩:=hcw;have HW:Hid (CW w.heap.size g0 47 33 w f (.slice A1 f.len c1) 0 0 .nil (.slice (some ⟨g2,0,none⟩) L2.length cap2) L2 wr):=⟨g2,cap2,xs2,rfl,h1,h2,h3,.inl rfl,h5.done,h6⟩;clear hn2 h1 h2 h3 h4 h5 h6 hlr FH;go_wp2_with fail;go_roundg (2*sD L2+L2.length)
     case measure=>rw[← HG.out];exact HE.out
     case rel=>exact⟨L2,⟨au _,by have:=HE.out;have:=H0.out.2;omega⟩,HW.out⟩
def kT(f:Fs):List UInt8×Nat:=if fM f 0 0≠0 then([],fM f 0 0)else if 65536<(eu f).length then([],4)else(eu f,0)
def aaK(f:Fs):Nat:=if fM f 0 0≠0 then 0 else(eu f).length
theorem adR(v:Value)(f:Fs)(I:Nat→Prop)(w:World)(hr:eF w I v f)(hk:f.All mF)(h60:f.count≤1000000)(hL:(eu f).length≤1000000000000) :
 Calls prog 14 #[v] w (aj w (.tuple #[.string (txt (kT f).1),.int .i64 ((kT f).2:Int)])):=by
 have hb1:Below w.heap.size w w:=b0
 have HC:=ah (Jg v f I w hr hk h60)
 have hiff:=xP f 0 0 hk (by omega)
 obtain⟨A,c,rfl,_⟩:=id hr
 have HS:Hid (fM f 0 0=0→∀x:World,Below w.heap.size w x→Calls prog 47 #[.slice A f.len c] x (aj x (.int .i64 ((eu f).length:Int)))):=fun h x hx=>adS f.count A c f I 0 0 x (au _) (hr.below hx) (hiff.1 h) h60 hL
 have HW:Hid (fM f 0 0=0→(eu f).length≤65536→∀(x:World) (v0:Value),Below w.heap.size w x→Buf x 5 v0 []→(∀g,foot v0=some g→w.heap.size≤g)→Calls prog 48 #[v0,.slice A f.len c] x (MS x v0 (eu f))):=fun h hl x v0 hx hb hf=>by
  have:=write_any f.count v0 [] A c f (fun k=>I k∧k<w.heap.size) 0 0 x (au _) hb (hr.lt.below hx) (fun g hg e=>by have:=hf g e;omega) (hiff.1 h) h60 (by simp;omega)
  rwa [List.nil_append]at this
 unfold kT
 clear hiff hr hk
 generalize fM f 0 0=E at *
 by_cases hE:E=0
 ·subst hE
  rw[ay (by simp)];have HS2:=ah (HS.out rfl);have HW2:=ah (HW.out rfl);generalize hF:eu f=F at *;clear hF;by_cases hbig:65536<F.length
  ·rw[aA hbig]
   generalize F.length=LI at *;go_enter func14,ntmps14;go_wp2_with fail;refine(HC.out).mono ?_;rintro e w1 ⟨rfl,hb2⟩;replace hb1:=bb hb1 hb2
   clear hb2;go_wp2_with fail;refine(HS2.out _ hb1).mono ?_;rintro e w2 ⟨rfl,hb2⟩;replace hb1:=bb hb1 hb2
   clear hb2;go_wp2;go_ret2;exact⟨rfl,hb1⟩
  rw[ay hbig];have HW3:=ah (HW2.out (by omega));generalize NS:F.length=LI at *;clear NS;obtain⟨i0,hi0,hz0,hz1,hz2⟩:=info_parts UU;have hdd:decide ((65536:Int)<(LI:Int))=false:=by simp;omega
  have hby:i0.bytes*LI≤281474976710656:=by rw[hz2];omega
  have hm:LI≤maxLen:=by unfold maxLen;omega
  have qP:=ah hby
  have jy:=ah hm;have hl:LI≤65536:=by omega
  clear hby hm hbig;go_enter func14,ntmps14;go_wp2_with fail;refine(HC.out).mono ?_;rintro e w1 ⟨rfl,hb2⟩;replace hb1:=bb hb1 hb2
  clear hb2;go_wp2_with fail;refine(HS2.out _ hb1).mono ?_;rintro e w2 ⟨rfl,hb2⟩;replace hb1:=bb hb1 hb2
  clear hb2;go_wp2_with(refine wpList_make_own _ rfl _ _ _ rfl w2.heap.size 5 i0 (.int .u8 0) 1 underlying42 hi0 hz0 hz1 .i64 .i64 _ LI rfl rfl rfl qP.out jy.out (au _) ?_;intro w3 hown hgr;have hbuf:=Buf.acw (l:=[]) (n:=0) hown;have fU:=ah hbuf;have hb3:=below_of_grown hgr;have HB3:=ah (bb hb1 hb3);clear hown hgr hbuf hb3);refine(HW3.out _ _ HB3.out fU.out.1 (fun g hg=>aI hb1.size (fU.out.2 g hg))).mono ?_;rintro e w4 ⟨v4,rfl,hbs⟩;have hb4:Below w.heap.size w w4:=HB3.out.trans (hbs.2.1.iI HB3.out.size fun g hg e=>by have:=fU.out.2 g e;have:=hb1.size;omega);have hcv:=hbs.1.back (P:=prog) 42 9 underlying42 underlying5 underlying9;clear hbs;go_wp2;go_ret2;exact⟨rfl,hb4⟩
 ·rw[aA hE]
  have Uf:((E:Int) != 0)=true:=by rw[aZ];omega
  go_enter func14,ntmps14;go_wp2_with fail;refine(HC.out).mono ?_;rintro e w1 ⟨rfl,hb2⟩;replace hb1:=bb hb1 hb2
  clear hb2;go_wp2;go_ret2;exact⟨rfl,hb1⟩
end Go.Proofs.YtgidfnhfgiehjaaGreatDoor
namespace Go.PM
def zW(P:List (List UInt8)):List UInt8:=P.flatMap oP
theorem aaB(t:List UInt8):∀P:List (List UInt8),(∀p∈P,p.length≤65536)→fZ (zW P++t)=(P++(fZ t).1,(fZ t).2)
 |[],_=>by simp[zW]
 |p::P,h=>by
   have e1:zW (p::P)++t=oP p++(zW P++t):=(by simp[zW]);have e2:=ahr p (zW P++t) (h p (by simp));have ih:=aaB t P fun q hq=>h q (by simp[hq]);rw[e1,Gx (by rw[e2]),e2];simp only;rw[← NH,dM,ih];rfl
theorem ahk:fZ []=([],0,[]):=BH (by decide)
theorem ahn(P:List (List UInt8))(h:∀p∈P,p.length≤65536):fZ (zW P)=(P,0,[]):=by
 have:=aaB [] P h;rw[bQ,ahk,bQ]at this;exact this
end Go.PM
section
namespace Go.Proofs.YtgidfnhfgiehjaaGreatDoor
open Go.RowKit Go.ChangeShapes Go.WideShapes Go.Deep Go.PM
section
variable {H:Type} {enc:TypeId×Value→H} {P:Program} {w:World} {spare:Nat→Bool} {held:Bool}
theorem open_u16s{t e:TypeId}{a:Option Addr}{len cap:Nat}{d:DataW H}{ps:List MemPlace}(ht:P.underlying t=some (.slice e))(he:P.underlying e=some (.int .u16))(hc:P.cellsOf e=1)
 (h:DataW.Trod enc P w 0 spare held t (.slice a len cap) d ps) :
 ∃l:List Nat,l.length=len∧Rd w a (l.map fun n:Nat=>.int .u16 (n:Int))∧(∀n∈l,n<65536)∧len≤cap∧cap≤maxLen:=by
 obtain⟨l,h1,h2,h3,h4,h5⟩:=akk ht he hc h
 have e:l.map (Value.int .u16)=(l.map Int.toNat).map fun n:Nat=>.int .u16 (n:Int):=by
  rw[List.map_map];apply List.map_congr_left;intro n hn;have:=bounds_u16 (h3 n hn);simp only[Function.comp];rw[Int.toNat_of_nonneg this.1]
 refine⟨l.map Int.toNat,by simp[h1],e▸h2,fun n hn=>?_,h4,h5⟩
 obtain⟨m,hm,rfl⟩:=dL.1 hn
 have:=bounds_u16 (h3 m hm)
 omega
end
end Go.Proofs.YtgidfnhfgiehjaaGreatDoor
end
