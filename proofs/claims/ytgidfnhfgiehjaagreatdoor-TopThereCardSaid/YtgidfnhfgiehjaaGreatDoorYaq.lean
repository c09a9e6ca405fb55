/-
  Parts of the proof. Conditions: as each names.
-/
import Derived.Test.YtgidfnhfgiehjaaGreatDoorYan
import Derived.Test.YtgidfnhfgiehjaaGreatDoorYam
import Derived.Test.YtgidfnhfgiehjaaGreatDoorYad
import Derived.Test.YtgidfnhfgiehjaaGreatDoorYae
import Derived.Test.YtgidfnhfgiehjaaGreatDoorYai
section
namespace Go.PM
open Go.RowKit
section
variable {P:Program} {w:World}
theorem append_empty(t ty e:TypeId)(i:TypeInfo)(ht:P.underlying t=some (.slice e))(hi:P.info? e=some i)(A A':Option Addr)(n c c':Nat)(h:n≤c) :
 (Builtin.append_ #[t,t] ty #[.slice A n c,.slice A' 0 c']).run P w=.ok (.slice A n c) w:=by
 have h0:(Builtin.firstCells i.size 0 (.slice A' 0 c')).run P w=.ok #[] w:=by
  cases A' with
  |none=>exact run_firstCells_none w i.size 0 0 c'
  |some a=>exact run_firstCells_some w i.size 0 a 0 c' [] (by simp) (fun j u h=>by simp at h)
 cases A with
 |none=>simp[Builtin.append_,run_underlying ht,sizeOf,typeInfo,hi,Builtin.lenOf,h0,h]
 |some a=>simp[Builtin.append_,run_underlying ht,sizeOf,typeInfo,hi,Builtin.lenOf,h0,h,storeCells]
theorem Gu(t ty e:TypeId)(i:TypeInfo)(ht:P.underlying t=some (.slice e))(hi:P.info? e=some i)(hz:i.zero=some oL)(hsz:i.size=5)(hby:i.bytes=64)
 {base:Nat} {A B:Option Addr} {c d:Nat} {f g:Fs} {xs:List Value} (hown:w.ownsRow base e 5 (.slice A f.len c) f.len xs) {J I:Nat→Prop} (hc:Cls w J xs f) (hJ:∀k,J k→(Value.slice A f.len c).ownBlock≠some k)
 (hs:eF w I (.slice B g.len d) g) (hI:∀k,I k→(Value.slice A f.len c).ownBlock≠some k) (h60:f.len+g.len≤2000000) (hb:base≤w.heap.size) :
 ∃(A':Option Addr) (c':Nat) (w':World) (xs':List Value),(Builtin.append_ #[t,t] ty #[.slice A f.len c,.slice B g.len d]).run P w=.ok (.slice A' (f.app g).len c') w'∧w'.ownsRow base e 5 (.slice A' (f.app g).len c') (f.app g).len xs'∧
  Cls w' (fun k=>(J k∨I k)∧k<w.heap.size) xs' (f.app g)∧w.grownBy w' (Value.slice A f.len c).ownBlock∧((Value.slice A' (f.app g).len c').ownBlock=(Value.slice A f.len c).ownBlock∨(Value.slice A' (f.app g).len c').ownBlock=some w.heap.size):=by
 by_cases h0:g.len=0
 ·have:g=.nil:=Fs.jr h0
  subst this;rw[Fs.xJ];have hnc:f.len≤c:=by
   rcases hown.2 with⟨h1,h2⟩|⟨g',cap,cur,h1,_,_,h2,_⟩
   ·omega
   simp only[Value.slice.injEq]at h1;omega
  exact⟨A,c,w,xs,append_empty t ty e i ht hi A B f.len c d hnc,hown,(hc.lt).imp fun k hk=>⟨.inl hk.1,hk.2⟩,NK _ _,.inl rfl⟩
 ·obtain⟨B',d',hv,hd,hor⟩:=hs
  injection hv with e1 e2 e3;subst e1 e3;rcases hor with h|⟨b,o,rfl,yX,hbl,hf⟩
  ·exact aJ h h0
  obtain⟨ys,hy,hy2⟩:=hf.cls;have hyl:=hy.length;have hnews:∀j u,ys[j]?=some u→w.cell? ((⟨b,o,none⟩:Addr).add j)=some u:=fun j u hj=>by
   have ha:(⟨b,o,none⟩:Addr).add j=⟨b,o+j,none⟩:=(by unfold Addr.add;split<;>simp_all);rw[ha];exact hy2 j u hj
  obtain⟨g',cap,w',hr,h2,h3,h4,h5⟩:=run_append_lies (P:=P) w t ty base e i oL 5 64 ht hi hz hsz hby rfl (by decide) _ f.len xs hown ⟨b,o,none⟩ g.len d ys (by omega) hnews (MX hy) (by omega) (by unfold maxLen;omega) (by omega) hb w.heap.size rfl;have hS:∀k,(J k∨I k)∧k<w.heap.size→¬((Value.slice A f.len c).ownBlock=some k):=fun k hk=>by
   rcases hk.1 with h|h
   ·exact hJ k h
   exact hI k h
  have hcl:=((hc.lt.imp (J:=fun k=>(J k∨I k)∧k<w.heap.size) fun k hk=>⟨.inl hk.1,hk.2⟩).app (hy.lt.imp (J:=fun k=>(J k∨I k)∧k<w.heap.size) fun k hk=>⟨.inr hk.1,hk.2⟩)).fE (S:=fun k=>(Value.slice A f.len c).ownBlock=some k) (dX.grown h3 fun k hk _=>hk) hS;rw[Fs.DU];refine⟨some ⟨g',0,none⟩,cap,w',_,hr,h2,hcl,h3,?_⟩;rcases h4 with h4|h4
  ·exact .inl h4.symm
  right;rw[h4];rfl
end
section
variable {w:World} {I:Nat→Prop}
theorem gX.take:∀{f:Fs} {b o:Nat} (k:Nat),gX w I f b o→gX w I (f.take k) b o
 |f,_,_,0,_=>by cases f<;>trivial
 |.nil,_,_,_+1,_=>trivial
 |.cons ..,_,_,k+1,h=>⟨h.1,h.2.1,h.2.2.1,h.2.2.2.1,h.2.2.2.2.1,gX.take k h.2.2.2.2.2⟩
theorem eF.take{A:Option Addr}{c:Nat}{f:Fs}(h:eF w I (.slice A f.len c) f)(k:Nat)(hk:k≤f.len):eF w I (.slice A (f.take k).len c) (f.take k):=by
 obtain⟨A',c',hv,hc,hor⟩:=h;injection hv with e1 e2 e3;subst e1 e3;refine⟨A,c,rfl,by rw[Fs.take_len f k hk];omega,?_⟩;rcases hor with h|⟨b,o,h1,h2,h3,h4⟩
 ·left;rw[Fs.take_len f k hk];omega
 exact .inr ⟨b,o,h1,h2,h3,h4.take k⟩
theorem eF.drop{b o c:Nat}{f:Fs}(h:eF w I (.slice (some ⟨b,o,none⟩) f.len c) f)(k:Nat)(hk:k≤f.len)(c':Nat)(hc:f.len - k≤c'):eF w I (.slice (some ⟨b,o+k*5,none⟩) (f.drop k).len c') (f.drop k):=by
 obtain⟨A',c2,hv,hc2,hor⟩:=h;injection hv with e1 e2 e3;refine⟨_,c',rfl,by rw[Fs.uJ];exact hc,?_⟩;rcases hor with h|⟨b',o',h1,h2,h3,h4⟩
 ·left;rw[Fs.uJ];omega
 rw[← e1]at h1;injection h1 with h1;injection h1 with h5 h6;subst h5 h6;exact .inr ⟨b,o+k*5,rfl,h2,h3,h4.drop k⟩
end
end Go.PM
end
namespace Go.Proofs.YtgidfnhfgiehjaaGreatDoor
open Go.PM Go.RowKit Go.Sort Go.Proofs.Tryz
set_option maxRecDepth 100000
set_option maxHeartbeats 4000000
attribute [local go_sem ↓] Go.wp_at_zero Go.wp_at_succ
theorem aiP(n:Int)(w:World):Calls prog 150 #[.int .u64 n] w fun e w'=>e=.returned (.bool false)∧w'=w:=by
 go_enter func150,ntmps150;go_wp2;go_ret;exact⟨rfl,rfl⟩
def zU(x y:Nat):Int:=if x<y then -1 else if y<x then 1 else 0
theorem afJ(x y:Nat)(w:World):Calls prog 93 #[.int .u64 (x:Int),.int .u64 (y:Int)] w fun e w'=>e=.returned (.int .i64 (zU x y))∧w'=w:=by
 have HN:Hid (∀(n:Int) (v:World),Calls prog 150 #[.int .u64 n] v fun e w'=>e=.returned (.bool false)∧w'=v):=aiP;unfold zU;by_cases h1:x<y
 ·rw[aA h1]
  have i1:decide ((x:Int)<(y:Int))=true:=bH (by omega);have j1:decide (x<y)=true:=bH h1;go_enter func93,ntmps93;go_wp2_with(go_at_call 150;refine(HN.out _ _).mono ?_;rintro e w' ⟨rfl,rfl⟩);go_ret;exact⟨rfl,rfl⟩
 rw[ay h1];have i1:decide ((x:Int)<(y:Int))=false:=aO (by omega);have j1:decide (x<y)=false:=aO h1;by_cases h2:y<x
 ·rw[aA h2]
  have i2:decide ((y:Int)<(x:Int))=true:=bH (by omega);have j2:decide (y<x)=true:=bH h2;go_enter func93,ntmps93;go_wp2_with(go_at_call 150;refine(HN.out _ _).mono ?_;rintro e w' ⟨rfl,rfl⟩);go_ret;exact⟨rfl,rfl⟩
 rw[ay h2];have i2:decide ((y:Int)<(x:Int))=false:=aO (by omega);have j2:decide (y<x)=false:=aO h2;go_enter func93,ntmps93;go_wp2_with(go_at_call 150;refine(HN.out _ _).mono ?_;rintro e w' ⟨rfl,rfl⟩);go_ret;exact⟨rfl,rfl⟩
structure Fv where
 fl:Fl
 A:Option Addr
 c:Nat
instance:Inhabited Fv:=⟨⟨⟨0,0,0,ByteArray.empty,.nil⟩,none,0⟩⟩
def yR(a:Fv):List Value:=[.int .u64 (a.fl.tag:Int),.int .i64 a.fl.ty,.int .u64 (a.fl.num:Int),.string a.fl.text,.slice a.A a.fl.inner.len a.c]
theorem SC(a:Fv):(yR a).length=5:=rfl
theorem ags(a:Fv):∀v∈yR a,v.oneCell'=true:=by
 intro v hv;simp only[yR,bC,bW,or_false]at hv;rcases hv with rfl|rfl|rfl|rfl|rfl<;>rfl
theorem Y7{w:World}{I:Nat→Prop}:∀{xs:List Value} {f:Fs},Cls w I xs f→∃l:List Fv,xs=l.flatMap yR∧f=fB (l.map Fv.fl)∧∀a∈l,eF w I (.slice a.A a.fl.inner.len a.c) a.fl.inner
 |[],.nil,_=>⟨[],rfl,rfl,by simp⟩
 |a::b::c::d::v::xs,.cons t y n s i r,h=>by
   obtain⟨rfl,rfl,rfl,rfl,hs,hr⟩:=h;obtain⟨l,h1,h2,h3⟩:=Y7 hr;have hs2:=hs;obtain⟨A,cp,rfl,_⟩:=hs2;refine⟨⟨⟨t,y,n,s,i⟩,A,cp⟩::l,by rw[List.flatMap_cons,← h1];rfl,by rw[dK,fB,← h2],fun x hx=>?_⟩;rcases bC.1 hx with rfl|hx
   ·exact hs
   exact h3 x hx
 |[],.cons ..,h=>h.elim
 |_::_,.nil,h=>by simp[Cls]at h
 |[_],.cons ..,h=>by simp[Cls]at h
 |[_,_],.cons ..,h=>by simp[Cls]at h
 |[_,_,_],.cons ..,h=>by simp[Cls]at h
 |[_,_,_,_],.cons ..,h=>by simp[Cls]at h
theorem acY{w:World}{I:Nat→Prop}:∀l:List Fv,(∀a∈l,eF w I (.slice a.A a.fl.inner.len a.c) a.fl.inner)→Cls w I (l.flatMap yR) (fB (l.map Fv.fl))
 |[],_=>trivial
 |a::r,h=>⟨rfl,rfl,rfl,rfl,h a (by simp),acY r fun x hx=>h x (by simp[hx])⟩
theorem ajt(x y:Fv)(W:World):Calls prog 92 #[.agg (yR x).toArray,.agg (yR y).toArray] W fun e w'=>e=.returned (.int .i64 (zU x.fl.tag y.fl.tag))∧∃q os',w'=grow (W.drewN q) os':=by
 have HC:Hid (∀v:World,Calls prog 93 #[.int .u64 (x.fl.tag:Int),.int .u64 (y.fl.tag:Int)] v fun e w'=>e=.returned (.int .i64 (zU x.fl.tag y.fl.tag))∧w'=v):=afJ _ _;show Calls _ _ #[.agg #[.int .u64 (x.fl.tag:Int),.int .i64 x.fl.ty,.int .u64 (x.fl.num:Int),.string x.fl.text,.slice x.A x.fl.inner.len x.c],.agg #[.int .u64 (y.fl.tag:Int),.int .i64 y.fl.ty,.int .u64 (y.fl.num:Int),.string y.fl.text,.slice y.A y.fl.inner.len y.c]] W _;generalize zU x.fl.tag y.fl.tag=r at *;go_enter func92,ntmps92;go_wp2_with(go_at_call 93;refine(HC.out _).mono ?_;rintro e w' ⟨rfl,rfl⟩);go_ret;exact⟨rfl,0,_,by rw[alloc_eq_grow,alloc_eq_grow,grow_grow];rfl⟩
theorem OX(x y:Fv):ltOf (fun x y:Fv=>zU x.fl.tag y.fl.tag) x y=decide (x.fl.tag<y.fl.tag):=by
 unfold ltOf zU;by_cases h1:x.fl.tag<y.fl.tag
 ·simp[h1]
 by_cases h2:y.fl.tag<x.fl.tag<;>simp[h1,h2]
theorem am0:SWO (ltOf fun x y:Fv=>zU x.fl.tag y.fl.tag) where
 irrefl x:=by rw[OX];simp
 trans x y z h1 h2:=by rw[OX]at *;simp at *;omega
 ntrans x y z h1 h2:=by rw[OX]at *;simp at *;omega
def aep(w:World)(base g cap:Nat)(J:Nat→Prop)(F:Fs)(e:Ending)(w':World):Prop :=
 e=.returned (.tuple #[])∧∃(l l':List Fl) (xs':List Value),F=fB l∧l.Perm l'∧l'.Pairwise (fun a b=>a.tag≤b.tag)∧w'.ownsRow base 47 5 (.slice (some ⟨g,0,none⟩) F.len cap) F.len xs'∧Cls w' J xs' (fB l')∧w.grownBy w' (some g)
theorem amO{w:World}{base g cap:Nat}{F:Fs}{xs:List Value}{J:Nat→Prop}(hown:w.ownsRow base 47 5 (.slice (some ⟨g,0,none⟩) F.len cap) F.len xs)(hc:Cls w J xs F)(hJ:∀k,J k→k≠g)(hF:F.len≤1000000) :
 Calls prog 91 #[.slice (some ⟨g,0,none⟩) F.len cap,.func (.func 92) #[] #[]] w (aep w base g cap J F):=by
 obtain⟨l,hx,hf,hs⟩:=Y7 hc
 have hll:l.length=F.len:=by rw[hf,wU,aY]
 have hdl:l.toArray.size=F.len:=by simpa using hll
 obtain⟨hH,hg,hbg⟩:=Oj (enc:=yR) (k:=5) SC (by decide) l.toArray hdl hown (by simpa using hx)
 have eg:∀args w,(callFunc 92 args).run prog w=.ok (.enter 92 args) w:=enters_of func92 (by kernel_rfl) rfl
 have hcon:=AnyQ.slices_SortFunc sortFld 5 isAgg47 sizeOf47 yR SC ags (fun x y=>zU x.fl.tag y.fl.tag) am0 92 #[] g 0 cap l.toArray w eg
  (fun _ _ _ _ x y=>ajt x y _) hH hg (by omega)
 rw[hdl]at hcon
 change Calls prog 91 _ _ _ at hcon
 refine hcon.mono ?_
 rintro e w' ⟨rfl,d',n,os,hp,hso,rfl⟩
 rw[← hdl]at hp
 have hp2:=permIn_all hp
 have hsz:d'.size=F.len:=by rw[hp.1,hdl]
 have hs2:=adb hso hsz
 have hgr:=NJ (enc:=yR) (k:=5) (w:=w) (g:=g) (m:=n) (os:=os) d'
 refine⟨rfl,l.map Fv.fl,d'.toList.map Fv.fl,_,hf,(by simpa using hp2:l.Perm d'.toList).map _,?_,O7 SC (by decide) d' hsz hown,?_,hgr⟩
 ·rw[List.pairwise_map]
  refine hs2.imp fun h=>?_;rw[OX]at h;simpa using h
 ·refine Cls.fE (S:=fun k=>some g=some k) (acY _ fun a ha=>?_) (dX.grown hgr fun k hk _=>hk) fun k hk e=>hJ k hk (by injection e with e;exact e.symm)
  exact hs a ((by simpa using hp2:l.Perm d'.toList).mem_iff.2 ha)
end Go.Proofs.YtgidfnhfgiehjaaGreatDoor
namespace Go.Proofs.YtgidfnhfgiehjaaGreatDoor
open Go.PM Go.RowKit Go.Proofs.Tryz
set_option maxRecDepth 100000
set_option maxHeartbeats 4000000
attribute [local go_sem ↓] Go.wp_at_zero Go.wp_at_succ
theorem F7(a b:ByteArray):(a++b).data.toList=a.data.toList++b.data.toList:=by rw[ByteArray.data_append,Array.toList_append]
theorem amj(N:Nat):∀(A:Option Addr) (c:Nat) (f:Fs) (I:Nat→Prop) (a d:Nat) (w:World),f.count≤N→eF w I (.slice A f.len c) f→kY f a d→f.count≤1000000→(eu f).length≤1000000000000→
 Calls prog 114 #[.slice A f.len c] w (aj w (.string (txt (eu f)))):=by
 induction N with
 |zero=>
   intro A c f I a d w hN hr hP h60 hL;have:f=.nil:=Fs.jr (by have:=f.kH;omega);subst this;go_enter func114,ntmps114;go_wp2_with fail;go_loopw [3,9] (fun nn kk wr=>nn=.string ⟨#[]⟩∧kk=.int .i64 0∧wr=w) (fun _ _ _=>0)
   case atStart=>exact⟨rfl,rfl,rfl⟩
   case round=>
    obtain⟨rfl,rfl,rfl⟩:=hrel;go_wp2_with fail;go_ret;exact⟨rfl,b0⟩
 |succ N ih=>
   intro A c f I a d w hN hr hP h60 hL;have IH:=ah ih;have HR:=ah hr;have HP:=ah hP;have CO:Hid (f.count≤1000000∧f.count≤N+1):=⟨h60,hN⟩;have hfl:=aI f.kH h60;have HL:=ah hL;clear ih hr hP h60 hN hL;have H0:Hid ((⟨#[]⟩:ByteArray).data.toList=eu (f.take 0)):=(by cases f<;>rfl);generalize hT:txt (eu f)=T at *;have HT:=ah hT;clear hT;go_enter func114,ntmps114;go_wp2_with fail;go_loopw [3,9] (fun nn kk wr=>∃(k:Nat) (S:ByteArray),k≤f.len∧kk=.int .i64 (k:Int)∧nn=.string S∧S.size≤1000000000000∧Hid (S.data.toList=eu (f.take k))∧Below w.heap.size w wr) (fun _ kk _=>f.len - (intOf kk).toNat)
   case atStart=>exact⟨0,⟨#[]⟩,by omega,rfl,rfl,by decide,H0,b0⟩
   case round=>
    obtain⟨k,S,hk,rfl,rfl,hS,HSL,hbel⟩:=hrel;by_cases hlt:k<f.len
    ·obtain⟨t,y,n,s,i,hdc,htk⟩:=f.drop_cons k hlt
     obtain⟨A0,c0,hv,hc0,hor⟩:=HR.out.below hbel;injection hv with hv1 hv2 hv3;subst hv1 hv3;rcases hor with h0|⟨b,o,rfl,yX,hbl,hat⟩
     ·omega
     have hak:=hat.drop k;rw[hdc]at hak;obtain⟨c0,c1,c2,c3,⟨Ai,ci,c4,hci,hin⟩,_⟩:=hak;obtain⟨a',BJ⟩:=SN k HP.out;rw[hdc]at BJ;obtain⟨⟨_,ht0,Ov,nM,hcase⟩,_⟩:=BJ;have hcc:=f.yP k;rw[hdc]at hcc;simp only[Fs.count]at hcc;have hstep:=Tz htk;have hle:=TA f (k+1);have hlen:=HL.out;have HLEN:Hid ((eu (f.take (k+1))).length≤1000000000000):=(by show _≤_;omega);have htl:eu (.cons t y n s i .nil)=dY (4*t+y.toNat)++(if y=0 then dY n else if y=1 then dY s.size++s.data.toList else dY (eu i).length++eu i):=(by simp only[eu,bQ]);rw[htl]at hstep;rw[hstep]at hle;simp only[aC]at hle;have pY:Hid (eF wr I (.slice Ai i.len ci) i):=⟨Ai,ci,rfl,hci,hin⟩;have eX:=ah hbel;have pK:(k:Int)<(f.len:Int):=(by omega);have hic:i.count≤N∧i.count≤1000000:=(by have:=CO.out;omega)
     have kZ:=dU.made wr 207 #[.int .u64 (t:Int),.int .i64 y,.int .u64 (n:Int),.string s,.slice Ai i.len ci];have eU:=ba (a:=wr) b0 (.cells #[.int .u64 (t:Int),.int .i64 y,.int .u64 (n:Int),.string s,.slice Ai i.len ci] 207);have sO:=ah kZ;have lq:=ah eU;clear htl hdc htk hat hin hv2 hbel kZ eU;have hti:(t:Int)≤4294967296:=(by omega);rcases hcase with⟨rfl,rfl,rfl⟩|⟨rfl,rfl,rfl,hs63⟩|⟨rfl,rfl,rfl,hd8,zY⟩
     ·rw[aA rfl]at hstep
      have HST:=ah hstep;obtain⟨V1,hV1⟩:∃V,V=txt (dY (4*t+Int.toNat 0)):=⟨_,rfl⟩;obtain⟨V2,hV2⟩:∃V,V=txt (dY n):=⟨_,rfl⟩;have rQ:Hid (∀x:World,Calls prog 70 #[.int .u64 (4*(t:Int))] x (aj x (.string V1))):=fun x=>(by rw[hV1];exact uV (4*t+Int.toNat 0) x (by show 4*t+0<18446744073709551616;omega));have HP2:Hid (∀x:World,Calls prog 70 #[.int .u64 (n:Int)] x (aj x (.string V2))):=fun x=>(by rw[hV2];exact uV n x nM);have hz1:V1.size≤10:=(by rw[hV1,gI,fO];exact iJ (by show 4*t+0<18446744073709551616;omega));have hz2:V2.size≤10:=(by rw[hV2,gI,fO];exact iJ nM);have ku:Hid (V1.data.toList=dY (4*t+Int.toNat 0)):=(by show _=_;rw[hV1,iD])
      have kQ:Hid (V2.data.toList=dY n):=(by show _=_;rw[hV2,iD]);clear hV1 hV2 hstep nM hle hlen;go_wp2_with fail;refine(rQ.out _).mono ?_;rintro e1 W1 ⟨rfl,hb1⟩;have hm1:=sO.out.below hb1 sO.out.lt;have e1':=hm1.cell 1;have e2':=hm1.cell 2;have e3':=hm1.cell 3;have e4':=hm1.cell 4;simp at e1' e2' e3' e4';have HB1:=ah (bb lq.out hb1);clear hm1 hb1;go_wp2_with fail;refine(HP2.out _).mono ?_;rintro e3 W3 ⟨rfl,hb3⟩;go_wp2_with fail;go_roundw
      case rel=>
       refine⟨k+1,_,by omega,by go_num,rfl,?_,?_,eX.out.trans ((bb HB1.out hb3).mono eX.out.size)⟩
       ·have h1:=HST.out
        have h2:(S++V1++V2).data.toList=eu (f.take (k+1)):=(by rw[h1];simp only[F7,HSL.out,ku.out,kQ.out,bP]);have h3:=congrArg List.length h2;rw[fK]at h3;have:=HLEN.out;omega
       show(S++V1++V2).data.toList=eu (f.take (k+1));rw[HST.out];simp only[F7,HSL.out,ku.out,kQ.out,bP]
      case measure=>simp[intOf];omega
     ·rw[ay (by decide),aA rfl]at hstep
      have HST:=ah hstep;obtain⟨V1,hV1⟩:∃V,V=txt (dY (4*t+Int.toNat 1)):=⟨_,rfl⟩;have hle2:=hle;rw[ay (by decide),aA rfl,aC]at hle2;have hzs:s.size≤1000000000000:=(by rw[fK]at hle2;omega);have EF:In64 (s.size):=(by show s.size<18446744073709551616;omega);obtain⟨V2,hV2⟩:∃V,V=txt (dY (s.size)):=⟨_,rfl⟩;have rQ:Hid (∀x:World,Calls prog 70 #[.int .u64 (4*(t:Int)+1)] x (aj x (.string V1))):=fun x=>(by rw[hV1];exact uV (4*t+Int.toNat 1) x (by show 4*t+1<18446744073709551616;omega));have HP2:Hid (∀x:World,Calls prog 70 #[.int .u64 ((s.size:Nat):Int)] x (aj x (.string V2))):=fun x=>(by rw[hV2];exact uV (s.size) x EF)
      have hz1:V1.size≤10:=(by rw[hV1,gI,fO];exact iJ (by show 4*t+1<18446744073709551616;omega));have hz2:V2.size≤10:=(by rw[hV2,gI,fO];exact iJ EF);have ku:Hid (V1.data.toList=dY (4*t+Int.toNat 1)):=(by show _=_;rw[hV1,iD]);have kQ:Hid (V2.data.toList=dY (s.size)):=(by show _=_;rw[hV2,iD]);clear hV1 hV2 hstep nM hle hle2 hlen EF;go_wp2_with fail;refine(rQ.out _).mono ?_;rintro e1 W1 ⟨rfl,hb1⟩;have hm1:=sO.out.below hb1 sO.out.lt;have e1':=hm1.cell 1;have e2':=hm1.cell 2;have e3':=hm1.cell 3;have e4':=hm1.cell 4;simp at e1' e2' e3' e4';have HB1:=ah (bb lq.out hb1);clear hm1 hb1;go_wp2_with fail;refine(HP2.out _).mono ?_;rintro e3 W3 ⟨rfl,hb3⟩;go_wp2_with fail;go_roundw
      case rel=>
       refine⟨k+1,_,by omega,by go_num,rfl,?_,?_,eX.out.trans ((bb HB1.out hb3).mono eX.out.size)⟩
       ·have h1:=HST.out
        have h2:(S++V1++V2++s).data.toList=eu (f.take (k+1)):=(by rw[h1];simp only[F7,HSL.out,ku.out,kQ.out,bP]);have h3:=congrArg List.length h2;rw[fK]at h3;have:=HLEN.out;omega
       show(S++V1++V2++s).data.toList=eu (f.take (k+1));rw[HST.out];simp only[F7,HSL.out,ku.out,kQ.out,bP]
      case measure=>simp[intOf];omega
     rw[ay (by decide),ay (by decide)]at hstep;have HST:=ah hstep;obtain⟨V1,hV1⟩:∃V,V=txt (dY (4*t+Int.toNat 2)):=⟨_,rfl⟩;have hle2:=hle;rw[ay (by decide),ay (by decide),aC]at hle2;obtain⟨Z,hZ⟩:∃Z,Z=txt (eu i):=⟨_,rfl⟩;have Jw:(eu i).length=Z.size:=(by rw[hZ,gI]);have hzs:Z.size≤1000000000000:=(by rw[← Jw];omega);have HZ:Hid (eu i=Z.data.toList):=(by show _=_;rw[hZ,iD]);have HIT:Hid (∀x:World,Below wr.heap.size wr x→Calls prog 114 #[.slice Ai i.len ci] x (aj x (.string Z))):=fun x hx=>by
      rw[hZ];exact IH.out Ai ci i I 0 (d+1) x hic.1 (pY.out.below hx) zY hic.2 (by rw[Jw];exact hzs)
     have HZL:=ah Jw;rw[Jw]at HST;clear hZ Jw zY;have EF:In64 (Z.size):=(by show Z.size<18446744073709551616;omega);obtain⟨V2,hV2⟩:∃V,V=txt (dY (Z.size)):=⟨_,rfl⟩;have rQ:Hid (∀x:World,Calls prog 70 #[.int .u64 (4*(t:Int)+2)] x (aj x (.string V1))):=fun x=>(by rw[hV1];exact uV (4*t+Int.toNat 2) x (by show 4*t+2<18446744073709551616;omega));have HP2:Hid (∀x:World,Calls prog 70 #[.int .u64 ((Z.size:Nat):Int)] x (aj x (.string V2))):=fun x=>(by rw[hV2];exact uV (Z.size) x EF);have hz1:V1.size≤10:=(by rw[hV1,gI,fO];exact iJ (by show 4*t+2<18446744073709551616;omega));have hz2:V2.size≤10:=(by rw[hV2,gI,fO];exact iJ EF)
     have ku:Hid (V1.data.toList=dY (4*t+Int.toNat 2)):=(by show _=_;rw[hV1,iD]);have kQ:Hid (V2.data.toList=dY (Z.size)):=(by show _=_;rw[hV2,iD]);clear hV1 hV2 hstep nM hle hle2 hlen EF;go_wp2_with fail;refine(rQ.out _).mono ?_;rintro e1 W1 ⟨rfl,hb1⟩;have hm1:=sO.out.below hb1 sO.out.lt;have e1':=hm1.cell 1;have e2':=hm1.cell 2;have e3':=hm1.cell 3;have e4':=hm1.cell 4;simp at e1' e2' e3' e4';have HB1:=ah (bb lq.out hb1);clear hm1 hb1;go_wp2_with fail;refine(HIT.out _ HB1.out).mono ?_;rintro e2 W2 ⟨rfl,hb2⟩;go_wp2_with fail;refine(HP2.out _).mono ?_;rintro e3 W3 ⟨rfl,hb3⟩;go_wp2_with fail;go_roundw
     case rel=>
      refine⟨k+1,_,by omega,by go_num,rfl,?_,?_,eX.out.trans ((bb (bb HB1.out hb2) hb3).mono eX.out.size)⟩
      ·have h1:=HST.out
       have h2:(S++V1++V2++Z).data.toList=eu (f.take (k+1)):=(by rw[h1];simp only[F7,HSL.out,HZ.out,ku.out,kQ.out,bP]);have h3:=congrArg List.length h2;rw[fK]at h3;have:=HLEN.out;omega
      show(S++V1++V2++Z).data.toList=eu (f.take (k+1));rw[HST.out];simp only[F7,HSL.out,HZ.out,ku.out,kQ.out,bP]
     case measure=>simp[intOf];omega
    obtain rfl:k=f.len:=(by omega);have e:S=T:=by
     have:=HSL.out;rw[f.Hy _ (au _)]at this;rw[← HT.out];exact vX this
    subst e;have HB:=ah hbel;clear HSL hbel HT;go_wp2_with fail;go_ret;exact⟨rfl,HB.out⟩
end Go.Proofs.YtgidfnhfgiehjaaGreatDoor
section
namespace Go.PM
open Go.RowKit
def yQ(e:fD):List Value:=[.string (txt e.1),.string (txt e.2)]
theorem SB(e:fD):(yQ e).length=2:=rfl
theorem ZO(e:fD):∀v∈yQ e,v.oneCell'=true:=by
 intro v hv;simp only[yQ,bC,bW,or_false]at hv;rcases hv with rfl|rfl<;>rfl
def ents(l:List fD):List Value:=l.flatMap yQ
theorem yS:∀l:List fD,(ents l).length=l.length*2
 |[]=>rfl
 |a::r=>by
   show(ents r).length+1+1=(r.length+1)*2;rw[yS r];omega
theorem agu(l m:List fD):ents (l++m)=ents l++ents m:=by simp[ents]
theorem SE:∀(l:List fD) (k:Nat) (h:k<l.length),(ents l)[k*2]?=some (.string (txt l[k].1))∧(ents l)[k*2+1]?=some (.string (txt l[k].2))
 |a::r,0,_=>⟨rfl,rfl⟩
 |a::r,k+1,h=>by
   have ih:=SE r k (by simpa using h);rw[show(k+1)*2=k*2+1+1 by omega];exact ih
theorem SG(l:List fD):∀u∈ents l,u.oneCell'=true:=fun u hu=>by
 obtain⟨a,_,h⟩:=List.mem_flatMap.1 hu;exact ZO a u h
section
variable {w:World} {A:Option Addr} {l:List fD}
theorem Rd.ent(h:Rd w A (ents l)){k:Nat}(hk:k<l.length):∃b off,A=some ⟨b,off,none⟩∧b<w.heap.size∧w.cell? ⟨b,off+k*2,none⟩=some (.string (txt l[k].1))∧w.cell? ⟨b,off+k*2+1,none⟩=some (.string (txt l[k].2)):=by
 obtain⟨h1,h2⟩:=SE l k hk;rcases h with h|⟨b,off,e,hb,hc⟩
 ·rw[h]at h1;simp at h1
 exact⟨b,off,e,hb,hc _ _ h1,hc _ _ h2⟩
end
def E8:Value:=.agg #[.string ByteArray.empty,.string ByteArray.empty]
section
variable {P:Program} {w:World}
theorem ZE(t ty e:TypeId)(i:TypeInfo)(ht:P.underlying t=some (.slice e))(hi:P.info? e=some i)(hz:i.zero=some E8)(hsz:i.size=2)(hby:i.bytes=32)
 {base:Nat} {A B:Option Addr} {c d:Nat} {l m:List fD} (hown:w.ownsRow base e 2 (.slice A l.length c) l.length (ents l)) (hB:Rd w B (ents m)) (hlm:l.length+m.length≤1000000) (hb:base≤w.heap.size) :
 ∃(A':Option Addr) (c':Nat) (w':World),(Builtin.append_ #[t,t] ty #[.slice A l.length c,.slice B m.length d]).run P w=.ok (.slice A' (l.length+m.length) c') w'∧w'.ownsRow base e 2 (.slice A' (l.length+m.length) c') (l.length+m.length) (ents (l++m))∧
  w.grownBy w' (Value.slice A l.length c).ownBlock∧((Value.slice A' (l.length+m.length) c').ownBlock=(Value.slice A l.length c).ownBlock∨(Value.slice A' (l.length+m.length) c').ownBlock=some w.heap.size):=by
 by_cases h0:m=[]
 ·subst h0
  have hnc:l.length≤c:=by
   rcases hown.2 with⟨h1,h2⟩|⟨g',cap,cur,h1,_,_,h2,_⟩
   ·omega
   simp only[Value.slice.injEq]at h1;omega
  rw[bQ,cO,Nat.add_zero];exact⟨A,c,w,append_empty t ty e i ht hi A B l.length c d hnc,hown,NK _ _,.inl rfl⟩
 ·rcases hB with h|⟨b,o,rfl,hbl,hc⟩
  ·have h1:=yS m
   rw[h]at h1;exact aJ (aV (by simp only[cO]at h1;omega)) h0
  have hpos:0<m.length:=List.length_pos_iff.2 h0;have hnews:∀j u,(ents m)[j]?=some u→w.cell? ((⟨b,o,none⟩:Addr).add j)=some u:=fun j u hj=>by
   have ha:(⟨b,o,none⟩:Addr).add j=⟨b,o+j,none⟩:=(by unfold Addr.add;split<;>simp_all);rw[ha];exact hc j u hj
  obtain⟨g',cap,w',hr,h2,h3,h4,h5⟩:=run_append_lies (P:=P) w t ty base e i E8 2 32 ht hi hz hsz hby rfl (by decide) _ l.length (ents l) hown ⟨b,o,none⟩ m.length d (ents m) (yS m) hnews (SG m) hpos (by unfold maxLen;omega) (by omega) hb w.heap.size rfl;refine⟨some ⟨g',0,none⟩,cap,w',hr,by rw[agu];exact h2,h3,?_⟩;rcases h4 with h4|h4
  ·exact .inl h4.symm
  right;rw[h4];rfl
end
theorem aks{w:World}{base e n:Nat}{v:Value}{l:List fD}(h:w.ownsRow base e 2 v n (ents l)):n=l.length∧∃A c,v=.slice A l.length c∧Rd w A (ents l)∧l.length≤c∧(∀b off,A=some ⟨b,off,none⟩→v.ownBlock=some b∧base≤b):=by
 have hn:n=l.length:=by have h1:=h.1;rw[yS]at h1;omega
 subst hn;exact⟨rfl,Rd.own h⟩
end Go.PM
end
namespace Go.Proofs.YtgidfnhfgiehjaaGreatDoor
open Go.PM Go.RowKit Go.Proofs.Tryz
set_option maxRecDepth 100000
set_option maxHeartbeats 4000000
attribute [local go_sem ↓] Go.wp_at_zero Go.wp_at_succ
theorem Vb(n:Nat)(w:World):Calls prog 181 #[.int .u64 (n:Int)] w fun e w'=>e=.returned (.int .i64 (kR n))∧w'=w:=by
 unfold kR;by_cases h0:n=0
 ·subst h0
  rw[aA rfl];go_enter func181,ntmps181;go_wp2;go_ret;exact⟨rfl,rfl⟩
 rw[ay h0];have i0:((n:Int)==0)=false:=by rw[aB];omega
 by_cases h1:16<n
 ·rw[aA h1]
  have i1:(16:Int)<(n:Int):=by omega
  go_enter func181,ntmps181;go_wp2;go_ret;exact⟨rfl,rfl⟩
 rw[ay h1];have i1:¬(16:Int)<(n:Int):=by omega
 go_enter func181,ntmps181;go_wp2;go_ret;exact⟨rfl,rfl⟩
theorem afK(n:Nat)(w:World):Calls prog 159 #[.int .u64 (n:Int)] w fun e w'=>e=.returned (.int .i64 (kR n))∧w'=w:=by
 unfold kR;by_cases h0:n=0
 ·subst h0
  rw[aA rfl];go_enter func159,ntmps159;go_wp2;go_ret;exact⟨rfl,rfl⟩
 rw[ay h0];have i0:((n:Int)==0)=false:=by rw[aB];omega
 by_cases h1:16<n
 ·rw[aA h1]
  have i1:(16:Int)<(n:Int):=by omega
  go_enter func159,ntmps159;go_wp2;go_ret;exact⟨rfl,rfl⟩
 rw[ay h1];have i1:¬(16:Int)<(n:Int):=by omega
 go_enter func159,ntmps159;go_wp2;go_ret;exact⟨rfl,rfl⟩
theorem YU(a k:ByteArray)(w:World):Calls prog 183 #[.string a,.string k] w fun e w'=>e=.returned (.int .i64 (nI a.data.toList k.data.toList))∧w'=w:=by
 unfold nI;have hl:=OT k.data.toList a.data.toList;rw[← ByteArray.toList_eq,← ByteArray.toList_eq]at hl;rw[← ByteArray.toList_eq,← ByteArray.toList_eq];by_cases h0:k.toList=a.toList
 ·rw[aA h0]
  have i0:(k.toList==a.toList)=true:=by rw[bF];exact h0
  clear h0 hl;go_enter func183,ntmps183;go_wp2;go_ret;exact⟨rfl,rfl⟩
 rw[ay h0];have i0:(k.toList==a.toList)=false:=by rw[aB];exact h0
 clear h0;by_cases h1:Lib.compareBytes k.toList a.toList<0
 ·rw[aA h1]
  rw[bH h1]at hl;clear h1;go_enter func183,ntmps183;go_wp2;go_ret;exact⟨rfl,rfl⟩
 rw[ay h1];rw[aO h1]at hl;clear h1;go_enter func183,ntmps183;go_wp2;go_ret;exact⟨rfl,rfl⟩
def vH(l:List fD):Bool:=l.all (fun e=>decide (e.1.length+e.2.length≤600))&&decide (l.length≤40)
def lg(l:List fD):Prop:=∀e∈l,e.1.length≤140737488351232∧e.2.length≤140737488351232
theorem ZK(A:Option Addr)(cap:Nat)(l:List fD)(w:World)(hr:Rd w A (ents l))(hz:lg l)(hl:l.length≤9223372036854775807) :
 Calls prog 31 #[.slice A l.length cap] w (aj w (.bool (vH l))):=by
 have HR:=ah hr
 have HZ:=ah hz
 have H0:Hid (vH l=((l.drop 0).all (fun e=>decide (e.1.length+e.2.length≤600))&&decide (l.length≤40))):=rfl
 generalize hF:vH l=F at H0⊢
 clear hr hz hF
 go_enter func31,ntmps31
 go_wp2_with fail
 go_loopg [7] l.length (fun gk ki wr=>∃k:Nat,k≤l.length∧l.length - k≤gk∧ki=.int .i64 (k:Int)∧Hid (F=((l.drop k).all (fun e=>decide (e.1.length+e.2.length≤600))&&decide (l.length≤40)))∧Below w.heap.size w wr)
 case atStart=>exact⟨0,aW _,by omega,rfl,H0,b0⟩
 case round=>
  obtain⟨k,hk,hgk,rfl,HM,hbel⟩:=hrel;have HB:=ah hbel;by_cases hlt:k<l.length
  ·obtain⟨b,off,rfl,hbl,c0,c1⟩:=(HR.out.below hbel).ent hlt
   obtain⟨z0,z1⟩:=HZ.out _ (aS hlt);have hm:=HM.out;rw[bI hlt,List.all_cons]at hm;have jK:=ah hm;clear hm HM hbel H0;generalize l[k]=x at *;obtain⟨x0,x1⟩:=x;simp only at c0 c1 z0 z1;have s0:=gI x0;have s1:=gI x1;by_cases hbig:600<x0.length+x1.length
   ·have hm:=jK.out
    simp only[show decide (x0.length+x1.length≤600)=false from aO (by omega),Bool.false_and]at hm;subst hm;have hi:(600:Int)<((txt x0).size:Int)+((txt x1).size:Int):=(by rw[s0,s1];omega);rw[← s0]at z0;rw[← s1]at z1;clear jK s0 s1 hbig;go_wp2_with fail;go_ret;exact⟨rfl,ba HB.out _⟩
   have hm:=jK.out;simp only[show decide (x0.length+x1.length≤600)=true from bH (by omega),Bool.true_and]at hm;have AZ:=ah hm;have hi:¬(600:Int)<((txt x0).size:Int)+((txt x1).size:Int):=(by rw[s0,s1];omega);rw[← s0]at z0;rw[← s1]at z1;clear jK s0 s1 hbig hm;go_wp2_with fail;go_roundg (l.length - (k+1))
   case measure=>omega
   case rel=>exact⟨k+1,by omega,au _,by go_num,AZ,ba HB.out _⟩
  obtain rfl:k=l.length:=by omega
  have hm:=HM.out;rw[dF (au _),List.all_nil,Bool.true_and]at hm;have hd:decide ((l.length:Int)≤40)=F:=by rw[hm,decide_eq_decide];omega
  clear hbel hm HM H0;go_wp2_with fail;go_ret;exact⟨rfl,HB.out⟩
def Ry(w:World)(v:Value)(l:List fD):Prop:=∃A c,v=.slice A l.length c∧Rd w A (ents l)∧l.length≤c
def MR(T:TypeId)(w:World)(l:List fD)(out:Value)(wr:World):Prop:=wr.ownsRow w.heap.size T 2 out l.length (ents l)∧Below w.heap.size w wr
theorem OG:(prog.info? 132).map (fun i=>(i.zero,i.size,i.bytes))=some (some E8,2,32):=by kernel_rfl
theorem aiK:(prog.info? 129).map (fun i=>(i.zero,i.size,i.bytes))=some (some E8,2,32):=by kernel_rfl
theorem KJ{a b:List UInt8}:txt a=txt b↔a=b:=⟨fun h=>by have:=congrArg (fun s:ByteArray=>s.data.toList) h;exact this,fun h=>by rw[h]⟩
theorem ZJ(A B:Option Addr)(c d:Nat)(l m:List fD)(w:World)(hr:Rd w A (ents l))(hs:Rd w B (ents m))(hl:l.length≤9223372036854775807) :
 Calls prog 101 #[.slice A l.length c,.slice B m.length d] w (aj w (.bool (decide (l=m)))):=by
 have HR:=ah hr
 have HS:=ah hs
 have hneq:=fun x y x' y'=>ZQ x y x' y'
 have hgd:=ZP
 clear hr hs
 generalize hF:decide (l=m)=F
 by_cases hlm:l.length=m.length
 ·have H0:Hid (F=decide (l.drop 0=m.drop 0)):=hF.symm
  clear hF;go_enter func101,ntmps101;have hnm:(((l.length:Nat):Int) != ((m.length:Nat):Int))=false:=by rw[hlm];simp
  have xB:=ah hlm;clear hlm;go_wp2_with fail;go_loopg [13] l.length (fun gk ki wr=>∃k:Nat,k≤l.length∧l.length - k≤gk∧ki=.int .i64 (k:Int)∧Hid (F=decide (l.drop k=m.drop k))∧Below w.heap.size w wr)
  case atStart=>exact⟨0,aW _,by omega,rfl,H0,b0⟩
  case round=>
   obtain⟨k,hk,hgk,rfl,HM,hbel⟩:=hrel;have HB:=ah hbel;by_cases hlt:k<l.length
   ·have hlt2:k<m.length:=by have:=xB.out;omega
    obtain⟨b,off,rfl,hbl,c0,c1⟩:=(HR.out.below hbel).ent hlt;obtain⟨b',off',rfl,sZ,d0,d1⟩:=(HS.out.below hbel).ent hlt2;have hm:=HM.out;rw[bI hlt,bI hlt2]at hm;have jK:=ah hm;clear hm HM hbel H0;generalize l[k]=x at *;generalize m[k]=y at *;obtain⟨x0,x1⟩:=x;obtain⟨y0,y1⟩:=y;simp only at c0 c1 d0 d1;have hd:decide (txt x0=txt y0∧txt x1=txt y1)=decide ((x0,x1)=(y0,y1)):=by
     rw[decide_eq_decide,KJ,KJ,Prod.mk.injEq]
    by_cases he:(x0,x1)=(y0,y1)
    ·have HN:Hid (F=decide (l.drop (k+1)=m.drop (k+1))):=by
      show _=_;rw[jK.out,he];simp
     rw[bH he]at hd;clear jK he;go_wp2_with fail;go_quiet(fail);go_wp2_with fail;go_roundg (l.length - (k+1))
     case measure=>omega
     case rel=>exact⟨k+1,by omega,au _,by go_num,HN,bn HB.out _⟩
    have HN:F=false:=by
     rw[jK.out,aO];intro e;injection e with e _;exact he e
    subst HN;rw[aO he]at hd;clear jK he;go_wp2_with fail;go_quiet(fail);go_wp2_with fail;go_ret;exact⟨rfl,bn HB.out _⟩
   obtain rfl:k=l.length:=(by omega);have hm:=HM.out;rw[dF (au _),xB.out,dF (au _)]at hm;have hF:F=true:=(by rw[hm];rfl);subst hF;clear hbel hm HM H0;go_wp2_with fail;go_ret;exact⟨rfl,HB.out⟩
 ·have hFf:F=false:=by rw[← hF];exact aO fun e=>hlm (by rw[e])
  subst hFf;have hnm:(((l.length:Nat):Int) != ((m.length:Nat):Int))=true:=by rw[aZ];omega
  clear hlm hF;go_enter func101,ntmps101;go_wp2_with fail;go_ret;exact⟨rfl,b0⟩
end Go.Proofs.YtgidfnhfgiehjaaGreatDoor
namespace Go.PM
open Go.Lib (compareBytes)
def iw:List UInt8→List UInt8→Nat
 |a::x,b::y=>if a=b then iw x y+1 else 0
 |_,_=>0
theorem Hl:∀a b:List UInt8,iw a b≤a.length∧iw a b≤b.length
 |[],_=>by simp[iw]
 |_::_,[]=>by simp[iw]
 |a::x,b::y=>by
   have:=Hl x y;rw[iw];split<;>simp<;>omega
theorem acF:∀a b:List UInt8,a.take (iw a b)=b.take (iw a b)
 |[],b=>by simp[iw]
 |_::_,[]=>by simp[iw]
 |a::x,b::y=>by
   rw[iw];split
   ·rename_i h
    rw[List.take_succ_cons,List.take_succ_cons,acF x y,h]
   simp
theorem acD:∀(k:Nat) (a b:List UInt8),k≤a.length→k≤b.length→a.take k=b.take k→k≤iw a b
 |0,_,_,_,_,_=>aW _
 |k+1,[],_,h,_,_=>by simp at h
 |k+1,_::_,[],_,h,_=>by simp at h
 |k+1,a::x,b::y,h1,h2,h=>by
   rw[List.take_succ_cons,List.take_succ_cons]at h;injection h with h3 h4;have:=acD k x y (by simpa using h1) (by simpa using h2) h4;rw[iw,aA h3];omega
def je(a s:List UInt8):List UInt8:=dY (iw a s)++(dY (s.length - iw a s)++s.drop (iw a s))
def iM(o:Option (List UInt8))(s:List UInt8):List UInt8×Nat×Int :=
 if(dQ s).2.2≠0 then([],0,((dQ s).2.2:Int))
 else if(o.getD []).length<(dQ s).1 then([],0,23)
 else if(dQ (s.drop (dQ s).2.1)).2.2≠0 then([],0,((dQ (s.drop (dQ s).2.1)).2.2:Int))
 else if s.length - (dQ s).2.1 - (dQ (s.drop (dQ s).2.1)).2.1<(dQ (s.drop (dQ s).2.1)).1 then([],0,1)
 else if o≠none∧¬compareBytes (o.getD []) ((o.getD []).take (dQ s).1++(s.drop ((dQ s).2.1+(dQ (s.drop (dQ s).2.1)).2.1)).take (dQ (s.drop (dQ s).2.1)).1)<0 then([],0,7)
 else if(dQ s).1<iw (o.getD []) ((o.getD []).take (dQ s).1++(s.drop ((dQ s).2.1+(dQ (s.drop (dQ s).2.1)).2.1)).take (dQ (s.drop (dQ s).2.1)).1)then([],0,23)
 else((o.getD []).take (dQ s).1++(s.drop ((dQ s).2.1+(dQ (s.drop (dQ s).2.1)).2.1)).take (dQ (s.drop (dQ s).2.1)).1,(dQ s).2.1+(dQ (s.drop (dQ s).2.1)).2.1+(dQ (s.drop (dQ s).2.1)).1,0)
theorem ak7{o:Option (List UInt8)}{s:List UInt8}(h:(iM o s).2.2=0):(iM o s).2.1≤s.length∧s.take (iM o s).2.1=je (o.getD []) (iM o s).1∧∀a,o=some a→compareBytes a (iM o s).1<0:=by
 unfold iM at *;split at h
 ·rename_i k;simp at h;exact aJ h k
 rename_i k1;rw[ay k1];split at h
 ·exact aJ h (by decide)
 rename_i k2;rw[ay k2];split at h
 ·rename_i k;simp at h;exact aJ h k
 rename_i k3;rw[ay k3];split at h
 ·exact aJ h (by decide)
 rename_i k4;rw[ay k4];split at h
 ·exact aJ h (by decide)
 rename_i k5;rw[ay k5];split at h
 ·exact aJ h (by decide)
 rename_i k6;rw[ay k6];obtain⟨a1,a2,a3,a4,a5⟩:=nZ (s:=s) (by omega);obtain⟨b1,b2,b3,b4,b5⟩:=nZ (s:=s.drop (dQ s).2.1) (by omega);rw[aN]at b2;generalize(dQ s).1=n at *;generalize(dQ s).2.1=i at *;generalize(dQ (s.drop i)).1=m at *;generalize(dQ (s.drop i)).2.1=j at *;generalize hA:o.getD []=A at *;simp only;have hnA:n≤A.length:=by omega
 have hl:((s.drop (i+j)).take m).length=m:=by rw[bD,aN];omega
 have hge:n≤iw A (A.take n++(s.drop (i+j)).take m):=by
  refine acD n _ _ hnA (by rw[aC,bD];omega) ?_;rw[List.take_append_of_le_length (by rw[bD];omega),List.take_take,Nat.min_self]
 have hc:iw A (A.take n++(s.drop (i+j)).take m)=n:=by omega
 refine⟨by omega,?_,fun a ha=>?_⟩
 ·unfold je
  rw[hc,List.take_add,List.take_add,aC,hl,bD,Nat.min_eq_left hnA,Nat.add_sub_cancel_left,← a5,← b5];rw[List.drop_append_of_le_length (by rw[bD];omega),List.drop_take,Nat.sub_self,List.take_zero,List.nil_append,bP]
 have h1:o≠none:=by rw[ha];simp
 have h2:A=a:=by rw[← hA,ha];rfl
 have h3:=Decidable.not_and_iff_or_not.1 k5;rcases h3 with h3|h3
 ·exact aJ h1 h3
 rw[← h2];exact Decidable.not_not.1 h3
theorem ak8(o:Option (List UInt8))(t r:List UInt8)(ho:∀a,o=some a→compareBytes a t<0∧a.length<18446744073709551616)(ht:t.length<18446744073709551616):iM o (je (o.getD []) t++r)=(t,(je (o.getD []) t).length,0):=by
 generalize hA:o.getD []=A at *;have hcl:=Hl A t;have hct:=acF A t;have e0:je A t++r=dY (iw A t)++(dY (t.length - iw A t)++(t.drop (iw A t)++r)):=by simp[je]
 have e1:=wW (iw A t) (by omega) (dY (t.length - iw A t)++(t.drop (iw A t)++r));have e2:=wW (t.length - iw A t) (by omega) (t.drop (iw A t)++r);have hdl:(t.drop (iw A t)).length=t.length - iw A t:=aN;unfold iM;rw[e0,e1,hA];simp only;rw[ay (by simp),ay (by omega),← fO,dM,e2];simp only;rw[← fO (t.length - iw A t),← cZ,dM,dM,List.take_append_of_le_length (by omega),aU (by omega:(t.drop (iw A t)).length≤t.length - iw A t),hct,dG];rw[ay (by simp),ay (by simp only[aC];omega),ay (by
  rintro⟨h1,h2⟩;cases o with
  |none=>exact h1 rfl
  |some a=>
    have h3:A=a:=hA.symm;rw[h3]at h2;exact h2 (ho a rfl).1),ay (by omega)]
 simp[je,hdl];omega
end Go.PM
section
namespace Go.PM
open Go.Lib (compareBytes)
abbrev Rw:=List fD×Nat
section
variable (chk:List UInt8→List UInt8→Int)
def kJ(r:Rw):Int:=if iZ chk r.1≠0 then iZ chk r.1 else if r.2=0 then 18 else 0
def kW:Option (List UInt8)→List Rw→Int
 |_,[]=>0
 |p,r::m=>if kJ chk r≠0 then kJ chk r else if nV p (eG r.1)≠0 then nV p (eG r.1)else kW (some (eG r.1)) m
def jv(l:List Rw):Int:=if 256<l.length then 13 else kW chk none l
def jS:List UInt8→List Rw→List UInt8
 |_,[]=>[]
 |a,r::m=>je a (eG r.1)++(dY r.2++jS (eG r.1) m)
def lQ(l:List Rw):List UInt8:=dY l.length++jS [] l
def oV(l:List Rw):List UInt8×Int:=if jv chk l≠0 then([],jv chk l)else(lQ l,0)
def jY(key s:List UInt8):Rw×Nat×Int :=
 if(mM chk key).2≠0 then(([],0),0,(mM chk key).2)else if(dQ s).2.2≠0 then(([],0),0,((dQ s).2.2:Int))
 else if(dQ s).1=0 then(([],0),0,17)else(((mM chk key).1,(dQ s).1),(dQ s).2.1,0)
def jI:Nat→Option (List UInt8)→List UInt8→List Rw×Nat×Int
 |0,_,_=>([],0,0)
 |n+1,o,s=>
   if(iM o s).2.2≠0 then([],0,(iM o s).2.2)else if(jY chk (iM o s).1 (s.drop (iM o s).2.1)).2.2≠0 then([],0,(jY chk (iM o s).1 (s.drop (iM o s).2.1)).2.2)
   else if(jI n (some (iM o s).1) (s.drop ((iM o s).2.1+(jY chk (iM o s).1 (s.drop (iM o s).2.1)).2.1))).2.2≠0 then([],0,(jI n (some (iM o s).1) (s.drop ((iM o s).2.1+(jY chk (iM o s).1 (s.drop (iM o s).2.1)).2.1))).2.2)
   else((jY chk (iM o s).1 (s.drop (iM o s).2.1)).1::(jI n (some (iM o s).1) (s.drop ((iM o s).2.1+(jY chk (iM o s).1 (s.drop (iM o s).2.1)).2.1))).1,
    (iM o s).2.1+(jY chk (iM o s).1 (s.drop (iM o s).2.1)).2.1+(jI n (some (iM o s).1) (s.drop ((iM o s).2.1+(jY chk (iM o s).1 (s.drop (iM o s).2.1)).2.1))).2.1,0)
def oJ(s:List UInt8):List Rw×Nat×Int :=
 if(dQ s).2.2≠0 then([],0,((dQ s).2.2:Int))else if 256<(dQ s).1 then([],0,13)
 else if(jI chk (dQ s).1 none (s.drop (dQ s).2.1)).2.2≠0 then([],0,(jI chk (dQ s).1 none (s.drop (dQ s).2.1)).2.2)
 else((jI chk (dQ s).1 none (s.drop (dQ s).2.1)).1,(dQ s).2.1+(jI chk (dQ s).1 none (s.drop (dQ s).2.1)).2.1,0)
def lN(s:List UInt8):List Rw×Int:=if(oJ chk s).2.2≠0 then([],(oJ chk s).2.2)else if(oJ chk s).2.1<s.length then([],10)else((oJ chk s).1,0)
variable {chk}
theorem Vw{key s:List UInt8}(h:(jY chk key s).2.2=0):(jY chk key s).2.1≤s.length∧eG (jY chk key s).1.1=key∧s.take (jY chk key s).2.1=dY (jY chk key s).1.2∧kJ chk (jY chk key s).1=0∧(jY chk key s).1.2<18446744073709551616:=by
 unfold jY at *;split at h
 ·rename_i k;exact aJ h k
 rename_i k1;rw[ay k1];split at h
 ·rename_i k;simp at h;exact aJ h k
 rename_i k2;rw[ay k2];split at h
 ·exact aJ h (by decide)
 rename_i k3;rw[ay k3];obtain⟨a1,a2,a3,a4,a5⟩:=nZ (s:=s) (by omega);obtain⟨d1,d2⟩:=Zz (chk:=chk) (s:=key) (by omega);simp only;refine⟨by omega,d1.symm,a5.symm,?_,by omega⟩;unfold kJ;rw[ay (by rw[d2];simp),ay k3]
theorem acJ:∀(n:Nat) (o:Option (List UInt8)) (s:List UInt8),(jI chk n o s).2.2=0→
 (jI chk n o s).2.1≤s.length∧s.take (jI chk n o s).2.1=jS (o.getD []) (jI chk n o s).1∧(jI chk n o s).1.length=n∧kW chk o (jI chk n o s).1=0
 |0,o,s,_=>by simp[jI,jS,kW]
 |n+1,o,s,h=>by
   rw[jI]at h⊢;split at h
   ·rename_i k;exact aJ h k
   rename_i k1;rw[ay k1];split at h
   ·rename_i k;exact aJ h k
   rename_i k2;rw[ay k2];split at h
   ·rename_i k;exact aJ h k
   rename_i k3;rw[ay k3];obtain⟨a1,a2,a3⟩:=ak7 (o:=o) (s:=s) (by omega);obtain⟨b1,b2,b3,b4,b5⟩:=Vw (chk:=chk) (key:=(iM o s).1) (s:=s.drop (iM o s).2.1) (by omega);obtain⟨c1,c2,c3,c4⟩:=acJ n (some (iM o s).1) (s.drop ((iM o s).2.1+(jY chk (iM o s).1 (s.drop (iM o s).2.1)).2.1)) (by omega);rw[aN]at b1 c1;simp only;refine⟨by omega,?_,by rw[bK,c3],?_⟩
   ·rw[jS,List.take_add,List.take_add,a2,b3,b2,c2]
    simp
   rw[kW,ay (by omega),b2];have hb:nV o (iM o s).1=0:=by
    cases o with
    |none=>rfl
    |some a=>exact afX (a3 a rfl)
   rw[ay (by omega)];exact c4
theorem acK(r:List UInt8):∀(l:List Rw) (o:Option (List UInt8)),kW chk o l=0→(∀x∈l,x.2<18446744073709551616∧(eG x.1).length<18446744073709551616∧∀e∈x.1,e.1.length<18446744073709551616∧e.2.length<18446744073709551616)→
 (∀a,o=some a→a.length<18446744073709551616)→jI chk l.length o (jS (o.getD []) l++r)=(l,(jS (o.getD []) l).length,0)
 |[],o,_,_,_=>by simp[jI,jS]
 |x::m,o,h,hl,ho=>by
   rw[kW]at h;split at h
   ·rename_i k;exact aJ h k
   rename_i k1;split at h
   ·rename_i k;exact aJ h k
   rename_i k2;obtain⟨hx1,hx2,hx3⟩:=hl x (by simp);have hr1:iZ chk x.1=0∧x.2≠0:=by
    unfold kJ at k1;by_cases hd:iZ chk x.1≠0
    ·rw[aA hd]at k1;exact aJ hd k1
    rw[ay hd]at k1;by_cases h0:x.2=0
    ·rw[aA h0]at k1;exact aJ (by decide) k1
    exact⟨by omega,h0⟩
   have e1:jS (o.getD []) (x::m)++r=je (o.getD []) (eG x.1)++(dY x.2++(jS (eG x.1) m++r)):=(by simp[jS]);have e2:=ak8 o (eG x.1) (dY x.2++(jS (eG x.1) m++r)) (fun a ha=>⟨by
    subst ha;exact afW (by have:nV (some a) (eG x.1)=nI a (eG x.1):=rfl;omega),ho a ha⟩) hx2
   have e3:jY chk (eG x.1) (dY x.2++(jS (eG x.1) m++r))=(x,(dY x.2).length,0):=by
    have g1:=ZA (chk:=chk) hr1.1 hx3;have g2:=wW x.2 hx1 (jS (eG x.1) m++r);unfold jY;rw[g1,g2];simp only;rw[ay (by simp),ay (by simp),ay hr1.2,fO]
   have ih:=acK r m (some (eG x.1)) h (fun y hy=>hl y (by simp[hy])) (fun a ha=>by injection ha with ha;rw[← ha];exact hx2);rw[Option.getD_some]at ih;rw[bK,jI,e1,e2];simp only;rw[ay (by simp),dM,e3];simp only;rw[ay (by simp),← cZ,dM,dM,ih];simp[jS,Nat.add_assoc]
theorem Ce{l:List Rw}(h:jv chk l=0):l.length≤256∧kW chk none l=0:=by
 unfold jv at h;split at h
 ·exact aJ h (by decide)
 exact⟨by omega,h⟩
theorem akC(l:List Rw)(r:List UInt8)(h:jv chk l=0)(hl:∀x∈l,x.2<18446744073709551616∧(eG x.1).length<18446744073709551616∧∀e∈x.1,e.1.length<18446744073709551616∧e.2.length<18446744073709551616) :
 oJ chk (lQ l++r)=(l,(lQ l).length,0):=by
 obtain⟨h1,h2⟩:=Ce h
 have e1:lQ l++r=dY l.length++(jS [] l++r):=by simp[lQ]
 have e2:=wW l.length (by omega) (jS [] l++r)
 have e3:=acK r l none h2 hl (fun a ha=>by cases ha)
 rw[Option.getD_none]at e3
 unfold oJ
 rw[e1,e2]
 simp only
 rw[ay (by simp),ay (by omega),← fO,dM,e3]
 simp[lQ]
theorem acH{l:List Rw}(h:jv chk l=0)(hl:∀x∈l,x.2<18446744073709551616∧(eG x.1).length<18446744073709551616∧∀e∈x.1,e.1.length<18446744073709551616∧e.2.length<18446744073709551616):lN chk (lQ l)=(l,0):=by
 have:=akC l [] h hl;rw[bQ]at this;unfold lN;rw[this];simp
theorem acL{s:List UInt8}(h:(oJ chk s).2.2=0):(oJ chk s).2.1≤s.length∧s.take (oJ chk s).2.1=lQ (oJ chk s).1∧jv chk (oJ chk s).1=0:=by
 unfold oJ at *;split at h
 ·rename_i k;simp at h;exact aJ h k
 rename_i k1;rw[ay k1];split at h
 ·exact aJ h (by decide)
 rename_i k2;rw[ay k2];split at h
 ·rename_i k;exact aJ h k
 rename_i k3;rw[ay k3];obtain⟨a1,a2,a3,a4,a5⟩:=nZ (s:=s) (by omega);obtain⟨b1,b2,b3,b4⟩:=acJ (chk:=chk) (dQ s).1 none (s.drop (dQ s).2.1) (by omega);rw[aN]at b1;rw[Option.getD_none]at b2;simp only;refine⟨by omega,?_,?_⟩
 ·rw[List.take_add,b2,← a5]
  unfold lQ;rw[b3]
 unfold jv;rw[b3,ay k2];exact b4
theorem akx{s:List UInt8}(h:(lN chk s).2=0):s=lQ (lN chk s).1∧jv chk (lN chk s).1=0:=by
 unfold lN at *;split at h
 ·rename_i k;exact aJ h k
 rename_i k1;rw[ay k1];split at h
 ·exact aJ h (by decide)
 rename_i k2;rw[ay k2];obtain⟨a1,a2,a3⟩:=acL (chk:=chk) (s:=s) (by omega);simp only;refine⟨?_,a3⟩;rw[← a2,aU (by omega)]
end
end Go.PM
end
namespace Go.PM
structure Sp where
 tag:Nat
 use:Nat
 from_:Nat
 nm:List UInt8
 deriving DecidableEq
def dW:Nat→List UInt8
 |0=>[97,108,108,111,119,101,100]
 |1=>[98,97,115,101]
 |2=>[99,104,111,115,101,110]
 |3=>[99,111,100,101]
 |4=>[99,111,115,116]
 |5=>[100,101,97,100,108,105,110,101]
 |6=>[100,101,115,99,114]
 |7=>[100,105,103,101,115,116]
 |8=>[101,112,111,99,104]
 |9=>[102,108,97,103,115]
 |10=>[105,100]
 |11=>[108,97,103]
 |12=>[109,97,120]
 |13=>[109,105,110]
 |14=>[110,97,109,101]
 |15=>[110,111,116,101]
 |16=>[112,114,105,111,114,105,116,121]
 |17=>[114,101,103,105,111,110]
 |18=>[114,101,109,97,105,110,105,110,103]
 |19=>[114,101,116,114,121]
 |20=>[116,97,98,108,101]
 |21=>[119,97,110,116]
 |_=>[]
def tH:List (List UInt8):=(List.range 22).map dW
def jm:Nat→List Sp
 |1=>[⟨1,0,1,dW 13⟩,⟨2,0,1,dW 12⟩,⟨3,3,1,dW 14⟩,⟨4,3,2,dW 17⟩,⟨5,0,3,dW 9⟩]
 |2=>[⟨1,0,1,dW 2⟩,⟨2,3,1,dW 14⟩,⟨3,3,2,dW 17⟩]
 |3=>[⟨1,0,1,dW 10⟩,⟨2,4,1,dW 6⟩,⟨3,0,1,dW 4⟩,⟨4,0,2,dW 16⟩,⟨5,0,3,dW 5⟩]
 |4=>[⟨1,0,1,dW 10⟩,⟨2,1,1,dW 0⟩,⟨3,2,1,dW 18⟩,⟨4,0,2,dW 19⟩,⟨5,3,3,dW 15⟩]
 |5=>[⟨1,0,1,dW 8⟩,⟨2,5,1,dW 20⟩,⟨3,3,2,dW 17⟩,⟨4,0,3,dW 7⟩]
 |6=>[⟨1,0,2,dW 1⟩,⟨2,0,2,dW 8⟩,⟨3,5,2,dW 20⟩,⟨4,3,2,dW 17⟩,⟨5,0,3,dW 7⟩]
 |7=>[⟨1,0,1,dW 8⟩,⟨2,0,3,dW 11⟩]
 |8=>[⟨1,0,1,dW 8⟩,⟨2,0,1,dW 3⟩,⟨3,0,2,dW 21⟩,⟨4,3,3,dW 15⟩]
 |_=>[]
def EK:Nat→List UInt8
 |1=>[72,101,108,108,111]
 |2=>[72,101,108,108,111,65,99,107]
 |3=>[67,104,101,99,107,82,101,113,117,101,115,116]
 |4=>[67,104,101,99,107,82,101,115,112,111,110,115,101]
 |5=>[70,117,108,108,83,110,97,112,115,104,111,116]
 |6=>[68,101,108,116,97,83,110,97,112,115,104,111,116]
 |7=>[65,99,107]
 |8=>[82,101,106,101,99,116]
 |_=>[]
def iP(k:Nat):Nat:=if k=6 then 2 else if 1≤k∧k≤8 then 1 else 0
def fJ(k v:Nat):List Sp:=(jm k).filter fun s=>decide (s.from_≤v)
def jc(k v:Nat):List Nat:=(fJ k v).map Sp.tag
def eH(k:Int):Nat:=if 1≤k∧k≤8 then k.toNat else 0
theorem OL{k:Nat}(h1:1≤k)(h8:k≤8):eH (k:Int)=k:=by
 unfold eH
 rw[aA (by omega)];omega
