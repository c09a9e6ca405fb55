/-
  Parts of the proof. Conditions: as each names.
-/
import Derived.Test.YtgidfnhfgiehjaaGreatDoorYap
import Derived.Test.YtgidfnhfgiehjaaGreatDoorYao
import Derived.Test.YtgidfnhfgiehjaaGreatDoorYaq
section
namespace Go.PM
open Go.RowKit
theorem Pz{w:World}{I:Nat→Prop}{g:Nat}{t:TypeId}{cs:Array Value}{f:Fs}{c:Nat}(hb:dU w g t cs)(hc:Cls w I cs.toList f)(hI:I g)(hl:f.len≤c):eF w I (.slice (some ⟨g,0,none⟩) f.len c) f :=
 ⟨_,c,rfl,hl,.inr ⟨g,0,rfl,hI,hb.lt,hc.at_ (by intro j u hj;rw[aX,hb.cell j,← bU];exact hj)⟩⟩
theorem aap{l:List One}(h:few l=true):(∀x∈l,x.text.size≤300)∧l.length≤60:=by
 unfold few at h;rw[bT,List.all_eq_true]at h;exact⟨fun x hx=>by simpa using h.1 x hx,by simpa using h.2⟩
def kS(t n:Nat)(r:Fs):Fs:=.cons t 0 n ByteArray.empty .nil r
end Go.PM
namespace Go.Proofs.YtgidfnhfgiehjaaGreatDoor
open Go.RowKit Go.PM
set_option maxRecDepth 100000
set_option maxHeartbeats 4000000
theorem wV(t n:Nat)(w:World) :
 Calls Tryz.prog 87 #[.int .u64 (t:Int),.int .u64 (n:Int)] w (aj w (.agg #[.int .u64 (t:Int),.int .i64 0,.int .u64 (n:Int),.string ByteArray.empty,.slice none 0 0])):=by
 go_enter Tryz.func87,Tryz.ntmps87
 go_wp2
 exact bodyPost_ret (v:=.agg #[.int .u64 (t:Int),.int .i64 0,.int .u64 (n:Int),.string ByteArray.empty,.slice none 0 0]) (by simp[results,Tryz.results87,go_sem];try rfl) rfl ⟨rfl,ba b0 _⟩
theorem adx(a b:Nat)(w:World):eF (w.alloc (.cells #[.int .u64 (a:Int),.int .i64 0,.int .u64 0,.string ByteArray.empty,.slice none 0 0,.int .u64 (b:Int),.int .i64 0,.int .u64 0,.string ByteArray.empty,.slice none 0 0] 47)) (fun _=>True) (.slice (some ⟨w.heap.size,0,none⟩) 2 2) (kS a 0 (kS b 0 .nil)):=by
 have hb:=dU.made w 47 #[.int .u64 (a:Int),.int .i64 0,.int .u64 0,.string ByteArray.empty,.slice none 0 0,.int .u64 (b:Int),.int .i64 0,.int .u64 0,.string ByteArray.empty,.slice none 0 0];exact Pz (f:=kS a 0 (kS b 0 .nil)) hb ⟨rfl,rfl,rfl,rfl,eF.nil _ _ _ _,rfl,rfl,rfl,rfl,eF.nil _ _ _ _,trivial⟩ trivial (au 2)
theorem aeR(w:World)(hT:Tabs w) :
 Calls Tryz.prog 316 #[] w (aj w (.bool true)):=by
 have HT:=ah (afa w hT)
 have H1:Hid (∀W:World,Calls Tryz.prog 46 #[.slice (some ⟨W.heap.size,0,none⟩) 2 2] (W.alloc (.cells #[.int .u64 2,.int .i64 0,.int .u64 0,.string ByteArray.empty,.slice none 0 0,.int .u64 1,.int .i64 0,.int .u64 0,.string ByteArray.empty,.slice none 0 0] 47)) fun e w'=>e=.returned (.int .i64 7)∧Below (W.heap.size+1) (W.alloc (.cells #[.int .u64 2,.int .i64 0,.int .u64 0,.string ByteArray.empty,.slice none 0 0,.int .u64 1,.int .i64 0,.int .u64 0,.string ByteArray.empty,.slice none 0 0] 47)) w'):=fun W=>by
  have:=Jg _ _ _ _ (adx 2 1 W) ⟨⟨by unfold In64;omega,by unfold iK;omega,by unfold In64;omega,by decide⟩,trivial,⟨by unfold In64;omega,by unfold iK;omega,by unfold In64;omega,by decide⟩,trivial,trivial⟩ (by decide);rw[show fM (kS 2 0 (kS 1 0 .nil)) 0 0=7 by decide]at this;refine this.mono ?_;rintro e w' ⟨h1,h2⟩;rw[World.size_alloc]at h2;exact⟨h1,h2⟩
 have H2:Hid (∀W:World,Calls Tryz.prog 46 #[.slice (some ⟨W.heap.size,0,none⟩) 2 2] (W.alloc (.cells #[.int .u64 1,.int .i64 0,.int .u64 0,.string ByteArray.empty,.slice none 0 0,.int .u64 2,.int .i64 0,.int .u64 0,.string ByteArray.empty,.slice none 0 0] 47)) fun e w'=>e=.returned (.int .i64 0)∧Below (W.heap.size+1) (W.alloc (.cells #[.int .u64 1,.int .i64 0,.int .u64 0,.string ByteArray.empty,.slice none 0 0,.int .u64 2,.int .i64 0,.int .u64 0,.string ByteArray.empty,.slice none 0 0] 47)) w'):=fun W=>by
  have:=Jg _ _ _ _ (adx 1 2 W) ⟨⟨by unfold In64;omega,by unfold iK;omega,by unfold In64;omega,by decide⟩,trivial,⟨by unfold In64;omega,by unfold iK;omega,by unfold In64;omega,by decide⟩,trivial,trivial⟩ (by decide);rw[show fM (kS 1 0 (kS 2 0 .nil)) 0 0=0 by decide]at this;refine this.mono ?_;rintro e w' ⟨h1,h2⟩;rw[World.size_alloc]at h2;exact⟨h1,h2⟩
 have hb1:Below w.heap.size w w:=b0
 clear hT
 go_enter Tryz.func316,Tryz.ntmps316
 go_wp2_with fail
 refine(HT.out).mono ?_
 rintro e w1 ⟨rfl,hb2⟩
 replace hb1:=bb hb1 hb2
 clear hb2
 go_wp2_with fail
 refine(wV 2 0 _).mono ?_
 rintro e w2 ⟨rfl,hb2⟩
 replace hb1:=bb hb1 hb2
 clear hb2
 go_wp2_with fail
 refine(wV 1 0 _).mono ?_
 rintro e w3 ⟨rfl,hb2⟩
 replace hb1:=bb hb1 hb2
 clear hb2
 go_wp2_with fail
 refine(H1.out _).mono ?_
 rintro e w4 ⟨rfl,hb2⟩
 replace hb1:=bb hb1 (bb (ba b0 _) (by rw[World.size_alloc];exact hb2))
 clear hb2
 go_wp2_with fail
 refine(wV 1 0 _).mono ?_
 rintro e w5 ⟨rfl,hb2⟩
 replace hb1:=bb hb1 hb2
 clear hb2
 go_wp2_with fail
 refine(wV 2 0 _).mono ?_
 rintro e w6 ⟨rfl,hb2⟩
 replace hb1:=bb hb1 hb2
 clear hb2
 go_wp2_with fail
 refine(H2.out _).mono ?_
 rintro e w7 ⟨rfl,hb2⟩
 replace hb1:=bb hb1 (bb (ba b0 _) (by rw[World.size_alloc];exact hb2))
 clear hb2
 go_wp2
 go_ret
 exact⟨rfl,hb1⟩
theorem afb(w:World)(hT:Tabs w):Calls Tryz.prog 315 #[] w (aj w (.bool true)):=by
 have H:=ah (aeR w hT);clear hT;go_enter Tryz.func315,Tryz.ntmps315;go_wp2_with fail;refine H.out.mono ?_;rintro e w' ⟨rfl,hb⟩;go_wp2;go_ret;exact⟨rfl,hb⟩
end Go.Proofs.YtgidfnhfgiehjaaGreatDoor
end
namespace Go.Proofs.YtgidfnhfgiehjaaGreatDoor
open Go.PM Go.RowKit Go.Sort Go.Proofs.Tryz
set_option maxRecDepth 100000
set_option maxHeartbeats 4000000
attribute [local go_sem ↓] Go.wp_at_zero Go.wp_at_succ
def qx(w:World)(I:Nat→Prop):List Value→List Fs→Prop
 |[],[]=>True
 |v::vs,f::fs=>eF w I v f∧qx w I vs fs
 |_,_=>False
theorem qx.len{w:World}{I:Nat→Prop}:∀{vs:List Value} {fs:List Fs},qx w I vs fs→vs.length=fs.length
 |[],[],_=>rfl
 |_::_,_::_,h=>by rw[bK,bK,qx.len h.2]
 |[],_::_,h=>h.elim
 |_::_,[],h=>h.elim
theorem qx.at_{w:World}{I:Nat→Prop}:∀{vs:List Value} {fs:List Fs} (k:Nat) (hv:k<vs.length) (hf:k<fs.length),qx w I vs fs→eF w I vs[k] fs[k]
 |_::_,_::_,0,_,_,h=>h.1
 |_::vs,_::fs,k+1,hv,hf,h=>by simpa using qx.at_ k (by simpa using hv) (by simpa using hf) h.2
 |[],_::_,_,_,_,h=>h.elim
 |_::_,[],_,_,_,h=>h.elim
 |[],[],_,hv,_,_=>by simp at hv
theorem qx.map{w w':World}{I J:Nat→Prop}(hs:∀v f,eF w I v f→eF w' J v f):∀{vs:List Value} {fs:List Fs},qx w I vs fs→qx w' J vs fs
 |[],[],_=>trivial
 |_::_,_::_,h=>⟨hs _ _ h.1,qx.map hs h.2⟩
 |[],_::_,h=>h.elim
 |_::_,[],h=>h.elim
theorem qx.below{w w':World}{I:Nat→Prop}{vs:List Value}{fs:List Fs}(h:qx w I vs fs)(hb:Below w.heap.size w w'):qx w' I vs fs:=h.map fun _ _ k=>k.below hb
theorem qx.lt{w:World}{I:Nat→Prop}{vs:List Value}{fs:List Fs}(h:qx w I vs fs):qx w (fun k=>I k∧k<w.heap.size) vs fs:=h.map fun _ _ k=>k.lt
theorem Jo(g:Fs):∀l:List Fs,iT (l++[g])=(iT l).app g
 |[]=>by rw[List.nil_append,iT,iT,iT,Fs.xJ];rfl
 |f::r=>by rw[dI,iT,Jo g r,iT,Fs.I9]
theorem SL:∀l m:List Fs,iT (l++m)=(iT l).app (iT m)
 |[],m=>rfl
 |f::r,m=>by rw[dI,iT,SL r m,iT,Fs.I9]
theorem SK(f:Fs)(r:List Fs):mO (f::r)=if fM f 0 0≠0 then fM f 0 0 else mO r:=rfl
theorem Nu(g:Fs):∀l:List Fs,mO (l++[g])=if mO l≠0 then mO l else fM g 0 0
 |[]=>by
   have e:mO []=0:=rfl;rw[List.nil_append,SK,e];by_cases h:fM g 0 0=0<;>simp[h]
 |f::r=>by
   rw[dI,SK,SK,Nu g r];by_cases h:fM f 0 0=0<;>simp[h]
theorem aaf(m:List Fs):∀l:List Fs,mO l≠0→mO (l++m)=mO l
 |[],h=>aJ rfl h
 |f::r,h=>by
   rw[dI,mO,mO];by_cases hf:fM f 0 0=0
   ·rw[mO,ay (by simpa using hf)]at h
    rw[ay (by simpa using hf),ay (by simpa using hf),aaf m r h]
   rw[aA hf,aA hf]
theorem aag{l:List Fs}{k:Nat}(hk:k<l.length)(h0:mO (l.take k)=0)(h1:fM l[k] 0 0≠0):mO l=fM l[k] 0 0:=by
 have h2:mO (l.take k++[l[k]])=fM l[k] 0 0:=by rw[Nu,ay (by simpa using h0)]
 rw[aT]at h2;have h3:=aaf (l.drop (k+1)) (l.take (k+1)) (by rw[h2];exact h1);rw[dG,h2]at h3;exact h3
theorem aaj(l:List Fs)(k:Nat)(hk:k<l.length):(iT (l.take k)).count+l[k].count≤(iT l).count:=by
 have h:iT l=((iT (l.take k)).app l[k]).app (iT (l.drop (k+1))):=by
  rw[← Jo,aT,← SL,dG]
 rw[h,Fs.Bq,Fs.Bq];omega
theorem aai{P:Nat→Int→Nat→ByteArray→Prop}:∀{l:List Fs},(∀f∈l,f.All P)→(iT l).All P
 |[],_=>trivial
 |f::r,h=>Fs.All.app (h f (by simp)) (aai fun x hx=>h x (by simp[hx]))
theorem KH:∀{f:Fs} {k:Nat} {t:Nat} {y:Int} {n:Nat} {s:ByteArray} {i r:Fs},f.drop k=.cons t y n s i r→f.eP[k]?=some ⟨t,y,n,s,i⟩
 |f,0,t,y,n,s,i,r,h=>by
   have:f=.cons t y n s i r:=(by cases f<;>exact h);rw[this];rfl
 |.cons t' y' n' s' i' r',k+1,t,y,n,s,i,r,h=>by
   rw[Fs.eP,List.getElem?_cons_succ];exact KH h
 |.nil,_+1,_,_,_,_,_,_,h=>by cases h
theorem aaI{w:World}{I:Nat→Prop}{l:List Fl}{b:Nat}(h:gX w I (fB l) b 0)(k:Nat)(hk:k<l.length):w.cell? ⟨b,0+k*5,none⟩=some (.int .u64 (l[k].tag:Int)):=by
 have hkl:k<(fB l).len:=by rw[wU];exact hk
 obtain⟨t,y,n,s,i,hd,_⟩:=(fB l).drop_cons k hkl;have h1:=h.drop k;rw[hd]at h1;have h2:=KH hd;rw[qM,aP hk]at h2;injection h2 with h2;rw[h2];exact h1.1
def MO(w:World)(fs:List Fs)(k:Nat)(vv:Value)(wr:World):Prop :=
 ∃(A:Option Addr) (c:Nat) (xs:List Value),vv=.slice A (iT (fs.take k)).len c∧wr.ownsRow w.heap.size 47 5 (.slice A (iT (fs.take k)).len c) (iT (fs.take k)).len xs∧Cls wr (fun q=>q<w.heap.size) xs (iT (fs.take k))∧Below w.heap.size w wr∧mO (fs.take k)=0
def Bj(w:World)(r:Fs×Nat)(e:Ending)(w':World):Prop :=
 ∃(A:Option Addr) (c:Nat),e=.returned (.tuple #[.slice A r.1.len c,.int .i64 (r.2:Int)])∧eF w' (w.heap.size≤·) (.slice A r.1.len c) r.1∧Below w.heap.size w w'
theorem merge_any(A:Option Addr)(cap:Nat)(fs:List Fs)(vs:List Value)(I:Nat→Prop)(w:World)(hr:Rd w A vs)(hv:qx w I vs fs)(hk:∀f∈fs,f.All mF)(hc:(iT fs).count≤1000000)(hl:fs.length≤1000000) :
 Calls prog 45 #[.slice A fs.length cap] w (Bj w (jG fs)):=by
 have HR:=ah hr
 have HV:=ah hv.lt
 have hvl:=hv.len
 have HK:=ah hk
 have HC:=ah hc
 have HL:=ah hl
 obtain⟨i0,hi0,hz0,hz1,hz2⟩:=info_parts EH
 have H0:Hid (MO w fs 0 (.slice none 0 0) w):=by
  refine⟨none,0,[],?_,?_,?_,b0,rfl⟩
  ·rfl
  ·exact World.ownsRow_nil _ _ _ _
  exact trivial
 clear hr hv hk
 go_enter func45,ntmps45
 go_wp2_with fail
 go_loopg [4,11] fs.length (fun gk vv ki wr=>∃k:Nat,k≤fs.length∧fs.length - k≤gk∧ki=.int .i64 (k:Int)∧Hid (MO w fs k vv wr))
 case atStart=>exact⟨0,aW _,by omega,rfl,H0⟩
 case round=>
  obtain⟨k,hkl,hgk,rfl,HM⟩:=hrel;obtain⟨A1,c1,xs,rfl,hown,hcls,hb,hbad⟩:=HM.out;by_cases hlt:k<fs.length
  ·obtain⟨b,off,rfl,hbl,hcell⟩:=(HR.out.below hb).at_ (k:=k) (by omega)
   have hsk:=HV.out.at_ k (by omega) hlt;obtain⟨B,cB,BR,_⟩:=id hsk;rw[BR]at hcell hsk;have HS:=ah hsk;have HOWN:=ah hown;have sK:=ah hcls;have HB:=ah hb;have HBAD:=ah hbad;have hcnt:=aaj fs k hlt;have HKK:=ah (HK.out _ (aS hlt));have C9:Hid (mO (fs.take (k+1))=fM fs[k] 0 0∧iT (fs.take (k+1))=(iT (fs.take k)).app fs[k]):=by
    refine⟨?_,?_⟩
    ·rw[← aT hlt,Nu,ay (by simpa using hbad)]
    rw[← aT hlt,Jo]
   have oM:Hid (fM fs[k] 0 0≠0→jG fs=(.nil,fM fs[k] 0 0)):=fun h=>by
    have:=aag hlt hbad h;unfold jG;rw[this,aA h]
   have hcC:=HC.out;generalize fs[k]=g at *;generalize iT (fs.take k)=F at *;have hgc:g.count≤1000000:=(by omega);have hFl:=F.kH;have hgl:=g.kH;clear hown hcls hb hbad hsk BR;have jw:Hid (∀x:World,Below wr.heap.size wr x→Calls prog 46 #[.slice B g.len cB] x (aj x (.int .i64 (fM g 0 0:Int)))):=fun x hx=>Jg _ g _ x ((HS.out.below HB.out).below hx) HKK.out hgc;go_wp2_with fail;refine(jw.out _ b0).mono ?_;rintro e w2 ⟨rfl,hb2⟩;have HB2:=ah hb2;clear hb2;by_cases hck:fM g 0 0=0
   ·have hs2:eF w2 (fun q=>q<w.heap.size) (.slice B g.len cB) g:=((HS.out.below HB.out).below HB2.out).imp fun q hq=>hq.2
    have hown2:=own_below HOWN.out HB2.out;have JE:=sK.out.below HB2.out;have hob:∀q,q<w.heap.size→(Value.slice A1 F.len c1).ownBlock≠some q:=fun q hq hh=>(by have h1:=(HOWN.out.lt q hh).1;omega);obtain⟨A2,c2,w3,xs2,hrun,hown3,BL,hgr,_⟩:=Gu (P:=prog) 33 33 47 i0 underlying33 hi0 hz0 hz1 hz2 hown2 JE hob hs2 hob (by omega) (aI HB.out.size HB2.out.size);have lC:=ah hrun;have HN:Hid (MO w fs (k+1) (.slice A2 (F.app g).len c2) w3):=by
     have e1:=C9.out.1;have e2:=C9.out.2;unfold MO;rw[e1,e2];refine⟨A2,c2,xs2,rfl,hown3,BL.imp fun q hq=>?_,?_,hck⟩
     ·rcases hq.1 with h|h<;>exact h
     exact(HB.out.trans (HB2.out.mono HB.out.size)).trans (dX.grown (S:=fun q=>(Value.slice A1 F.len c1).ownBlock=some q) hgr (fun q hq _=>hq) |>.iI (aI HB.out.size HB2.out.size) fun q hq hh=>by have h1:=(HOWN.out.lt q hh).1;omega)
    have aoc:=ah hck;rw[hck];clear hs2 hown2 JE hob hrun hown3 BL hgr hck;go_wp2_with(at_builtin;(refine wpList_append_run rfl _ _ _ _ rfl _ _ _ rfl rfl lC.out ?_));go_roundg (fs.length - (k+1))
    case measure=>omega
    case rel=>exact⟨k+1,by omega,au _,by go_num,HN⟩
   have HE:Hid (∀w',Below w2.heap.size w2 w'→Bj w (jG fs) (.returned (.tuple #[.slice none 0 0,.int .i64 (fM g 0 0:Int)])) w'):=fun w' hb=>by
    rw[oM.out hck];exact⟨none,0,rfl,eF.nil _ _ _ _,bb (bb HB.out HB2.out) hb⟩
   generalize fM g 0 0=G at *;have hgi:((G:Int) != 0)=true:=(by rw[aZ];omega);clear hck C9 oM;go_wp2_with fail;go_ret2;exact HE.out _ b0
  obtain rfl:k=fs.length:=by omega
  rw[aU (au _)]at hown hcls hbad⊢;have iY:Hid (jG fs=vI (iT fs)):=by unfold jG;rw[hbad];rfl
  have hFl:=aI (iT fs).kH HC.out;have Un:=aai HK.out;have HB:=ah hb;have HOWN:=ah hown;have sK:=ah hcls;generalize iT fs=F at *;by_cases hz:F.len=0
  ·have yV:=Fs.jr hz
   have IJ:Hid (∀x:World,Calls prog 91 #[.slice A1 0 c1,.func (.func 92) #[] #[]] x fun e w'=>e=.returned (.tuple #[])∧w'=x):=fun x=>AnyF.slices_SortFunc_none sortFld A1 c1 (.func (.func 92) #[] #[]) x;have mG:Hid (∀x:World,Calls prog 49 #[.slice A1 0 c1] x (Fg x .nil)):=fun x=>Ji _ .nil (fun _=>True) x (eF.nil _ _ _ _) (by decide);have HE:Hid (∀(A:Option Addr) (c:Nat) (w':World),Below w.heap.size w w'→Bj w (jG fs) (.returned (.tuple #[.slice A 0 c,.int .i64 0])) w'):=fun A c w' hb=>by
    have e:vI .nil=(.nil,0):=rfl;rw[iY.out,yV,e];exact⟨A,c,rfl,eF.nil _ _ _ _,hb⟩
   clear hown hcls hb hbad HM HOWN sK iY Un yV;rw[hz];go_wp2_with fail;refine(IJ.out _).mono ?_;rintro e w2 ⟨rfl,rfl⟩;go_wp2_with fail;go_loopg [8] 0 (fun Gz vi w3=>vi=.int .i64 1∧w3=w2)
   case atStart=>exact⟨rfl,rfl⟩
   case round=>
    obtain⟨rfl,rfl⟩:=hrel;go_wp2_with fail;refine(mG.out _).mono ?_;rintro e w4 ⟨A4,c4,g4,zo,rfl,_,_,_,_,_,hb4⟩;have Ql:=ah (HE.out A4 c4 w4 (bb HB.out hb4));clear hb4;simp only[Fs.len];go_wp2_with fail;go_ret2;exact Ql.out
  obtain⟨g,rfl,hbg⟩:∃g,A1=some ⟨g,0,none⟩∧w.heap.size≤g:=by
   rcases hown.2 with⟨_,h0⟩|⟨g,cap',cur,hv,hbg,_⟩
   ·exact aJ h0 hz
   injection hv with h1;exact⟨g,h1,hbg⟩
  have HST:=ah (amO hown hcls (fun q hq=>by omega) hFl);have CV:=ah HC.out;have HKK:=ah Un;clear hown hcls hb hbad HM HOWN sK Un;go_wp2_with fail;refine HST.out.mono ?_;rintro e w2 ⟨rfl,l,l',xs',hF,hp,hs,hown2,JE,hgr⟩;have hgl:g<w2.heap.size:=(hown2.lt g rfl).2;have hat:gX w2 (fun q=>q<w.heap.size) (fB l') g 0:=Cls.at_ JE fun j u hj=>by
   have:=hown2.cells (g:=g) rfl j u hj
   rwa [rV,← aX j]at this
  have hll:l'.length=F.len:=by rw[hF,wU];exact hp.length_eq.symm
  have TI:F.len≤c1:=by
   rcases hown2.2 with⟨h,_⟩|⟨g',cap',cur,hv,_,_,hn,_⟩
   ·cases h
   injection hv with h1 h2 h3;omega
  have hb2:=bg HB.out hgr hbg;have HSL:Hid (eF w2 (fun _=>True) (.slice (some ⟨g,0,none⟩) F.len c1) (fB l')):=⟨some ⟨g,0,none⟩,c1,by rw[wU,hll],by rw[wU,hll];exact TI,.inr ⟨g,0,rfl,trivial,hgl,hat.imp fun _ _=>trivial⟩⟩;have hcl':(fB l').count≤1000000:=by rw[← akc hp,← hF];exact CV.out
  have mG:Hid (∀x:World,Below w2.heap.size w2 x→Calls prog 49 #[.slice (some ⟨g,0,none⟩) F.len c1] x fun e w'=>∃(A:Option Addr) (c:Nat),e=.returned (.slice A F.len c)∧eF w' (x.heap.size≤·) (.slice A F.len c) (fB l')∧Below x.heap.size x w'):=fun x hx=>by
   refine(Ji _ (fB l') _ x (HSL.out.below hx) hcl').mono ?_;rintro e w' ⟨A,c,g0,xs,rfl,hcc,hown,hcls,hg0,ait,hb⟩;obtain⟨A9,c9,vO,hs9⟩:=Kv hown (hcls.imp (J:=fun q=>x.heap.size≤q) fun q hq=>by have:=hq.1;omega) fun q hq=>hq;injection vO with h1 h2 h3;subst h1 h3;have e1:(fB l').len=F.len:=(by rw[wU,hll]);rw[e1]at hs9⊢;exact⟨A,c,rfl,hs9,hb⟩
  have aen:Hid ((∀q (h:q+1<l'.length),l'[q].tag≠l'[q+1].tag)→jG fs=(fB l',0)):=fun h=>by rw[iY.out,hF];exact ahf hp hs h
  have rO:Hid (∀q (h:q+1<l'.length),l'[q].tag=l'[q+1].tag→jG fs=(.nil,14)):=fun q h he=>by rw[iY.out,hF];exact ahe hp h he
  have HAT:=ah hat
  have HB2:=ah hb2;have AY:=ah hll;clear hat hb2 hF hp hs hown2 JE hgr hll TI hcl' HST HB iY;go_wp2_with fail;go_loopg [8] F.len (fun Gz vi w3=>∃i:Nat,1≤i∧i≤F.len∧F.len - i≤Gz∧vi=.int .i64 (i:Int)∧Below w2.heap.size w2 w3∧Hid (∀q (h:q+1<l'.length),q+1<i→l'[q].tag≠l'[q+1].tag))
  case atStart=>exact⟨1,au _,by omega,by omega,rfl,b0,fun q h h1=>by omega⟩
  case round=>
   obtain⟨i,hi1,hi2,aa8,rfl,hb3,XK⟩:=hrel;obtain⟨j,hj⟩:∃j,i=j+1:=⟨i - 1,by omega⟩;have hji:(i:Int) - 1=(j:Int):=(by omega);by_cases hil:i<F.len
   ·have aie:i<l'.length:=by rw[AY.out];exact hil
    have ci:=(World.cell?_of_block (a:=⟨g,0+i*5,none⟩) (hb3.block g hgl)).trans (aaI HAT.out i aie);have cj:=(World.cell?_of_block (a:=⟨g,0+j*5,none⟩) (hb3.block g hgl)).trans (aaI HAT.out j (by omega));have hj1:j+1<l'.length:=(by omega);have yx:Hid (l'[i].tag=l'[j].tag→jG fs=(.nil,14)):=fun h=>rO.out j hj1 (by rw[← h];congr 2);have kP:Hid (l'[i].tag≠l'[j].tag→∀q (h:q+1<l'.length),q+1<i+1→l'[q].tag≠l'[q+1].tag):=fun h q h1 h2=>by
     by_cases hq:q+1=i
     ·have:q=j:=by omega
      subst this;intro e;exact h (by rw[e];congr 2)
     exact XK.out q h1 (by omega)
    generalize l'[i].tag=ti at *;generalize l'[j].tag=tj at *;simp only[aX]at ci cj;have hij:(i:Int)<(F.len:Int):=(by omega);have hjF:(j:Int)<(F.len:Int):=(by omega);have HB3:=ah hb3;clear hj hb3;by_cases het:ti=tj
    ·have hti:((ti:Int)==(tj:Int))=true:=by rw[bF];omega
     have HE:Hid (∀w',Below w.heap.size w w'→Bj w (jG fs) (.returned (.tuple #[.slice none 0 0,.int .i64 14])) w'):=fun w' hb=>by
      rw[yx.out het];exact⟨none,0,rfl,eF.nil _ _ _ _,hb⟩
     clear het;go_wp2_with fail;go_quiet(fail);go_wp2_with fail;go_ret2;exact HE.out _ (bn (bb HB2.out HB3.out) _)
    have hti:((ti:Int)==(tj:Int))=false:=(by rw[aB];omega);have aee:=ah (kP.out het);clear het kP yx;go_wp2_with fail;go_quiet(fail);go_wp2_with fail;go_roundg (F.len - (i+1))
    case measure=>omega
    case rel=>exact⟨i+1,by omega,by omega,au _,by go_num,bn HB3.out _,aee⟩
   obtain rfl:i=F.len:=(by omega);have HE:Hid (∀(A:Option Addr) (c:Nat) (w':World),eF w' (w.heap.size≤·) (.slice A F.len c) (fB l')→Below w.heap.size w w'→Bj w (jG fs) (.returned (.tuple #[.slice A F.len c,.int .i64 0])) w'):=fun A c w' hs hb=>by
    rw[aen.out fun q h=>XK.out q h (by rw[← AY.out];exact h)];have e1:(fB l').len=F.len:=(by rw[wU,AY.out]);unfold Bj;simp only[e1];exact⟨A,c,rfl,hs,hb⟩
   have HB3:=ah (bb HB2.out hb3);have ad3:=ah (mG.out _ hb3);clear hb3 hj hji;go_wp2_with fail;refine ad3.out.mono ?_;rintro e w4 ⟨A4,c4,rfl,hs4,hb4⟩;have Ql:=ah (HE.out A4 c4 w4 (hs4.imp fun q hq=>aI HB3.out.size hq) (bb HB3.out hb4));clear hs4 hb4;go_wp2_with fail;go_ret2;exact Ql.out
end Go.Proofs.YtgidfnhfgiehjaaGreatDoor
namespace Go.Proofs.YtgidfnhfgiehjaaGreatDoor
open Go.PM Go.RowKit Go.Proofs.Tryz
set_option maxRecDepth 100000
set_option maxHeartbeats 4000000
theorem Hg(t:Nat)(s:ByteArray)(w:World) :
 Calls prog 89 #[.int .u64 (t:Int),.string s] w (aj w (.agg #[.int .u64 (t:Int),.int .i64 1,.int .u64 0,.string s,.slice none 0 0])):=by
 go_enter func89,ntmps89
 go_wp2
 exact bodyPost_ret (v:=.agg #[.int .u64 (t:Int),.int .i64 1,.int .u64 0,.string s,.slice none 0 0]) (by simp[results,results89,go_sem];try rfl) rfl ⟨rfl,ba b0 _⟩
def Ec:Fs:=kS 1 300 (.cons 2 1 0 ⟨#[97,98]⟩ .nil .nil)
theorem aac:eu Ec=[4,172,2,9,2,97,98]:=by
 have e1:dY (4*1+Int.toNat 0)=[4]:=kL (by decide);have e2:dY 300=[172,2]:=by rw[EZ (by decide),kL (by decide)];rfl
 have e3:dY (4*2+Int.toNat 1)=[9]:=kL (by decide);have e4:dY (ByteArray.mk #[97,98]).size=[2]:=kL (by decide);show dY (4*1+Int.toNat 0)++(dY 300++(dY (4*2+Int.toNat 1)++((dY (ByteArray.mk #[97,98]).size++[97,98])++[])))=_;rw[e1,e2,e3,e4];rfl
theorem Z9:txt (kT Ec).1=⟨#[4,172,2,9,2,97,98]⟩∧(kT Ec).2=0:=by
 have h1:fM Ec 0 0=0:=by decide
 unfold kT;rw[h1,ay (by simp),aac,ay (by decide)];exact⟨rfl,rfl⟩
theorem aeS(w:World)(hT:Tabs w) :
 Calls prog 314 #[] w (aj w (.bool true)):=by
 have hb1:Below w.heap.size w w:=b0
 have HA:Hid (∀x:World,Below w.heap.size w x→Calls prog 315 #[] x (aj x (.bool true))):=fun x hx=>afb x (hT.below hx)
 have H1:Hid (∀W:World,Calls prog 14 #[.slice (some ⟨W.heap.size,0,none⟩) 2 2] (W.alloc (.cells #[.int .u64 1,.int .i64 0,.int .u64 300,.string ByteArray.empty,.slice none 0 0,.int .u64 2,.int .i64 1,.int .u64 0,.string ⟨#[97,98]⟩,.slice none 0 0] 47)) (aj W (.tuple #[.string ⟨#[4,172,2,9,2,97,98]⟩,.int .i64 0]))):=fun W=>by
  have hs:eF (W.alloc (.cells #[.int .u64 1,.int .i64 0,.int .u64 300,.string ByteArray.empty,.slice none 0 0,.int .u64 2,.int .i64 1,.int .u64 0,.string ⟨#[97,98]⟩,.slice none 0 0] 47)) (fun _=>True) (.slice (some ⟨W.heap.size,0,none⟩) 2 2) Ec :=
   Pz (f:=Ec) (dU.made W _ _) ⟨rfl,rfl,rfl,rfl,eF.nil _ _ _ _,rfl,rfl,rfl,rfl,eF.nil _ _ _ _,trivial⟩ trivial (au 2)
  have:=adR _ Ec _ _ hs ⟨⟨by unfold In64;omega,by unfold iK;omega,by unfold In64;omega,by decide⟩,trivial,⟨by unfold In64;omega,by unfold iK;omega,by unfold In64;omega,by decide⟩,trivial,trivial⟩ (by decide) (by rw[aac];decide);rw[Z9.1,Z9.2]at this;exact this.mono fun e w' h=>⟨h.1,bb (ba b0 _) h.2⟩
 clear hT
 go_enter func314,ntmps314
 go_wp2_with fail
 refine(wV 1 300 _).mono ?_
 rintro e w2 ⟨rfl,hb2⟩
 replace hb1:=bb hb1 hb2
 clear hb2
 go_wp2_with fail
 refine(Hg 2 ⟨#[97,98]⟩ _).mono ?_
 rintro e w3 ⟨rfl,hb2⟩
 replace hb1:=bb hb1 hb2
 clear hb2
 go_wp2_with fail
 refine(H1.out _).mono ?_
 rintro e w4 ⟨rfl,hb2⟩
 replace hb1:=bb hb1 hb2
 clear hb2
 go_wp2_with fail
 refine(HA.out _ hb1).mono ?_
 rintro e w5 ⟨rfl,hb2⟩
 replace hb1:=bb hb1 hb2
 clear hb2
 go_wp2
 go_ret
 exact⟨rfl,hb1⟩
theorem afc(w:World)(hT:Tabs w):Calls prog 311 #[] w (aj w (.bool true)):=by
 have H:=ah (aeS w hT);clear hT;go_enter func311,ntmps311;go_wp2_with fail;refine H.out.mono ?_;rintro e w' ⟨rfl,hb⟩;go_wp2;go_ret;exact⟨rfl,hb⟩
theorem Tt:∀{f:Fs},f.All sH→f.count≤1000000→(eu f).length≤330*f.count
 |.nil,_,_=>by simp[eu]
 |.cons t y n s i r,hk,h60=>by
   simp only[Fs.count]at h60;have hi:=Tt (f:=i) hk.2.1 (by omega);have hr:=Tt (f:=r) hk.2.2 (by omega);obtain⟨h1,h2,h3,h4⟩:=hk.1;have e1:fH (4*t+y.toNat)≤10:=Wn 9 _ (by have:(128:Nat) ^ (9+1)=1180591620717411303424:=(by decide);unfold In64 at h1;omega);have e2:=iJ h3;have e3:fH s.size≤10:=iJ (by show s.size<18446744073709551616;omega);have e4:fH (eu i).length≤10:=iJ (by show(eu i).length<18446744073709551616;omega);simp only[eu,Fs.count,aC,fO];by_cases y0:y=0
   ·rw[aA y0,fO];omega
   rw[ay y0];by_cases y1:y=1
   ·rw[aA y1,aC,fO,fK];omega
   rw[ay y1,aC,fO];omega
end Go.Proofs.YtgidfnhfgiehjaaGreatDoor
namespace Go.Proofs.YtgidfnhfgiehjaaGreatDoor
open Go.PM Go.RowKit Go.Proofs.Tryz
set_option maxRecDepth 100000
set_option maxHeartbeats 4000000
attribute [local go_sem ↓] Go.wp_at_zero Go.wp_at_succ
theorem aiJ:(prog.info? 22).map (fun i=>(i.zero,i.size,i.bytes))=some (some (.int .u64 0),1,8):=by kernel_rfl
def zV(f:Fs):List Nat:=f.eP.map Fl.tag
theorem aaL(f:Fs):(zV f).length=f.len:=by rw[zV,aY,oK]
theorem ada{w:World}{I:Nat→Prop}{A:Option Addr}{c:Nat}{f:Fs}(h:eF w I (.slice A f.len c) f)(k:Nat)(hk:k<f.len) :
 ∃b o,A=some ⟨b,o,none⟩∧b<w.heap.size∧w.cell? ⟨b,o+k*5,none⟩=some (.int .u64 ((f.eP[k]'(by rw[oK];exact hk)).tag:Int)):=by
 obtain⟨A',c',hv,hc,hor⟩:=h
 injection hv with e1 e2 e3
 subst e1 e3
 rcases hor with h0|⟨b,o,rfl,hI,hb,hat⟩
 ·omega
 ·obtain⟨t,y,n,s,i,hd,_⟩:=f.drop_cons k hk
  have h1:=hat.drop k;rw[hd]at h1;have h2:=KH hd;rw[aP (by rw[oK];exact hk)]at h2;injection h2 with h2;rw[h2];exact⟨b,o,rfl,hb,h1.1⟩
theorem am5(A:Option Addr)(c:Nat)(f:Fs)(I:Nat→Prop)(w:World)(hr:eF w I (.slice A f.len c) f)(hl:f.len≤1000000) :
 Calls prog 312 #[.slice A f.len c] w fun e w'=>∃(A':Option Addr) (c':Nat),e=.returned (.slice A' f.len c')∧PM.Rd w' A' (mY (zV f))∧f.len≤c'∧Below w.heap.size w w':=by
 obtain⟨i0,hi0,hz0,hz1,hz2⟩:=info_parts aiJ
 have HR:=ah hr
 have hcc:f.len≤c:=by obtain⟨A',c',hv,hc,_⟩:=hr;injection hv with e1 e2 e3;omega
 have H0:Hid (w.ownsRow w.heap.size 22 1 (.slice none 0 0) 0 (mY ((zV f).take 0))):=World.ownsRow_nil _ _ _ _
 clear hr
 go_enter func312,ntmps312
 go_wp2_with fail
 go_loopg [3,7] f.len (fun gk vv ki wr=>∃k:Nat,k≤f.len∧f.len - k≤gk∧ki=.int .i64 (k:Int)∧Hid (wr.ownsRow w.heap.size 22 1 vv k (mY ((zV f).take k)))∧Below w.heap.size w wr)
 case atStart=>exact⟨0,aW _,by omega,rfl,H0,b0⟩
 case round=>
  obtain⟨k,hkl,hgk,rfl,HO,hb⟩:=hrel;have HB:=ah hb;by_cases hlt:k<f.len
  ·obtain⟨b,o,rfl,hbl,hcell⟩:=ada (HR.out.below hb) k hlt
   have hkt:k<f.eP.length:=(by rw[oK];exact hlt);have jZ:Hid (mY ((zV f).take (k+1))=mY ((zV f).take k)++[.int .u64 ((f.eP[k]'hkt).tag:Int)]):=by
    show _=_;rw[← aT (show k<(zV f).length by rw[aaL];exact hlt)];simp[mY,zV]
   generalize(f.eP[k]'hkt).tag=t at *;have hwz:=hb.size;clear hb hkt;go_wp2_with(at_builtin;go_must(refine wpList_append_own _ rfl _ _ 97 rfl w.heap.size 22 i0 (.int .u64 0) 1 8 underlying97 hi0 hz0 hz1 hz2 rfl (by decide) _ _ _ rfl (HO.out.alloc _) ⟨wr.heap.size,0,none⟩ 1 1 [.int .u64 (t:Int)] rfl rfl (Ku _ _ _) (acy _ _) (by unfold maxLen;omega) (by omega) (by simp;omega) ?_);intro v1 w2 hown2 hg2 _);go_roundg (f.len - (k+1))
   case measure=>omega
   case rel=>
    refine⟨k+1,by omega,au _,by go_num,?_,RH (ba HB.out _) (HO.out.alloc _) hg2⟩;show World.ownsRow _ _ _ _ _ _ _;rw[jZ.out];exact hown2
  obtain rfl:k=f.len:=by omega
  have ho:=HO.out;rw[aU (by rw[aaL];exact au _)]at ho;obtain⟨A2,c2,rfl,hrd,hn,_⟩:=PM.Rd.own ho;have HE:=ah (And.intro hrd hn);clear ho hrd hn hb HO;go_wp2_with fail;go_ret;exact⟨A2,c2,rfl,HE.out.1,HE.out.2,HB.out⟩
theorem agM:jG [kS 1 0 (kS 3 0 .nil),kS 2 0 .nil]=(kS 1 0 (kS 2 0 (kS 3 0 .nil)),0):=rfl
theorem agN:∀f∈[kS 1 0 (kS 3 0 .nil),kS 2 0 .nil],f.All mF:=by
 intro f hf;simp only[bC,bW,or_false]at hf;rcases hf with rfl|rfl
 ·exact⟨⟨by unfold In64;omega,by unfold iK;omega,by unfold In64;omega,by decide⟩,trivial,⟨by unfold In64;omega,by unfold iK;omega,by unfold In64;omega,by decide⟩,trivial,trivial⟩
 exact⟨⟨by unfold In64;omega,by unfold iK;omega,by unfold In64;omega,by decide⟩,trivial,trivial⟩
theorem aeT(w:World)(hT:Tabs w) :
 Calls prog 307 #[] w (aj w (.bool true)):=by
 have hb1:Below w.heap.size w w:=b0
 have HA:Hid (∀x:World,Below w.heap.size w x→Calls prog 311 #[] x (aj x (.bool true))):=fun x hx=>afc x (hT.below hx)
 clear hT
 go_enter func307,ntmps307
 go_wp2_with fail
 refine(wV 1 0 _).mono ?_
 rintro e w2 ⟨rfl,hb2⟩
 replace hb1:=bb hb1 hb2
 clear hb2
 go_wp2_with fail
 refine(wV 3 0 _).mono ?_
 rintro e w3 ⟨rfl,hb2⟩
 replace hb1:=bb hb1 hb2
 clear hb2
 go_wp2_with fail
 refine(wV 2 0 _).mono ?_
 rintro e w4 ⟨rfl,hb4⟩
 have hx1:=(((dU.made w3 47 #[.int .u64 1,.int .i64 0,.int .u64 0,.string ByteArray.empty,.slice none 0 0,.int .u64 3,.int .i64 0,.int .u64 0,.string ByteArray.empty,.slice none 0 0]).below hb4 (by simp)).more (.cells #[.int .u64 2,.int .i64 0,.int .u64 0,.string ByteArray.empty,.slice none 0 0] 47)).more (.cells #[.slice (some ⟨w3.heap.size,0,none⟩) 2 2,.slice (some ⟨w4.heap.size,0,none⟩) 1 1] 33)
 have hx2:=(dU.made w4 47 #[.int .u64 2,.int .i64 0,.int .u64 0,.string ByteArray.empty,.slice none 0 0]).more (.cells #[.slice (some ⟨w3.heap.size,0,none⟩) 2 2,.slice (some ⟨w4.heap.size,0,none⟩) 1 1] 33)
 have hx3:=dU.made (w4.alloc (.cells #[.int .u64 2,.int .i64 0,.int .u64 0,.string ByteArray.empty,.slice none 0 0] 47)) 33 #[.slice (some ⟨w3.heap.size,0,none⟩) 2 2,.slice (some ⟨w4.heap.size,0,none⟩) 1 1]
 rw[World.size_alloc]at hx3
 have hs1:eF ((w4.alloc (.cells #[.int .u64 2,.int .i64 0,.int .u64 0,.string ByteArray.empty,.slice none 0 0] 47)).alloc (.cells #[.slice (some ⟨w3.heap.size,0,none⟩) 2 2,.slice (some ⟨w4.heap.size,0,none⟩) 1 1] 33)) (fun _=>True) (.slice (some ⟨w3.heap.size,0,none⟩) 2 2) (kS 1 0 (kS 3 0 .nil)):=Pz (f:=(kS 1 0 (kS 3 0 .nil))) hx1 ⟨rfl,rfl,rfl,rfl,eF.nil _ _ _ _,rfl,rfl,rfl,rfl,eF.nil _ _ _ _,trivial⟩ trivial (au 2)
 have hs2:eF ((w4.alloc (.cells #[.int .u64 2,.int .i64 0,.int .u64 0,.string ByteArray.empty,.slice none 0 0] 47)).alloc (.cells #[.slice (some ⟨w3.heap.size,0,none⟩) 2 2,.slice (some ⟨w4.heap.size,0,none⟩) 1 1] 33)) (fun _=>True) (.slice (some ⟨w4.heap.size,0,none⟩) 1 1) (kS 2 0 .nil):=Pz (f:=(kS 2 0 .nil)) hx2 ⟨rfl,rfl,rfl,rfl,eF.nil _ _ _ _,trivial⟩ trivial (au 1)
 have hm:=merge_any (some ⟨w4.heap.size+1,0,none⟩) 2 [(kS 1 0 (kS 3 0 .nil)),(kS 2 0 .nil)] [.slice (some ⟨w3.heap.size,0,none⟩) 2 2,.slice (some ⟨w4.heap.size,0,none⟩) 1 1] (fun _=>True) ((w4.alloc (.cells #[.int .u64 2,.int .i64 0,.int .u64 0,.string ByteArray.empty,.slice none 0 0] 47)).alloc (.cells #[.slice (some ⟨w3.heap.size,0,none⟩) 2 2,.slice (some ⟨w4.heap.size,0,none⟩) 1 1] 33))
  (.inr ⟨_,0,rfl,hx3.lt,fun j u hj=>by rw[aX,hx3.cell j,← bU];exact hj⟩) ⟨hs1,hs2,trivial⟩
  agN (by decide) (by decide)
 rw[agM]at hm
 have HM:Hid (Calls prog 45 #[.slice (some ⟨w4.heap.size+1,0,none⟩) 2 2] ((w4.alloc (.cells #[.int .u64 2,.int .i64 0,.int .u64 0,.string ByteArray.empty,.slice none 0 0] 47)).alloc (.cells #[.slice (some ⟨w3.heap.size,0,none⟩) 2 2,.slice (some ⟨w4.heap.size,0,none⟩) 1 1] 33)) fun e w'=>∃(A:Option Addr) (c:Nat),e=.returned (.tuple #[.slice A 3 c,.int .i64 0])∧eF w' (fun _=>True) (.slice A 3 c) (kS 1 0 (kS 2 0 (kS 3 0 .nil)))∧Below w4.heap.size w4 w'):=hm.mono fun e w' h=>by
  obtain⟨A,c,he,hs,hb⟩:=h;exact⟨A,c,he,hs.imp fun _ _=>trivial,bb (ba (ba b0 _) _) hb⟩
 replace hb1:=bb hb1 (bb (ba b0 _) hb4)
 clear hx1 hx2 hx3 hs1 hs2 hm hb4
 go_wp2_with fail
 refine HM.out.mono ?_
 rintro e w5 ⟨A5,c5,rfl,hs5,hb5⟩
 replace hb1:=bb hb1 hb5
 have QT:=ah hs5
 clear HM hs5 hb5
 go_wp2_with fail
 refine(HA.out _ hb1).mono ?_
 rintro e w6 ⟨rfl,hb6⟩
 replace hb1:=bb hb1 hb6
 have DF:Hid (Calls prog 312 #[.slice A5 3 c5] w6 fun e w'=>∃(A':Option Addr) (c':Nat),e=.returned (.slice A' 3 c')∧PM.Rd w' A' (mY [1,2,3])∧3≤c'∧Below w6.heap.size w6 w'):=am5 A5 c5 (kS 1 0 (kS 2 0 (kS 3 0 .nil))) _ w6 (QT.out.below hb6) (by decide)
 clear hb6
 go_wp2_with fail
 refine DF.out.mono ?_
 rintro e w7 ⟨A7,c7,rfl,hr7,hc7,hb7⟩
 replace hb1:=bb hb1 hb7
 have hx7:=dU.made w7 22 #[.int .u64 1,.int .u64 2,.int .u64 3]
 have yx:Hid (Calls prog 239 #[.slice A7 3 c7,.slice (some ⟨w7.heap.size,0,none⟩) 3 3] (w7.alloc (.cells #[.int .u64 1,.int .u64 2,.int .u64 3] 22)) (aj w7 (.bool true))) :=
  (ZW A7 (some ⟨w7.heap.size,0,none⟩) c7 3 [1,2,3] (w7.alloc (.cells #[.int .u64 1,.int .u64 2,.int .u64 3] 22)) (hr7.below (ba b0 _)) (.inr ⟨_,0,rfl,hx7.lt,fun j u hj=>by rw[aX,hx7.cell j,← bU];exact hj⟩) (by decide)).mono fun e w' h=>⟨h.1,bb (ba b0 _) h.2⟩
 clear hr7 hb7 hx7 DF
 go_wp2_with fail
 refine yx.out.mono ?_
 rintro e w8 ⟨rfl,hb8⟩
 replace hb1:=bb hb1 hb8
 clear hb8
 go_wp2
 go_ret
 exact⟨rfl,hb1⟩
theorem afd(w:World)(hT:Tabs w):Calls prog 297 #[] w (aj w (.bool true)):=by
 have H:=ah (aeT w hT);clear hT;go_enter func297,ntmps297;go_wp2_with fail;refine H.out.mono ?_;rintro e w' ⟨rfl,hb⟩;go_wp2;go_ret;exact⟨rfl,hb⟩
theorem wL(a b:ByteArray):(a++b).data.toList=a.data.toList++b.data.toList:=by rw[ByteArray.data_append,Array.toList_append]
theorem ZT(k v:ByteArray)(w:World)(hk:k.size≤1000000)(hv:v.size≤1000000) :
 Calls prog 125 #[.agg #[.string k,.string v]] w (aj w (.string (txt (jR k.data.toList v.data.toList)))):=by
 have hx:=dU.made w 132 #[.string k,.string v]
 have hb:=ba (a:=w) b0 (.cells #[.string k,.string v] 132)
 have HB:=ah hb
 have H1:Hid (∀x:World,Calls prog 35 #[.int .u64 (k.size:Int)] x (aj x (.string (txt (dY k.size))))):=fun x=>put_any k.size x (by unfold In64;omega)
 have H2:Hid (∀x:World,Calls prog 35 #[.int .u64 (v.size:Int)] x (aj x (.string (txt (dY v.size))))):=fun x=>put_any v.size x (by unfold In64;omega)
 have HE:Hid (((txt (dY k.size)++k)++txt (dY v.size))++v=txt (jR k.data.toList v.data.toList)):=by
  refine vX ?_;rw[wL,wL,wL,iD,iD,jR,fK,fK];simp
 have wk:IntKind.u64.wrap (k.size:Int)=(k.size:Int):=by rw[IntKind.wrap_u64];omega
 have wv:IntKind.u64.wrap (v.size:Int)=(v.size:Int):=by rw[IntKind.wrap_u64];omega
 have hP:(txt (dY k.size)).size≤10:=by rw[gI,fO];exact iJ (by omega)
 have hQ:(txt (dY v.size)).size≤10:=by rw[gI,fO];exact iJ (by omega)
 generalize txt (dY k.size)=P at *
 generalize txt (dY v.size)=Q at *
 have hr1:∀x:World,(Op.stringOp .add P k).run prog x=.ok (.string (P++k)) x:=fun x=>run_string_add_sum x P k (by omega)
 have hr2:∀x:World,(Op.stringOp .add (P++k) Q).run prog x=.ok (.string (P++k++Q)) x:=fun x=>run_string_add_sum x _ _ (by rw[ByteArray.size_append];omega)
 have hr3:∀x:World,(Op.stringOp .add (P++k++Q) v).run prog x=.ok (.string (P++k++Q++v)) x:=fun x=>run_string_add_sum x _ _ (by rw[ByteArray.size_append,ByteArray.size_append];omega)
 have lD:Hid (∀x:World,Below (w.alloc (.cells #[.string k,.string v] 132)).heap.size (w.alloc (.cells #[.string k,.string v] 132)) x→(x.cell? ⟨w.heap.size,0,none⟩=some (.string k)∧x.cell? ⟨w.heap.size,1,none⟩=some (.string v))):=fun x h=>⟨(hx.below h hx.lt).cell 0,(hx.below h hx.lt).cell 1⟩
 clear hx hb
 go_enter func125,ntmps125
 go_wp2_with fail
 generalize(w.alloc (.cells #[.string k,.string v] 132))=wz at lD HB⊢
 have hbW:Below wz.heap.size wz wz:=b0
 obtain⟨k0,k1⟩:=lD.out _ hbW
 go_region_held3 (fun x=>x.cell? ⟨w.heap.size,0,none⟩=some (.string k)∧x.cell? ⟨w.heap.size,1,none⟩=some (.string v)) (first|exact lD.out _ (by repeat(first|exact hbW|refine ba ?_ _|refine bd ?_))|go_keep)
  ((first
    |(go_at_call 35;with_reducible show Calls _ _ #[.int .u64 (k.size:Int)] _ _;refine(H1.out _).mono ?_;rintro e' W1 ⟨rfl,hb1'⟩;replace hbW:Below wz.heap.size wz W1:=bb (by repeat(first|exact hbW|refine ba ?_ _|refine bd ?_)) hb1';clear hb1';obtain⟨k0,k1⟩:=lD.out _ hbW)
    |(go_at_call 35;refine(H2.out _).mono ?_;rintro e' W1 ⟨rfl,hb1'⟩;replace hbW:Below wz.heap.size wz W1:=bb (by repeat(first|exact hbW|refine ba ?_ _|refine bd ?_)) hb1';clear hb1';obtain⟨k0,k1⟩:=lD.out _ hbW)))
 all_goals(go_wp2_with fail;go_ret;exact⟨by rw[← HE.out];rfl,bb HB.out (by repeat(first|exact hbW|refine ba ?_ _|refine bd ?_))⟩)
theorem agO:txt (jR [97] [98,99])=⟨#[1,97,2,98,99]⟩:=by
 have e1:dY 1=[1]:=by rw[kL (by omega)];rfl
 have e2:dY 2=[2]:=by rw[kL (by omega)];rfl
 show txt (dY 1++([97]++(dY 2++[98,99])))=_;rw[e1,e2];rfl
theorem agP:dV [97] [98,99]=0:=by
 have h1:jE [97]=true:=by rw[sG (by decide)];exact ug
 have h2:jE [98,99]=true:=by
  rw[sG (by decide)];show jE [99]=true;rw[sG (by decide)];exact ug
 unfold dV jJ;rw[h1,h2];decide
theorem aeU(w:World)(hT:Tabs w) :
 Calls prog 290 #[] w (aj w (.bool true)):=by
 have hx:=dU.made w 132 #[.string ⟨#[97]⟩,.string ⟨#[98,99]⟩]
 have hb0:=ba (a:=w) b0 (.cells #[.string ⟨#[97]⟩,.string ⟨#[98,99]⟩] 132)
 have HA:=ah (afd (w.alloc (.cells #[.string ⟨#[97]⟩,.string ⟨#[98,99]⟩] 132)) (hT.below hb0))
 have HX:=ah hx
 have HB:=ah hb0
 have HP:Hid (∀x:World,Calls prog 125 #[.agg #[.string ⟨#[97]⟩,.string ⟨#[98,99]⟩]] x (aj x (.string ⟨#[1,97,2,98,99]⟩))):=fun x=>by
  have:=ZT ⟨#[97]⟩ ⟨#[98,99]⟩ x (by decide) (by decide);rw[show(ByteArray.mk #[97]).data.toList=[97]from rfl,show(ByteArray.mk #[98,99]).data.toList=[98,99]from rfl,agO]at this;exact this
 have HC:Hid (∀x:World,Below w.heap.size w x→Calls prog 182 #[.agg #[.string ⟨#[97]⟩,.string ⟨#[98,99]⟩]] x (aj x (.int .i64 0))):=fun x hx=>by
  have:=Nk ⟨#[97]⟩ ⟨#[98,99]⟩ x (by decide) (by decide) (hT.below hx);rw[show(ByteArray.mk #[97]).data.toList=[97]from rfl,show(ByteArray.mk #[98,99]).data.toList=[98,99]from rfl,agP]at this;exact this
 clear hx hb0 hT
 go_enter func290,ntmps290
 go_wp2_with fail
 refine HA.out.mono ?_
 rintro e w1 ⟨rfl,hb1⟩
 have lW:=ah (HX.out.below hb1 HX.out.lt)
 have HB1:=ah (bb HB.out hb1)
 have c0:=lW.out.cell 0
 have c1:=lW.out.cell 1
 simp at c0 c1
 clear hb1
 go_wp2_with fail
 refine(HP.out _).mono ?_
 rintro e w2 ⟨rfl,hb2⟩
 have kC:=ah (lW.out.below hb2 lW.out.lt)
 have HB2:=ah (bb HB1.out hb2)
 clear c0 c1 hb2
 have c0:=kC.out.cell 0
 have c1:=kC.out.cell 1
 simp at c0 c1
 go_wp2_with fail
 refine(HC.out _ HB2.out).mono ?_
 rintro e w3 ⟨rfl,hb3⟩
 have HB3:=ah (bb HB2.out hb3)
 clear hb3
 go_wp2_with fail
 go_ret
 exact⟨rfl,HB3.out⟩
theorem afe(w:World)(hT:Tabs w):Calls prog 269 #[] w (aj w (.bool true)):=by
 have H:=ah (aeU w hT);clear hT;go_enter func269,ntmps269;go_wp2_with fail;refine H.out.mono ?_;rintro e w' ⟨rfl,hb⟩;go_wp2;go_ret;exact⟨rfl,hb⟩
