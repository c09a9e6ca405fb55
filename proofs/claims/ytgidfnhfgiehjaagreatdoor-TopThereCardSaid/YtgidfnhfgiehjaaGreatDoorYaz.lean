/-
  Parts of the proof. Conditions: as each names.
-/
import Derived.Test.YtgidfnhfgiehjaaGreatDoorYaw
import Derived.Test.YtgidfnhfgiehjaaGreatDoorYav
namespace Go.Proofs.YtgidfnhfgiehjaaGreatDoor
open Go.PM Go.RowKit Go.Proofs.Tryz
set_option maxRecDepth 100000
set_option maxHeartbeats 4000000
attribute [local go_sem ↓] Go.wp_at_zero Go.wp_at_succ
theorem ahv(f g:Fs)(q:Fs×Nat):lJ (f.app g) q=lJ f (lJ g q):=by
 by_cases h:q.2=0
 ·rw[vJ h,vJ h,vJ rfl,Fs.I9]
 rw[xQ h,xQ h];exact(xQ (f:=f) (q:=(.nil,q.2)) h).symm
def Ru(w:World)(rb cb d:Nat)(s:ByteArray)(R:Fs×Nat)(vv:Value)(kk:Nat)(wr:World):Prop :=
 ∃(a:Nat) (F:Fs) (xs:List Value),fG wr cb s kk∧pI wr rb cb d a∧wr.ownsRow w.heap.size 47 5 vv F.len xs∧Cls wr (fun q=>w.heap.size≤q∧vv.ownBlock≠some q) xs F∧dX (S2 cb rb) w wr∧R=lJ F (gV (dZ s kk) d a)∧F.len≤kk
theorem ald{w wr w4 wq w5:World}{rb cb d k m t n g cap3:Nat}{s:ByteArray}{R:Fs×Nat}{vv:Value}{y:Int}{x:ByteArray}{i:Fs}{A:Option Addr}{c a:Nat}{F:Fs}{xs:List Value}
 (hcb:cb<w.heap.size) (hrb:rb<w.heap.size) (hown:wr.ownsRow w.heap.size 47 5 vv F.len xs) (hcls:Cls wr (fun q=>w.heap.size≤q∧vv.ownBlock≠some q) xs F) (ht:dX (S2 cb rb) w wr) (hR:R=lJ F (gV (dZ s k) d a)) (hF:F.len≤k)
 (hk:k<s.size) (hf:jH (dZ s k) d a=(.cons t y n x i .nil,m,0)) (kG:dX (S2 cb rb) wr w4) (hc4:fG w4 cb s (k+m)) (hr4:pI w4 rb cb d t) (hs4:eF w4 (wr.heap.size≤·) (.slice A i.len c) i) (hbq:Below w4.heap.size w4 wq)
 (hown5:w5.ownsRow w.heap.size 47 5 (.slice (some ⟨g,0,none⟩) (F.len+1) cap3) (F.len+1) (xs++[.int .u64 (t:Int),.int .i64 y,.int .u64 (n:Int),.string x,.slice A i.len c])) (hg5:wq.grownBy w5 vv.ownBlock) (hat:vv.ownBlock=some g∨g=wq.heap.size) :
 Ru w rb cb d s R (.slice (some ⟨g,0,none⟩) (F.len+1) cap3) (k+m) w5:=by
 have hl:(F.app (.cons t y n x i .nil)).len=F.len+1:=by rw[Fs.DU];simp[Fs.len]
 have hS:∀q,w.heap.size≤q→¬S2 cb rb q:=fun q hq h=>by rcases h with h|h<;>omega
 have hoq:∀g',vv.ownBlock=some g'→w.heap.size≤g'∧g'<wr.heap.size:=fun g' h=>hown.lt g' h
 have hm:2≤m:=by
  obtain⟨t',y',n',x',i',m',e1,e2,_⟩:=Jq (rec:=fun t=>gV t (d+1) 0) (s:=dZ s k) (deep:=d) (last:=a) (by
   have:nJ (fun t=>gV t (d+1) 0) (dZ s k) d a=_:=hf;rw[this])
  have:jH (dZ s k) d a=_:=e1;rw[hf]at this;simp only[Prod.mk.injEq]at this;omega
 have G6:dX (fun q=>vv.ownBlock=some q) wq w5:=dX.grown hg5 fun q hq _=>hq
 have hnc:cb<wq.heap.size:=aQ (aQ hcb ht.size) (aI kG.size hbq.size)
 have hnr:rb<wq.heap.size:=aQ (aQ hrb ht.size) (aI kG.size hbq.size)
 refine⟨t,F.app (.cons t y n x i .nil),xs++[.int .u64 (t:Int),.int .i64 y,.int .u64 (n:Int),.string x,.slice A i.len c],⟨((hc4.1.below hbq hc4.1.lt).fE G6 fun e=>by have:=hoq _ e;omega),hc4.2⟩,dU.fE (dU.below hr4 hbq hr4.lt) G6 (fun e=>by have:=hoq _ e;omega),by rw[hl];exact hown5,?_,?_,?_,by rw[hl];omega⟩
 ·have h1:=((hcls.lt.fE kG fun q hq=>hS q hq.1.1).below hbq).imp (J:=fun q=>w.heap.size≤q∧vv.ownBlock≠some q) fun q hq=>hq.1
  have h2:=((hs4.lt.below hbq).imp (J:=fun q=>w.heap.size≤q∧vv.ownBlock≠some q) fun q hq=>⟨aI ht.size hq.1,fun e=>by have:=(hoq _ e).2;have:=hq.1;omega⟩);have h3:=h1.app (show Cls wq (fun q=>w.heap.size≤q∧vv.ownBlock≠some q) [.int .u64 (t:Int),.int .i64 y,.int .u64 (n:Int),.string x,.slice A i.len c] (.cons t y n x i .nil)from⟨rfl,rfl,rfl,rfl,h2,trivial⟩);exact Cls.grow (v:=vv) h3 hg5 hat
 ·exact((ht.trans kG fun _ _ h=>h).bel hbq).trans G6 fun q hq e=>by have:=(hoq q e).1;omega
 ·have h0:(dZ s k).length≠0:=by rw[yg];omega
  rw[hR,Jp h0 (by rw[hf]),hf,ahv];show lJ F (lJ (.cons t y n x i .nil) (gV ((dZ s k).drop m) d t))=_;rw[OU]
theorem all_zero:Fe 0:=by
 intro rb cb s k d a w hN hd ha hs hr hc;have HC:=ah hc;have hk:k=s.size:=by have:=hc.2.1;omega
 have hl:dZ s k=[]:=aV (by rw[yg];omega);have HE:Hid (∀w',Below w.heap.size w w'→AllEnd w rb cb d a s k (.returned (.tuple #[.slice none 0 0,.int .i64 0])) w'):=fun w' hb=>by
  refine⟨none,0,by rw[hl,Gv];rfl,?_,dX.below hb⟩;rw[hl,Gv];exact eF.nil _ _ _ _
 have r0:=hr.cell 0;simp at r0;have hki:(k:Int)=(s.size:Int):=by omega
 obtain⟨kk,hkk⟩:∃kk,kk=k:=⟨k,rfl⟩;rw[← hkk]at HC hki;clear hr hc hl hk hkk;go_enter func81,ntmps81;go_wp2_with fail;go_loopg [4] 0 (fun gk vv wr=>vv=.slice none 0 0∧wr=w)
 case atStart=>exact⟨rfl,rfl⟩
 case round=>
  obtain⟨rfl,rfl⟩:=hrel;go_wp2_with fail;refine(D5 cb s _ _ HC.out).mono ?_;rintro e w2 ⟨rfl,hb2⟩;go_wp2_with fail;go_ret2;exact HE.out _ hb2
theorem aeE{N:Nat}(hall:Fe N):Fe (N+1):=by
 intro rb cb s k d a w hN hd ha hs hr hc;have Ii:=ah hall;have hrl:=hr.lt;have hcl:=hc.1.lt;have hks:=hc.2.1;obtain⟨i0,hi0,hz0,hz1,hz2⟩:=info_parts EH;generalize hR:gV (dZ s k) d a=R;have HR:=ah hR;have H0:Hid (Ru w rb cb d s R (.slice none 0 0) k w):=⟨a,.nil,[],hc,hr,World.ownsRow_nil _ _ _ _,trivial,dX.refl _ _,by
  have e:∀q:Fs×Nat,(q.2≠0→q.1=.nil)→lJ .nil q=q:=fun q hq=>by
   by_cases h:q.2=0
   ·rw[vJ h];exact Prod.ext rfl h.symm
   rw[xQ h];exact Prod.ext (hq h).symm rfl
  rw[← hR,e];intro hne;by_cases h0:(dZ s k).length=0
  ·rw[aV h0]at hne;exact aJ rfl hne
  by_cases h1:(jH (dZ s k) d a).2.2≠0
  ·rw[Nv h0 h1]
  ·rw[Jp h0 (dH.1 h1)]at hne⊢
   generalize gV ((dZ s k).drop (jH (dZ s k) d a).2.1) d (jH (dZ s k) d a).1.tag=q at *;by_cases hq:q.2=0
   ·rw[vJ hq]at hne;exact aJ rfl hne
   ·rw[xQ hq],aW _⟩
 have HD:Hid (∀e w',(e=.returned (.tuple #[.slice none 0 0,.int .i64 (R.2:Int)])∧R.1=.nil∨∃A c,e=.returned (.tuple #[.slice A R.1.len c,.int .i64 (R.2:Int)])∧eF w' (w.heap.size≤·) (.slice A R.1.len c) R.1)→dX (S2 cb rb) w w'→AllEnd w rb cb d a s k e w'):=fun e w' h ht=>by
  unfold AllEnd;rw[hR];rcases h with⟨rfl,h⟩|⟨A,c,rfl,h⟩
  ·rw[h];exact⟨none,0,rfl,eF.nil _ _ _ _,ht⟩
  exact⟨A,c,rfl,h,ht⟩
 clear hr hc hall hR;go_enter func81,ntmps81;go_wp2_with fail;go_loopg [4] (s.size - k) (fun gk vv wr=>∃kk:Nat,kk≤s.size∧k≤kk∧s.size - kk≤gk∧Hid (Ru w rb cb d s R vv kk wr))
 case atStart=>exact⟨k,hks,au _,au _,H0⟩
 case round=>
  obtain⟨kk,hkk,aoE,hgk,yF⟩:=hrel;obtain⟨a',F,xs,hc,hr,hown,hcls,ht,hRR,hF⟩:=yF.out;have HC:=ah hc;have r0:=hr.cell 0;simp at r0;by_cases hlt:kk<s.size
  ·have hki:(kk:Int)<(s.size:Int):=by omega
   have HRR:=ah hRR;have jq:=ah hr;have HOWN:=ah hown;have sK:=ah hcls;have HT:=ah ht;clear hc hr hown hcls ht hRR;go_wp2_with fail;refine(D5 cb s _ _ HC.out).mono ?_;rintro e w2 ⟨rfl,hb2⟩;have HB2:=ah hb2;have aeg:Hid (pI w2 rb cb d a'):=dU.below jq.out hb2 jq.out.lt;have HC2:Hid (fG w2 cb s kk):=⟨HC.out.1.below hb2 HC.out.1.lt,HC.out.2⟩;clear hb2;go_wp2_with fail;refine(alF Ii.out rb cb d a' s kk w2 aeg.out HC2.out (by omega) hs hd).mono ?_;rintro e w4 ⟨kG,⟨hne,rfl⟩|⟨t,n,m,y,x,i,A,c,hf,rfl,hc4,hr4,hs4⟩⟩
   ·have HE:Hid (∀w',Below w4.heap.size w4 w'→AllEnd w rb cb d a s k (.returned (.tuple #[.slice none 0 0,.int .i64 ((jH (dZ s kk) d a').2.2:Int)])) w'):=fun w' hb=>by
     have h0:(dZ s kk).length≠0:=(by rw[yg];omega);have h1:R=(.nil,(jH (dZ s kk) d a').2.2):=(by rw[HRR.out,Nv h0 hne,xQ hne]);have h2:=HD.out (.returned (.tuple #[.slice none 0 0,.int .i64 ((jH (dZ s kk) d a').2.2:Int)])) w';rw[h1]at h2;exact h2 (.inl ⟨rfl,rfl⟩) (((HT.out.bel HB2.out).trans kG fun _ _ h=>h).bel hb)
    generalize(jH (dZ s kk) d a').2.2=G at *;have hgi:((G:Int) != 0)=true:=(by rw[aZ];omega);clear kG hne;go_wp2_with fail;go_ret2;exact HE.out _ (ba b0 _)
   have HF2:=ah (And.intro hf (And.intro kG (And.intro hc4 (And.intro hr4 hs4))));have aoU:=HB2.out.size;have aoV:=kG.size;have htz:=HT.out.size;have hS:∀q,w.heap.size≤q→¬S2 cb rb q:=fun q hq h=>(by rcases h with h|h<;>omega);have abn:=tK (own_below HOWN.out HB2.out) kG fun g hg=>hS g (HOWN.out.lt g hg).1;have FM:=ah ((abn.alloc (.cells #[.int .u64 (t:Int),.int .i64 y,.int .u64 (n:Int),.string x,.slice A i.len c] 47)).alloc (.cells #[.int .u64 (t:Int),.int .i64 y,.int .u64 (n:Int),.string x,.slice A i.len c] 47));have hnb:=dU.made (w4.alloc (.cells #[.int .u64 (t:Int),.int .i64 y,.int .u64 (n:Int),.string x,.slice A i.len c] 47)) 47 #[.int .u64 (t:Int),.int .i64 y,.int .u64 (n:Int),.string x,.slice A i.len c];rw[World.size_alloc]at hnb;have yC:=ah hnb;have TI:F.len≤1000000:=(by omega);clear hf kG hc4 hr4 hs4 abn hnb hS
   go_wp2_with(at_builtin;go_must(refine wpList_append_lies _ rfl _ _ 33 rfl w.heap.size 47 i0 _ 5 64 underlying33 hi0 hz0 hz1 hz2 rfl (by decide) u4 F.len xs rfl FM.out ⟨w4.heap.size+1,0,none⟩ 1 1 [.int .u64 (t:Int),.int .i64 y,.int .u64 (n:Int),.string x,.slice A i.len c] rfl rfl yC.out.news (by simp[Value.oneCell']) (by decide) (by unfold maxLen;omega) (by omega) (by simp;omega) (w4.heap.size+1+1) (by simp) ?_);intro g3 cap3 w5 hown5 hg5 aaR aio;have HO5:=ah hown5;have HG5:=ah hg5;have adZ:=ah aaR;clear hown5 hg5 aaR aio);have hm1:kk+m≤s.size∧1≤m:=by
    obtain⟨t',y',n',x',i',m',e1,e2,e3,_⟩:=Jq (rec:=fun t=>gV t (d+1) 0) (s:=dZ s kk) (deep:=d) (last:=a') (by
     have:nJ (fun t=>gV t (d+1) 0) (dZ s kk) d a'=_:=HF2.out.1;rw[this])
    have h1:jH (dZ s kk) d a'=_:=e1;rw[HF2.out.1]at h1;simp only[Prod.mk.injEq]at h1;rw[yg]at e3;omega
   go_roundg (s.size - (kk+m))
   case measure=>omega
   case rel=>
    refine⟨kk+m,hm1.1,by omega,au _,?_⟩;have htw:dX (S2 cb rb) wr w4:=(dX.below HB2.out).trans HF2.out.2.1 fun _ _ h=>h;exact ald hcl hrl HOWN.out sK.out HT.out HRR.out hF hlt HF2.out.1 htw HF2.out.2.2.1 HF2.out.2.2.2.1 (HF2.out.2.2.2.2.imp fun q hq=>aI HB2.out.size hq) (ba (ba b0 _) _) HO5.out HG5.out (adZ.out.imp id fun h=>by rw[h];simp)
  obtain rfl:kk=s.size:=by omega
  have h0:dZ s s.size=[]:=aV (by rw[yg];omega);rw[h0,Gv,vJ rfl,Fs.xJ]at hRR;subst hRR;obtain⟨A,c,rfl,hsl⟩:=Kv hown hcls fun q hq=>hq.1;have HE:Hid (∀w',Below wr.heap.size wr w'→AllEnd w rb cb d a s k (.returned (.tuple #[.slice A F.len c,.int .i64 0])) w'):=fun w' hb=>HD.out _ w' (.inr ⟨A,c,rfl,hsl.below hb⟩) (ht.bel hb);clear hc hr hown hcls ht hsl h0 yF;go_wp2_with fail;refine(D5 cb s _ _ HC.out).mono ?_;rintro e w2 ⟨rfl,hb2⟩;go_wp2_with fail;go_ret2;exact HE.out _ hb2
theorem YS:∀N,Fe N
 |0=>all_zero
 |N+1=>aeE (YS N)
def kF(s:List UInt8):Fs×Nat:=if 65536<s.length then(.nil,4)else gV s 0 0
def Fh(w:World)(s:ByteArray)(e:Ending)(w':World):Prop :=
 ∃(A:Option Addr) (c:Nat),e=.returned (.tuple #[.slice A (kF s.data.toList).1.len c,.int .i64 ((kF s.data.toList).2:Int)])∧eF w' (w.heap.size≤·) (.slice A (kF s.data.toList).1.len c) (kF s.data.toList).1∧Below w.heap.size w w'
theorem anW(s:ByteArray)(w:World)(hs:s.size≤1000000):Calls prog 38 #[.string s] w (Fh w s):=by
 by_cases hbig:65536<s.size
 ·have HE:Hid (Fh w s (.returned (.tuple #[.slice none 0 0,.int .i64 4])) w):=by
   have h:kF s.data.toList=(.nil,4):=(by unfold kF;rw[fK,aA hbig]);unfold Hid Fh;rw[h];exact⟨none,0,rfl,eF.nil _ _ _ _,b0⟩
  go_enter func38,ntmps38;go_wp2;go_ret2;exact HE.out
 have hf:kF s.data.toList=gV s.data.toList 0 0:=by unfold kF;rw[fK,ay hbig]
 have hcb:fG (w.alloc (.cells #[.string s,.int .i64 0] 228)) w.heap.size s 0:=⟨dU.made w _ _,aW _,by omega⟩;have hrb:pI ((w.alloc (.cells #[.string s,.int .i64 0] 228)).alloc (.cells #[.pointer (some ⟨w.heap.size,0,none⟩),.int .i64 0,.int .u64 0] 151)) (w.heap.size+1) w.heap.size 0 0:=by
  have:=dU.made (w.alloc (.cells #[.string s,.int .i64 0] 228)) 151 #[.pointer (some ⟨w.heap.size,0,none⟩),.int .i64 0,.int .u64 0];rw[World.size_alloc]at this;exact this
 have hcb2:fG ((w.alloc (.cells #[.string s,.int .i64 0] 228)).alloc (.cells #[.pointer (some ⟨w.heap.size,0,none⟩),.int .i64 0,.int .u64 0] 151)) w.heap.size s 0:=⟨hcb.1.more _,hcb.2⟩;have sJ:=ah (YS s.size (w.heap.size+1) w.heap.size s 0 0 0 _ (by omega) (by omega) (by omega) hs hrb hcb2);have Dc:Hid (∀e w',AllEnd ((w.alloc (.cells #[.string s,.int .i64 0] 228)).alloc (.cells #[.pointer (some ⟨w.heap.size,0,none⟩),.int .i64 0,.int .u64 0] 151)) (w.heap.size+1) w.heap.size 0 0 s 0 e w'→∃A c,e=.returned (.tuple #[.slice A (kF s.data.toList).1.len c,.int .i64 ((kF s.data.toList).2:Int)])∧Fh w s e w'):=fun e w' h=>by
  obtain⟨A,c,rfl,h1,h2⟩:=h;have hl:dZ s 0=s.data.toList:=rfl;rw[hl,← hf]at h1⊢;refine⟨A,c,rfl,A,c,rfl,h1.imp fun q hq=>?_,?_⟩
  ·simp only[World.size_alloc]at hq;omega
  have hb:Below w.heap.size w ((w.alloc (.cells #[.string s,.int .i64 0] 228)).alloc (.cells #[.pointer (some ⟨w.heap.size,0,none⟩),.int .i64 0,.int .u64 0] 151)):=ba (ba b0 _) _;exact hb.trans (h2.iI hb.size fun g hg hh=>by rcases hh with hh|hh<;>omega)
 clear hcb hrb hcb2 hf;go_enter func38,ntmps38;go_wp2_with fail;refine(Jj s w).mono ?_;rintro e w1 ⟨rfl,rfl⟩;go_wp2_with fail;refine sJ.out.mono ?_;intro e w2 h;obtain⟨A,c,rfl,hge⟩:=Dc.out e w2 h;have HG:=ah hge;clear h hge;generalize(kF s.data.toList).2=G at *;generalize(kF s.data.toList).1.len=LL at *;go_wp2_with fail;go_ret2;exact HG.out
end Go.Proofs.YtgidfnhfgiehjaaGreatDoor
namespace Go.Proofs.YtgidfnhfgiehjaaGreatDoor
open Go.PM Go.RowKit Go.Proofs.Tryz
set_option maxRecDepth 100000
set_option maxHeartbeats 4000000
theorem SS:∀{f:Fs} {a w:Nat},kY f a w→f.All mF
 |.nil,_,_,_=>trivial
 |.cons t y n s i r,a,w,h=>by
   obtain⟨⟨h1,h2,h3,h4,h5⟩,h6⟩:=h;have hr:=SS h6;have ht:In64 t:=(by show t<18446744073709551616;omega);rcases h5 with⟨rfl,rfl,rfl⟩|⟨rfl,rfl,rfl,h7⟩|⟨rfl,rfl,rfl,h8,h9⟩
   ·exact⟨⟨ht,by unfold iK;omega,h4,by simp⟩,trivial,hr⟩
   ·exact⟨⟨ht,by unfold iK;omega,h4,h7⟩,trivial,hr⟩
   exact⟨⟨ht,by unfold iK;omega,h4,by simp⟩,SS h9,hr⟩
theorem aaq{f:Fs}(hk:f.All mF)(h:fM f 0 0=0)(hL:(eu f).length≤65536):kF (eu f)=(f,0):=by
 have hp:=(xP f 0 0 hk (by omega)).1 h;have:=S9 [] f 0 0 (by omega) hp (by omega);rw[bQ,Gv,vJ rfl,Fs.xJ]at this;unfold kF;rw[ay (by omega),this]
theorem aht{f:Fs}(h:fM f 0 0=0)(hL:(eu f).length≤65536):kT f=(eu f,0):=by
 unfold kT;rw[ay (by rw[h];simp),ay (by omega)]
theorem ag9{s:List UInt8}(hs:s.length≤65536)(h:(kF s).2=0) :
 (kF s).1.All mF∧(kF s).1.count≤1000000∧fM (kF s).1 0 0=0∧eu (kF s).1=s∧kT (kF s).1=(s,0)∧aaK (kF s).1=s.length:=by
 have e:kF s=gV s 0 0:=by unfold kF;rw[ay (by omega)]
 rw[e]at h⊢
 obtain⟨h1,h2,h3⟩:=Nw s.length s 0 0 (au _) (by omega) (by omega) h
 generalize(gV s 0 0).1=l at *
 have hk:=SS h2
 have hc:=(xP l 0 0 hk (by omega)).2 h2
 refine⟨hk,by omega,hc,h1,?_,?_⟩
 ·rw[aht hc (by rw[h1];omega),h1]
 ·unfold aaK;rw[ay (by rw[hc];simp),h1]
end Go.Proofs.YtgidfnhfgiehjaaGreatDoor
namespace Go.Proofs.YtgidfnhfgiehjaaGreatDoor
open Go.PM Go.RowKit Go.Proofs.Tryz
set_option maxRecDepth 100000
set_option maxHeartbeats 4000000
attribute [local go_sem ↓] Go.wp_at_zero Go.wp_at_succ
theorem ZF(a b:UInt8)(ha:jE [a]=true)(hb:jE [b]=true):dV [a] [b]=0:=by
 unfold dV jJ;rw[ha,hb];rfl
theorem agQ:uI dV [([98],[50]),([97],[49])]=([([97],[49]),([98],[50])],0):=by
 have g1:jE [98]=true:=by rw[sG (by decide)];exact ug
 have g2:jE [50]=true:=by rw[sG (by decide)];exact ug
 have g3:jE [97]=true:=by rw[sG (by decide)];exact ug
 have g4:jE [49]=true:=by rw[sG (by decide)];exact ug
 have e1:=ZF 98 50 g1 g2;have e2:=ZF 97 49 g3 g4;have s1:qK [([98],[50]),([97],[49])]=[([97],[49]),([98],[50])]:=by decide
 have d1:qZ [(([97],[49]):fD),([98],[50])]=false:=by decide
 unfold uI;rw[s1,d1];simp[qy,e1,e2,kR]
theorem agR:txt (eG [([97],[49]),([98],[50])])=⟨#[2,1,97,1,49,1,98,1,50]⟩:=by
 have e1:dY 1=[1]:=by rw[kL (by omega)];rfl
 have e2:dY 2=[2]:=by rw[kL (by omega)];rfl
 show txt (dY 2++((dY 1++([97]++(dY 1++[49])))++((dY 1++([98]++(dY 1++[50])))++[])))=_;rw[e1,e2];rfl
theorem aeV(w:World)(hT:Tabs w) :
 Calls prog 263 #[] w (aj w (.bool true)):=by
 have hb0:=ba (a:=w) b0 (.cells #[.string ⟨#[98]⟩,.string ⟨#[50]⟩,.string ⟨#[97]⟩,.string ⟨#[49]⟩] 132)
 have hrd:Rd (w.alloc (.cells #[.string ⟨#[98]⟩,.string ⟨#[50]⟩,.string ⟨#[97]⟩,.string ⟨#[49]⟩] 132)) (some ⟨w.heap.size,0,none⟩) (ents [([98],[50]),([97],[49])]):=by
  refine .inr ⟨_,_,rfl,by simp,fun j u hj=>?_⟩;have hy:=World.news_of_block (cs:=#[.string ⟨#[98]⟩,.string ⟨#[50]⟩,.string ⟨#[97]⟩,.string ⟨#[49]⟩]) (t:=132) (fr:=(0,0)) (heap_alloc_new w (.cells #[.string ⟨#[98]⟩,.string ⟨#[50]⟩,.string ⟨#[97]⟩,.string ⟨#[49]⟩] 132));have:=hy j u hj
  rwa [rV,← aX j]at this
 have hz:lg [([98],[50]),([97],[49])]:=fun e he=>by
  simp only[bC,bW,or_false]at he;rcases he with rfl|rfl<;>simp
 have ho:=aj8 (some ⟨w.heap.size,0,none⟩) 2 [([98],[50]),([97],[49])] _ hrd hz (by decide) (hT.below hb0)
 unfold zQ at ho
 rw[agQ]at ho
 have HO:Hid (Calls prog 268 #[.slice (some ⟨w.heap.size,0,none⟩) 2 2] (w.alloc (.cells #[.string ⟨#[98]⟩,.string ⟨#[50]⟩,.string ⟨#[97]⟩,.string ⟨#[49]⟩] 132)) fun e w'=>∃v,e=.returned (.tuple #[v,.int .i64 0])∧Ry w' v [([97],[49]),([98],[50])]∧Below (w.alloc (.cells #[.string ⟨#[98]⟩,.string ⟨#[50]⟩,.string ⟨#[97]⟩,.string ⟨#[49]⟩] 132)).heap.size (w.alloc (.cells #[.string ⟨#[98]⟩,.string ⟨#[50]⟩,.string ⟨#[97]⟩,.string ⟨#[49]⟩] 132)) w'):=ho
 have HA:Hid (∀x:World,Below w.heap.size w x→Calls prog 269 #[] x (aj x (.bool true))):=fun x hx=>afe x (hT.below hx)
 have HB:=ah hb0
 have qp:Hid (∀(x:World) (A:Option Addr) (c:Nat),Rd x A (ents [([97],[49]),([98],[50])])→Calls prog 76 #[.slice A 2 c] x (aj x (.string ⟨#[2,1,97,1,49,1,98,1,50]⟩))):=fun x A c h=>by
  have:=zf A c [([97],[49]),([98],[50])] x h ⟨by simp,fun e he=>by
   simp only[bC,bW,or_false]at he;rcases he with rfl|rfl<;>simp⟩
  rw[agR]at this;exact this
 clear ho hz hrd hb0 hT
 go_enter func263,ntmps263
 go_wp2_with fail
 refine HO.out.mono ?_
 rintro e w1 ⟨v,rfl,⟨A,c,rfl,hr1,_⟩,hb1⟩
 have HB1:=ah (bb HB.out hb1)
 have HR1:=ah hr1
 clear hr1 hb1 HO
 go_wp2_with fail
 refine(HA.out _ HB1.out).mono ?_
 rintro e w2 ⟨rfl,hb2⟩
 have HB2:=ah (bb HB1.out hb2)
 have HK:=ah (qp.out w2 A c (HR1.out.below hb2))
 clear hb2 qp
 go_wp2_with fail
 refine HK.out.mono ?_
 rintro e w3 ⟨rfl,hb3⟩
 have HB3:=ah (bb HB2.out hb3)
 clear hb3
 go_wp2_with fail
 go_ret
 exact⟨rfl,HB3.out⟩
theorem agT:je [] [117,115,101,114]=[0,4,117,115,101,114]:=by
 have e0:dY 0=[0]:=by rw[kL (by omega)];rfl
 have e4:dY 4=[4]:=by rw[kL (by omega)];rfl
 have p:iw [] [117,115,101,114]=0:=by decide
 unfold je;rw[p];show dY 0++(dY 4++_)=_;rw[e0,e4];rfl
theorem agU:je [117,115,101,114] [117,115,101,114,115]=[4,1,115]:=by
 have e1:dY 1=[1]:=by rw[kL (by omega)];rfl
 have e4:dY 4=[4]:=by rw[kL (by omega)];rfl
 have p:iw [117,115,101,114] [117,115,101,114,115]=4:=by decide
 unfold je;rw[p];show dY 4++(dY 1++_)=_;rw[e1,e4];rfl
theorem alc(b c:Nat)(w:World)(hblt:b<w.heap.size)(c0:w.cell? ⟨b,0,none⟩=some (.string ⟨#[117,115,101,114]⟩))(c1:w.cell? ⟨b,1,none⟩=some (.string ⟨#[117,115,101,114,115]⟩)) :
 Calls prog 255 #[.slice (some ⟨b,0,none⟩) 2 c] w (aj w (.tuple #[.string ⟨#[0,4,117,115,101,114,4,1,115]⟩,.int .i64 0])):=by
 have H1:Hid (∀x:World,Calls prog 147 #[.string ⟨#[]⟩,.string ⟨#[117,115,101,114]⟩] x (aj x (.string ⟨#[0,4,117,115,101,114]⟩))):=fun x=>by
  have:=Vo ⟨#[]⟩ ⟨#[117,115,101,114]⟩ x (by decide) (by decide);rw[show(ByteArray.mk #[]).data.toList=[]from rfl,show(ByteArray.mk #[117,115,101,114]).data.toList=[117,115,101,114]from rfl,agT]at this;exact this
 have H2:Hid (∀x:World,Calls prog 147 #[.string ⟨#[117,115,101,114]⟩,.string ⟨#[117,115,101,114,115]⟩] x (aj x (.string ⟨#[4,1,115]⟩))):=fun x=>by
  have:=Vo ⟨#[117,115,101,114]⟩ ⟨#[117,115,101,114,115]⟩ x (by decide) (by decide);rw[show(ByteArray.mk #[117,115,101,114]).data.toList=[117,115,101,114]from rfl,show(ByteArray.mk #[117,115,101,114,115]).data.toList=[117,115,101,114,115]from rfl,agU]at this;exact this
 have Ur:(Op.bytesLess (ByteArray.mk #[117,115,101,114,115]).toList (ByteArray.mk #[117,115,101,114]).toList||(ByteArray.mk #[117,115,101,114,115]).toList==(ByteArray.mk #[117,115,101,114]).toList)=false:=by
  rw[abZ,ByteArray.toList_eq,ByteArray.toList_eq];decide
 have eU:=ba (a:=w) b0 (.cells #[.pointer none,.slice none 0 0] 222)
 have lq:=ah eU
 have qJ:=ah (RI w)
 clear eU
 go_enter func255,ntmps255
 go_wp2_with fail
 refine wp_loop_rounds 3 ?_
 rw[rounds_succ]
 go_wp2_with fail
 refine(H1.out _).mono ?_
 rintro e w1 ⟨rfl,hb1⟩
 have hB1:=bb lq.out hb1
 have HW:=ah (Ic w.heap.size w.heap.size [] ⟨#[0,4,117,115,101,114]⟩ w1 (qJ.out.below hb1) (by decide) hB1.size)
 have HB1:=ah hB1
 clear hb1 hB1 qJ lq H1
 go_wp2_with fail
 refine HW.out.mono ?_
 rintro e w2 ⟨rfl,rC,hb2⟩
 have HB2:=ah (HB1.out.trans hb2)
 have WH:=ah rC
 have c1':=(HB2.out.cell (p:=⟨b,1,none⟩) hblt).trans c1
 clear rC hb2 HW HB1
 go_wp2_with fail
 rw[rounds_succ]
 go_wp2_with fail
 refine(H2.out _).mono ?_
 rintro e w3 ⟨rfl,hb3⟩
 have hB3:=bb HB2.out hb3
 have HW:=ah (Ic w.heap.size w.heap.size _ ⟨#[4,1,115]⟩ w3 (WH.out.below hb3) (by decide) hB3.size)
 have HB3:=ah hB3
 clear hb3 hB3 WH HB2 H2
 go_wp2_with fail
 refine HW.out.mono ?_
 rintro e w4 ⟨rfl,JD,hb4⟩
 have HB4:=ah (HB3.out.trans hb4)
 have HST:=ah (VR _ _ _ _ JD HB4.out.size)
 clear JD hb4 HW HB3
 go_wp2_with fail
 rw[rounds_succ]
 go_wp2_with fail
 refine HST.out.mono ?_
 rintro e w5 ⟨rfl,hb5⟩
 have gY:=ah (HB4.out.trans hb5)
 clear hb5
 go_wp2_with fail
 go_ret2
 exact⟨rfl,gY.out⟩
end Go.Proofs.YtgidfnhfgiehjaaGreatDoor
namespace Go.Proofs.YtgidfnhfgiehjaaGreatDoor
open Go.PM Go.RowKit Go.Proofs.Tryz
set_option maxRecDepth 100000
set_option maxHeartbeats 4000000
theorem own_base{w:World}{base base' n size:Nat}{e:TypeId}{v:Value}{xs:List Value}(h:w.ownsRow base e size v n xs)(hb:base'≤base):w.ownsRow base' e size v n xs:=by
 refine⟨h.1,h.2.imp id ?_⟩;rintro⟨g,cap,cur,h1,h2,h3⟩;exact⟨g,cap,cur,h1,aI hb h2,h3⟩
theorem adr:∀(f:Fs) (k:Nat),f.take k=fB (f.eP.take k)
 |f,0=>by cases f<;>rfl
 |.nil,_+1=>rfl
 |.cons t y n s i r,k+1=>by rw[Fs.take,Fs.eP,List.take_succ_cons,fB,adr r k]
theorem ZB:∀(f:Fs) (k:Nat),f.drop k=fB (f.eP.drop k)
 |f,0=>by
   rw[dD,qE];cases f<;>rfl
 |.nil,_+1=>rfl
 |.cons t y n s i r,k+1=>by rw[Fs.drop,Fs.eP,List.drop_succ_cons,ZB r k]
theorem amL{x:World}{b:Nat}{T:TypeId}{J:Nat→Prop}{t n:Nat}{y:Int}{s:ByteArray}{i:Fs}{A:Option Addr}{c:Nat}(h:dU x b T #[.int .u64 (t:Int),.int .i64 y,.int .u64 (n:Int),.string s,.slice A i.len c])(hs:eF x J (.slice A i.len c) i)(hJ:J b) :
 eF x J (.slice (some ⟨b,0,none⟩) 1 1) (.cons t y n s i .nil):=by
 refine⟨some ⟨b,0,none⟩,1,rfl,au _,.inr ⟨b,0,rfl,hJ,h.lt,?_⟩⟩
 obtain⟨A',c',hv,hc,hor⟩:=hs
 injection hv with h1 h2 h3
 subst h1 h3
 exact⟨h.cell 0,h.cell 1,h.cell 2,h.cell 3,⟨A,c,h.cell 4,hc,hor⟩,trivial⟩
theorem alz{W1:World}{I:Nat→Prop}{F:Fs}{a d1 d3 t n:Nat}{y:Int}{s:ByteArray}{i:Fs}{B1 B3 Ai:Option Addr}{ci:Nat}
 (h1:eF W1 I (.slice B1 a d1) (F.take a)) (h3:eF W1 I (.slice B3 (F.len - a) d3) (F.drop a)) (hi:eF W1 I (.slice Ai i.len ci) i) (ha:a≤F.len) (h60:F.len≤1000000) :
 ∃(A2:Option Addr) (c2:Nat) (W2:World),(Builtin.append_ #[66,66] 66 #[.slice none 0 0,.slice B1 a d1]).run prog W1=.ok (.slice A2 a c2) W2∧Below W1.heap.size W1 W2∧
 ∃(A3:Option Addr) (c3:Nat) (W3:World),(Builtin.append_ #[66,66] 66 #[.slice A2 a c2,.slice (some ⟨W2.heap.size,0,none⟩) 1 1]).run prog (W2.alloc (.cells #[.int .u64 (t:Int),.int .i64 y,.int .u64 (n:Int),.string s,.slice Ai i.len ci] 207))=.ok (.slice A3 (a+1) c3) W3∧
 ∃(A4:Option Addr) (c4:Nat) (W4:World) (xs:List Value),(Builtin.append_ #[66,66] 66 #[.slice A3 (a+1) c3,.slice B3 (F.len - a) d3]).run prog W3=.ok (.slice A4 (F.len+1) c4) W4∧
  W4.ownsRow W1.heap.size 207 5 (.slice A4 (F.len+1) c4) (F.len+1) xs∧Cls W4 (fun q=>(Value.slice A4 (F.len+1) c4).ownBlock≠some q) xs (fB (F.eP.take a++⟨t,y,n,s,i⟩::F.eP.drop a))∧Below W1.heap.size W1 W4:=by
 obtain⟨i0,hi0,hz0,hz1,hz2⟩:=info_parts UR
 have htl:=F.take_len a ha
 have hdl:=F.uJ a
 have l1:=h1.lt.imp (J:=fun q=>q<W1.heap.size) fun q hq=>hq.2
 have l3:=h3.lt.imp (J:=fun q=>q<W1.heap.size) fun q hq=>hq.2
 have li:=hi.lt.imp (J:=fun q=>q<W1.heap.size) fun q hq=>hq.2
 -- the beginning
 obtain⟨A2,c2,W2,xs2,hrun2,Vq,Y6,gr2,ai5⟩:=Gu (P:=prog) 66 66 207 i0 underlying66 hi0 hz0 hz1 hz2
  (w:=W1) (base:=W1.heap.size) (A:=none) (c:=0) (f:=.nil) (xs:=[]) (J:=fun q=>q<W1.heap.size) (World.ownsRow_nil _ _ _ _) trivial (fun q hq h=>by cases h) (by rw[htl];exact l1) (fun q hq h=>by cases h) (by simp only[Fs.len];omega) (au _)
 have e2:(Fs.nil.app (F.take a)).len=a:=htl
 rw[e2]at hrun2 Vq ai5
 have hfn:Fs.nil.app (F.take a)=F.take a:=rfl
 rw[hfn]at Y6
 rw[show(Fs.nil).len=0 from rfl,htl]at hrun2
 have hb2:Below W1.heap.size W1 W2:=below_of_grown gr2
 have hw2:=hb2.size
 -- the field
 have hx2:=dU.made W2 207 #[.int .u64 (t:Int),.int .i64 y,.int .u64 (n:Int),.string s,.slice Ai i.len ci]
 have ako:=Vq.alloc (.cells #[.int .u64 (t:Int),.int .i64 y,.int .u64 (n:Int),.string s,.slice Ai i.len ci] 207)
 have afD:=(Y6.below (ba (a:=W2) b0 (.cells #[.int .u64 (t:Int),.int .i64 y,.int .u64 (n:Int),.string s,.slice Ai i.len ci] 207))).imp (J:=fun q=>q<W1.heap.size) fun q hq=>hq.2
 have hb2':Below W1.heap.size W1 (W2.alloc (.cells #[.int .u64 (t:Int),.int .i64 y,.int .u64 (n:Int),.string s,.slice Ai i.len ci] 207)):=ba hb2 _
 have hsx:=amL (J:=fun q=>q<W1.heap.size∨q=W2.heap.size) hx2 ((li.below hb2').imp fun q hq=>.inl hq) (.inr rfl)
 have Og:∀q,(Value.slice A2 a c2).ownBlock=some q→W1.heap.size≤q∧q<W2.heap.size:=fun q hq=>Vq.lt q hq
 have e3:(F.take a).len=a:=htl
 have akp:(W2.alloc (.cells #[.int .u64 (t:Int),.int .i64 y,.int .u64 (n:Int),.string s,.slice Ai i.len ci] 207)).ownsRow W1.heap.size 207 5 (.slice A2 (F.take a).len c2) (F.take a).len xs2:=by rw[e3];exact ako
 obtain⟨A3,c3,W3,xs3,hrun3,Vr,afE,gr3,U6⟩:=Gu (P:=prog) 66 66 207 i0 underlying66 hi0 hz0 hz1 hz2
  (g:=.cons t y n s i .nil) akp afD (fun q hq h=>by rw[e3]at h;have:=(Og q h).1;omega) hsx (fun q hq h=>by rw[e3]at h;have:=Og q h;rcases hq with hq|hq<;>omega) (by rw[e3];simp only[Fs.len];omega) (by rw[World.size_alloc];omega)
 have e4:((F.take a).app (.cons t y n s i .nil)).len=a+1:=by rw[Fs.DU,e3];rfl
 rw[e4]at hrun3 Vr U6
 rw[e3]at hrun3 gr3 U6
 have hb3:Below W1.heap.size W1 W3:=hb2'.trans (dX.grown (S:=fun q=>(Value.slice A2 a c2).ownBlock=some q) gr3 (fun q hq _=>hq) |>.iI hb2'.size fun q hq h=>by have:=(Og q h).1;omega)
 have Oh:∀q,(Value.slice A3 (a+1) c3).ownBlock=some q→W1.heap.size≤q∧q<W3.heap.size∧q≠W2.heap.size:=fun q hq=>by
  have h5:=Vr.lt q hq;refine⟨h5.1,h5.2,?_⟩;rcases U6 with h6|h6
  ·rw[h6]at hq;have:=(Og q hq).2;omega
  rw[h6,World.size_alloc]at hq;injection hq with hq;omega
 have afF:=afE.imp (J:=fun q=>q<W1.heap.size∨q=W2.heap.size) fun q hq=>by
  rcases hq.1 with h|h
  ·exact .inl h
  exact h
 have akq:W3.ownsRow W1.heap.size 207 5 (.slice A3 ((F.take a).app (.cons t y n s i .nil)).len c3) ((F.take a).app (.cons t y n s i .nil)).len xs3:=by rw[e4];exact Vr
 have l3':=l3.below hb3
 rw[← hdl]at l3'
 obtain⟨A4,c4,W4,zo,hrun4,own4,uD,gr4,U7⟩:=Gu (P:=prog) 66 66 207 i0 underlying66 hi0 hz0 hz1 hz2
  (g:=F.drop a) akq afF (fun q hq h=>by rw[e4]at h;have:=Oh q h;rcases hq with hq|hq<;>omega) l3' (fun q hq h=>by rw[e4]at h;have:=Oh q h;omega) (by rw[e4,hdl];omega) hb3.size
 have e5:(((F.take a).app (.cons t y n s i .nil)).app (F.drop a)).len=F.len+1:=by rw[Fs.DU,e4,hdl];omega
 rw[e5]at hrun4 own4 U7
 rw[e4]at hrun4 gr4 U7
 rw[hdl]at hrun4
 refine⟨A2,c2,W2,hrun2,hb2,A3,c3,W3,hrun3,A4,c4,W4,zo,hrun4,own4,?_,?_⟩
 ·have e6:((F.take a).app (.cons t y n s i .nil)).app (F.drop a)=fB (F.eP.take a++⟨t,y,n,s,i⟩::F.eP.drop a):=by
   rw[Vl,adr,ZB,Fs.I9];rfl
  rw[e6]at uD;refine uD.imp fun q hq h=>?_;rcases U7 with h6|h6
  ·rw[h6]at h
   have h7:=Oh q h;rcases hq.1 with(h8|h8)|h8<;>omega
  rw[h6]at h;injection h with h;have:=hq.2;omega
 ·exact hb3.trans (dX.grown (S:=fun q=>(Value.slice A3 (a+1) c3).ownBlock=some q) gr4 (fun q hq _=>hq) |>.iI hb3.size fun q hq h=>by have:=(Oh q h).1;omega)
def IV(W1:World)(S:List Fl)(L a la d1 d3 t n:Nat)(y:Int)(s:ByteArray)(i:Fs)(B1 B3 Ai:Option Addr)(ci:Nat):Prop :=
 ∃(A2:Option Addr) (c2:Nat) (W2:World),(Builtin.append_ #[66,66] 66 #[.slice none 0 0,.slice B1 a d1]).run prog W1=.ok (.slice A2 a c2) W2∧Below W1.heap.size W1 W2∧
  ∃(A3:Option Addr) (c3:Nat) (W3:World),(Builtin.append_ #[66,66] 66 #[.slice A2 a c2,.slice (some ⟨W2.heap.size,0,none⟩) 1 1]).run prog (W2.alloc (.cells #[.int .u64 (t:Int),.int .i64 y,.int .u64 (n:Int),.string s,.slice Ai i.len ci] 207))=.ok (.slice A3 (a+1) c3) W3∧
  ∃(A4:Option Addr) (c4:Nat) (W4:World) (xs:List Value),(Builtin.append_ #[66,66] 66 #[.slice A3 (a+1) c3,.slice B3 la d3]).run prog W3=.ok (.slice A4 (L+1) c4) W4∧
   W4.ownsRow W1.heap.size 207 5 (.slice A4 (L+1) c4) (L+1) xs∧Cls W4 (fun q=>(Value.slice A4 (L+1) c4).ownBlock≠some q) xs (fB (S.take a++⟨t,y,n,s,i⟩::S.drop a))∧Below W1.heap.size W1 W4
theorem OI{W1:World}{I:Nat→Prop}{S:List Fl}{L a la d1 d3 t n:Nat}{y:Int}{s:ByteArray}{i:Fs}{B1 B3 Ai:Option Addr}{ci:Nat}(hL:S.length=L)(hla:la=L - a)
 (h1:eF W1 I (.slice B1 a d1) ((fB S).take a)) (h3:eF W1 I (.slice B3 la d3) ((fB S).drop a)) (hi:eF W1 I (.slice Ai i.len ci) i) (ha:a≤L) (h60:L≤1000000) :
 IV W1 S L a la d1 d3 t n y s i B1 B3 Ai ci:=by
 have e:(fB S).len=L:=by rw[wU,hL]
 subst hla
 have:=alz (t:=t) (n:=n) (y:=y) (s:=s) h1 (by rw[e];exact h3) hi (by rw[e];exact ha) (by rw[e];exact h60)
 rw[e,qM]at this
 exact this
end Go.Proofs.YtgidfnhfgiehjaaGreatDoor
namespace Go.Proofs.YtgidfnhfgiehjaaGreatDoor
open Go.PM Go.RowKit Go.Proofs.Tryz
set_option maxRecDepth 100000
set_option maxHeartbeats 4000000
attribute [local go_sem ↓] Go.wp_at_zero Go.wp_at_succ

