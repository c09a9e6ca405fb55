/-
  Parts of the proof. Conditions: as each names.
-/
import Derived.Test.YtgidfnhfgiehjaaGreatDoorYaq
import Derived.Test.YtgidfnhfgiehjaaGreatDoorYap
namespace Go.Proofs.YtgidfnhfgiehjaaGreatDoor
open Go.PM Go.RowKit Go.Proofs.Tryz
set_option maxRecDepth 100000
set_option maxHeartbeats 4000000
attribute [local go_sem ↓] Go.wp_at_zero Go.wp_at_succ
def pk(l:List fD)(k:Nat):Option (List UInt8):=if k=0 then none else(l[k - 1]?).map (·.1)
theorem Vu(l:List fD):pk l 0=none:=rfl
theorem Ho(l:List fD)(k:Nat)(h:k<l.length):pk l (k+1)=some l[k].1:=by
 unfold pk;rw[ay (by omega),Nat.add_sub_cancel,aP h];rfl
theorem Y4(A:Option Addr)(c:Nat)(l:List fD)(w:World)(hr:Rd w A (ents l))(hz:lg l)(hl:l.length≤9223372036854775807)(hT:Tabs w) :
 Calls prog 144 #[.slice A l.length c] w (aj w (.int .i64 (iZ dV l))):=by
 have HR:=ah hr
 have HZ:=ah hz
 have HT:=ah hT
 have wl:IntKind.u64.wrap (l.length:Int)=(l.length:Int):=by rw[IntKind.wrap_u64];omega
 have HM:Hid (∀x:World,Calls prog 181 #[.int .u64 (l.length:Int)] x fun e w'=>e=.returned (.int .i64 (kR l.length))∧w'=x):=fun x=>Vb l.length x
 unfold iZ
 clear hr hz hT
 by_cases hm:kR l.length=0
 ·rw[ay (by rw[hm];simp)]
  rw[hm]at HM;have H0:Hid (mJ dV none l=mJ dV (pk l 0) (l.drop 0)):=rfl;generalize mJ dV none l=F at H0⊢;clear hm;go_enter func144,ntmps144;go_wp2_with fail;refine(HM.out _).mono ?_;rintro e w1 ⟨rfl,rfl⟩;go_wp2_with fail;go_loopg [17] l.length (fun gk ki wr=>∃k:Nat,k≤l.length∧l.length - k≤gk∧ki=.int .i64 (k:Int)∧Hid (F=mJ dV (pk l k) (l.drop k))∧Below w1.heap.size w1 wr)
  case atStart=>exact⟨0,aW _,by omega,rfl,H0,b0⟩
  case round=>
   obtain⟨k,hk,hgk,rfl,HF,hbel⟩:=hrel;by_cases hlt:k<l.length
   ·obtain⟨b,off,hA,hbl,c0,c1⟩:=(HR.out.below hbel).ent hlt
    have hf:=HF.out;rw[bI hlt,mJ]at hf;have hps:=Ho l k hlt;obtain⟨z0,z1⟩:=HZ.out _ (aS hlt);generalize l[k]=x at *;obtain⟨x0,x1⟩:=x;simp only at c0 c1 hf hps z0 z1;rw[← hps]at hf;have jT:=ah hf;have hxe:=dU.made wr 132 #[.string (txt x0),.string (txt x1)];have Yv:=ah hxe;have HB:=ah (ba hbel (.cells #[.string (txt x0),.string (txt x1)] 132));have HB1:=ah hbel;have HC:=ah (Nk (txt x0) (txt x1) (wr.alloc (.cells #[.string (txt x0),.string (txt x1)] 132)) (by rw[gI];omega) (by rw[gI];omega) (HT.out.below HB.out));rw[iD,iD]at HC;clear hf hps hxe hbel HF H0 z0 z1;subst hA;by_cases hE:dV x0 x1=0
    ·rw[hE]at HC
     have hf:=jT.out;rw[ay (by rw[hE];simp)]at hf;have HF2:=ah hf;clear hf jT hE;go_wp2_with fail;refine HC.out.mono ?_;rintro e w2 ⟨rfl,hb2⟩;have iW:=ah (bb HB.out hb2);have hx2:=Yv.out.below hb2 Yv.out.lt;have kC:=ah hx2;clear hb2 HC;by_cases hk0:k=0
     ·subst hk0
      have hf:=HF2.out;rw[Vu]at hf;have HN:Hid (F=mJ dV (pk l (0+1)) (l.drop (0+1))):=by
       show _=_;rw[hf];exact ay (by simp[nV])
      clear hf hx2 HF2;go_wp2_with fail;go_roundg (l.length - (0+1))
      case measure=>omega
      case rel=>exact⟨0+1,by omega,au _,by go_num,HN,iW.out⟩
     obtain⟨j,rfl⟩:∃j,k=j+1:=⟨k - 1,by omega⟩;have hf:=HF2.out;have hjl:j<l.length:=(by omega);rw[Ho l j hjl]at hf;have hji:((j+1:Nat):Int) - 1=(j:Int):=(by omega);obtain⟨b',off',hA',sZ,d0,d1⟩:=(HR.out.below iW.out).ent hjl;injection hA' with hA';injection hA' with e1 e2;subst e1 e2;generalize l[j]=y at *;obtain⟨y0,y1⟩:=y;simp only at d0 d1;change F=if nI y0 x0≠0 then nI y0 x0 else mJ dV (pk l (j+1+1)) (l.drop (j+1+1))at hf
     obtain⟨D,Ef⟩:∃D,D=nI y0 x0:=⟨_,rfl⟩;rw[← Ef]at hf;have wB:Hid (∀n:fV w2,Calls prog 183 #[.string (txt y0),.string (txt x0)] n.wld (aj n.wld (.int .i64 D))):=fun n=>(YU (txt y0) (txt x0) n.wld).mono fun e w' ⟨h1,h2⟩=>⟨by rw[h1,Ef];rfl,by rw[h2];exact b0⟩;clear Ef;have rC:b<w2.heap.size:=sZ;have n0:∀n:fV w2,n.wld.cell? ⟨b,off+j*2,none⟩=some (.string (txt y0)):=fun n=>(World.cell?_of_block (a:=⟨b,off+j*2,none⟩) (n.bel.block b rC)).trans d0;have n1:∀n:fV w2,n.wld.cell? ⟨wr.heap.size,0,none⟩=some (.string (txt x0)):=fun n=>(hx2.below n.bel hx2.lt).cell 0;have hj1:(j:Int)<(l.length:Int):=(by omega);clear d0 d1 hx2 HF2 c0 c1;by_cases hD:D=0
     ·subst hD
      rw[ay (by simp)]at hf;have HN:=ah hf;clear hf;go_wp2_with fail;refine kM (by kernel_rfl) (by kernel_rfl) ?_;repeat(first|go_big_quiet_skip|(go_big_quiet_want;go_big_quiet_op;first|go_big_quiet_on|(apply Exists.intro;refine⟨fun nq=>?_,?_⟩;(go_at_call 183;exact jW (wB.out _));go_big_quiet_on)))
      refine wpQuiet_nil ?_;intro wq hnq;obtain⟨nq,rfl⟩:=hnq;have hq:=nq.bel;generalize nq.wld=wq at hq⊢;clear nq;have xg:=ah (bb iW.out hq);clear hq n0 n1 wB;go_wp2_with fail;go_roundg (l.length - (j+1+1))
      case measure=>omega
      case rel=>exact⟨j+1+1,by omega,au _,by go_num,HN,xg.out⟩
     rw[aA hD]at hf;subst hf;have hDi:(F != 0)=true:=(by rw[aZ];exact hD);clear hD;go_wp2_with fail;refine kM (by kernel_rfl) (by kernel_rfl) ?_;repeat(first|go_big_quiet_skip|(go_big_quiet_want;go_big_quiet_op;first|go_big_quiet_on|(apply Exists.intro;refine⟨fun nq=>?_,?_⟩;(go_at_call 183;exact jW (wB.out _));go_big_quiet_on)))
     refine wpQuiet_nil ?_;intro wq hnq;obtain⟨nq,rfl⟩:=hnq;have hq:=nq.bel;generalize nq.wld=wq at hq⊢;clear nq;have xg:=ah (bb iW.out hq);clear hq n0 n1 wB;go_wp2_with fail;go_ret;exact⟨rfl,xg.out⟩
    have hf:=jT.out;rw[aA hE]at hf;have hEi:(F != 0)=true:=(by rw[aZ,hf];exact hE);rw[← hf]at HC;clear jT hE hf;go_wp2_with fail;refine HC.out.mono ?_;rintro e w2 ⟨rfl,hb2⟩;have iW:=ah (bb HB.out hb2);clear hb2 HC;go_wp2_with fail;go_ret;exact⟨rfl,iW.out⟩
   obtain rfl:k=l.length:=(by omega);have hf:=HF.out;rw[dF (au _),mJ]at hf;subst hf;have HB:=ah hbel;clear hbel HF H0;go_wp2_with fail;go_ret;exact⟨rfl,HB.out⟩
 ·rw[aA hm]
  have GX:(kR l.length != 0)=true:=by rw[aZ];exact hm
  generalize kR l.length=E at *;clear hm;go_enter func144,ntmps144;go_wp2_with fail;refine(HM.out _).mono ?_;rintro e w1 ⟨rfl,rfl⟩;go_wp2_with fail;go_ret;exact⟨rfl,b0⟩
def uG(L:List fD)(a:Nat)(R:List fD×Nat×Int):List fD×Nat×Int:=if R.2.2≠0 then([],0,R.2.2)else(L++R.1,a+R.2.1,0)
theorem aga:∀(n:Nat) (p:Option (List UInt8)) (s:List UInt8),(kE dV n p s).2.2≠0→kE dV n p s=([],0,(kE dV n p s).2.2)
 |0,p,s,h=>aJ rfl h
 |n+1,p,s,h=>by
   rw[kE]at h⊢;split
   ·rfl
   split
   ·rfl
   split
   ·rfl
   rename_i h1 h2 h3;rw[ay h1,ay h2,ay h3]at h;exact aJ rfl h
theorem afZ(n:Nat)(p:Option (List UInt8))(s:List UInt8):kE dV n p s=uG [] 0 (kE dV n p s):=by
 unfold uG
 by_cases h:(kE dV n p s).2.2≠0
 ·rw[aA h]
  exact aga n p s h
 rw[ay h,List.nil_append,aX];have h2:(kE dV n p s).2.2=0:=by omega
 rw[← h2]
theorem Zn(L:List fD)(a:Nat)(E:Int)(h:E≠0):uG L a ([],0,E)=([],0,E):=by
 unfold uG
 rw[aA h]
theorem afY(L:List fD)(a:Nat):uG L a ([],0,0)=(L,a,0):=by
 unfold uG
 rw[ay (by simp),bQ,Nat.add_zero]
theorem af0(L M:List fD)(a m:Nat)(R:List fD×Nat×Int):uG L a (uG M m R)=uG (L++M) (a+m) R:=by
 unfold uG
 by_cases h:R.2.2≠0
 ·rw[aA h,aA h,aA h]
 rw[ay h,ay h,ay (by simp),bP,Nat.add_assoc]
theorem agb(n:Nat)(p:Option (List UInt8))(s:List UInt8):kE dV (n+1) p s=if(jf dV s).2.2≠0 then([],0,(jf dV s).2.2)else if nV p (jf dV s).1.1≠0 then([],0,nV p (jf dV s).1.1)
 else uG [(jf dV s).1] (jf dV s).2.1 (kE dV n (some (jf dV s).1.1) (s.drop (jf dV s).2.1)):=by
 rw[kE]
 rfl
theorem akv(L:List fD)(e:fD):pk (L++[e]) (L.length+1)=some e.1:=by
 rw[Ho _ _ (by simp)];simp
def yN(B:Nat)(w:World)(v:Value)(l:List fD):Prop:=∃A c,v=.slice A l.length c∧Rd w A (ents l)∧l.length≤c∧∀b off,A=some ⟨b,off,none⟩→B≤b
def yt(w:World)(b:Nat)(s:ByteArray)(k:Nat)(e:Ending)(w':World):Prop :=
 ∃(k':Nat) (v:Value),e=.returned (.tuple #[v,.int .i64 (pJ dV (s.data.toList.drop k)).2.2])∧yN w.heap.size w' v (pJ dV (s.data.toList.drop k)).1∧fG w' b s k'∧((pJ dV (s.data.toList.drop k)).2.2=0→k'=k+(pJ dV (s.data.toList.drop k)).2.1)∧w.grownBy w' (some b)
theorem KC(B:Nat)(w:World):yN B w (.slice none 0 0) []:=⟨none,0,rfl,.inl rfl,au _,fun _ _ e=>by cases e⟩
def P8(wM:World)(b:Nat)(s:ByteArray)(k1 n:Nat)(D:List fD×Nat×Int)(i:Nat)(out:Value)(wr:World):Prop :=
 ∃(L:List fD) (a:Nat),L.length=i∧wr.ownsRow wM.heap.size 132 2 out i (ents L)∧fG wr b s (k1+a)∧D=uG L a (kE dV (n - i) (pk L i) (s.data.toList.drop (k1+a)))∧wM.grownBy wr (some b)
theorem agc(W0:World)(hT:Tabs W0)(b:Nat)(s:ByteArray)(k:Nat)(w:World)(h0:Below W0.heap.size W0 w)(zZ:W0.heap.size≤b)(h:fG w b s k) :
 Calls prog 179 #[.pointer (some ⟨b,0,none⟩)] w (yt w b s k):=by
 have hbl:=h.1.lt
 have HN:=ah (next_any b s k w h)
 have HT:=ah hT
 have H0:=ah h0
 obtain⟨i0,hi0,hz0,hz1,hz2⟩:=info_parts OG
 clear h h0 hT
 obtain⟨X,hX⟩:∃X,X=pJ dV (s.data.toList.drop k):=⟨_,rfl⟩
 have gB:Hid (∀(k':Nat) (v:Value) (w':World),yN w.heap.size w' v X.1→fG w' b s k'→(X.2.2=0→k'=k+X.2.1)→w.grownBy w' (some b)→yt w b s k (.returned (.tuple #[v,.int .i64 X.2.2])) w'):=fun k' v w' h1 h2 h3 h4=>by
  unfold yt;rw[← hX];exact⟨k',v,rfl,h1,h2,h3,h4⟩
 unfold pJ at hX
 by_cases hv:(dQ (s.data.toList.drop k)).2.2=0
 ·rw[ay (by rw[hv];simp)]at hX
  obtain⟨v1,v2,v3,v4,v5⟩:=nZ hv;have iq:Hid (Calls prog 174 #[.pointer (some ⟨b,0,none⟩)] w fun e w'=>e=.returned (.tuple #[.int .u64 ((dQ (s.data.toList.drop k)).1:Int),.int .i64 0])∧fG w' b s (k+(dQ (s.data.toList.drop k)).2.1)∧w.grownBy w' (some b)):=by
   have:=HN.out;rw[hv]at this;exact this
  have hdd:∀m:Nat,((s.data.toList.drop k).drop m)=s.data.toList.drop (k+m):=fun m=>by rw[cZ]
  rw[hdd]at hX;have nM:(dQ (s.data.toList.drop k)).1<18446744073709551616:=by omega
  clear HN hv v5 v1 v2 v3 v4 hdd;generalize(dQ (s.data.toList.drop k)).1=n at *;generalize hmm:(dQ (s.data.toList.drop k)).2.1=m at *;clear hmm;have HM:=ah (fun x:World=>Vb n x);by_cases hm:kR n=0
  ·rw[ay (by rw[hm];simp)]at hX
   rw[hm]at HM;have hn16:n≤16:=by
    unfold kR at hm;by_cases h0:n=0
    ·omega
    by_cases h1:16<n
    ·rw[ay h0,aA h1]at hm;exact aJ hm (by decide)
    omega
   clear hm nM;generalize hD:kE dV n none (s.data.toList.drop (k+m))=D at hX;have xk:Hid (∀(L:List fD) (a:Nat) (v:Value) (w':World),D=(L,a,0)→yN w.heap.size w' v L→fG w' b s (k+m+a)→w.grownBy w' (some b)→yt w b s k (.returned (.tuple #[v,.int .i64 0])) w'):=fun L a v w' hd hs hc hg=>by
    rw[hd,ay (by simp)]at hX;have:=gB.out (k+m+a) v w' (by rw[hX];exact hs) hc (fun _=>by rw[hX];simp only;omega) hg;rw[hX]at this;exact this
   have CY:Hid (∀(E:Int) (k':Nat) (w':World),E≠0→D=([],0,E)→fG w' b s k'→w.grownBy w' (some b)→yt w b s k (.returned (.tuple #[.slice none 0 0,.int .i64 E])) w'):=fun E k' w' hE hd hc hg=>by
    rw[hd,aA hE]at hX;have:=gB.out k' (.slice none 0 0) w' (by rw[hX];exact KC _ w') hc (fun h=>by rw[hX]at h;exact aJ h hE) hg;rw[hX]at this;exact this
   clear hX gB;have HD:Hid (D=uG [] 0 (kE dV (n - 0) (pk [] 0) (s.data.toList.drop (k+m+0)))):=by
    show _=_;rw[← hD];exact afZ n none _
   clear hD;have wn:IntKind.i64.wrap (n:Int)=(n:Int):=(by rw[IntKind.wrap_i64];omega);go_enter func179,ntmps179;go_wp2_with fail;refine iq.out.mono ?_;rintro e w1 ⟨rfl,hc1,hg1⟩;have gK:=ah hc1;have iU:=ah hg1;clear hc1 hg1 iq;go_wp2_with fail;refine(HM.out w1).mono ?_;rintro e w2 ⟨rfl,rfl⟩;obtain⟨wM,hmk,hown,hgM⟩:=run_make_own (P:=prog) w2 w2.heap.size 24 132 i0 E8 2 underlying24 hi0 hz0 hz1 .i64 .u64 n (by rw[hz2];omega) (by unfold maxLen;omega) (au _);have hbw2:b<w2.heap.size:=gK.out.1.lt;have hS0:P8 w2 b s (k+m) n D 0 (.slice (some ⟨w2.heap.size,0,none⟩) 0 n) wM :=
    ⟨[],0,rfl,hown,⟨gK.out.1.step hgM (by simp),gK.out.2⟩,HD.out,oH (below_of_grown hgM) _⟩
   have Dy:=ah hS0;clear hown hgM hS0 HM;go_wp2_with fail;clear hmk;go_loopg [7,29] n (fun gk out vi wr=>∃i:Nat,i≤n∧n - i≤gk∧vi=.int .i64 (i:Int)∧Hid (P8 w2 b s (k+m) n D i out wr))
   case atStart=>exact⟨0,aW _,by omega,rfl,Dy⟩
   case round=>
    obtain⟨i,hi,hgk,rfl,HS⟩:=hrel;obtain⟨L,a,hLi,hown,hcur,hd,hg⟩:=HS.out;have hbase:=(Bv (B:=W0.heap.size) iU.out zZ (H0.out.size));have Ei:Below W0.heap.size W0 wr:=(H0.out.trans hbase).trans (Bv hg zZ (aI H0.out.size iU.out.size));have hgw:w.grownBy wr (some b):=jB iU.out hg fun x e _=>e;obtain⟨A1,c1,hA1,hrd,hlc,hfr⟩:=Rd.own hown;by_cases hlt:i<n
    ·obtain⟨r,hr⟩:∃r,n - i=r+1:=⟨n - i - 1,by omega⟩
     rw[hr,agb]at hd;have HEX:=ah (agt W0 HT.out b s (k+m+a) wr Ei zZ hcur);have hsz0:=hg.size;unfold yu at HEX;have hdd:∀q:Nat,((s.data.toList.drop (k+m+a)).drop q)=s.data.toList.drop (k+m+(a+q)):=fun q=>(by rw[cZ,Nat.add_assoc]);rw[hdd]at hd;generalize jf dV (s.data.toList.drop (k+m+a))=X2 at *;obtain⟨⟨x0,x1⟩,q,E⟩:=X2;simp only at hd HEX;subst hA1;have HD2:=ah hd;have HOWN:=ah hown;have jq:=ah hrd;have HG:=ah hg;have Df:=ah hgw;clear hd hown hrd hg hgw hcur Ei hbase HS Dy HD hdd hfr;by_cases hE:E=0
     ·subst hE
      have hd:=HD2.out;rw[ay (by simp)]at hd;have HD3:=ah hd;clear hd HD2;go_wp2_with fail;refine HEX.out.mono ?_;rintro e w3 ⟨k3,rfl,hc3,hk3,hg3⟩;have Ul:k3=k+m+(a+q):=(by have:=hk3 trivial;omega);subst Ul;have hx3:=dU.made w3 132 #[.string (txt x0),.string (txt x1)];have eU:=ba (a:=w3) b0 (.cells #[.string (txt x0),.string (txt x1)] 132);have hown4:=own_below (Vs HOWN.out hg3 hbw2) eU;have hc4:fG (w3.alloc (.cells #[.string (txt x0),.string (txt x1)] 132)) b s (k+m+(a+q)):=⟨hc3.1.more _,hc3.2⟩;have hg4:w2.grownBy (w3.alloc (.cells #[.string (txt x0),.string (txt x1)] 132)) (some b):=Js (jB HG.out hg3 fun x e _=>e) _;have aa9:w.grownBy (w3.alloc (.cells #[.string (txt x0),.string (txt x1)] 132)) (some b):=Js (jB Df.out hg3 fun x e _=>e) _;have aiw:=hg4.size;have FV:=ah hx3;have FP:=ah hown4
      have pX:=ah hc4;have rJ:=ah hg4;have Iq:=ah aa9;have e0:=hx3.cell 0;have e1:=hx3.cell 1;simp at e0 e1;have aoL:=hx3.lt;clear hx3 eU hown4 hc4 hg4 aa9 hc3 hg3 hk3 HEX HOWN jq HG Df;have Fp:Hid (∀(w5:World),Below (w3.alloc (.cells #[.string (txt x0),.string (txt x1)] 132)).heap.size (w3.alloc (.cells #[.string (txt x0),.string (txt x1)] 132)) w5→nV (pk L i) x0=0→∃(c':Nat) (A':Option Addr) (w':World),(Builtin.append_ #[24,24] 24 #[.slice A1 i c1,.slice (some ⟨w5.heap.size,0,none⟩) 1 1]).run prog (w5.alloc (.cells #[.string (txt x0),.string (txt x1)] 132))=.ok (.slice A' (i+1) c') w'∧P8 w2 b s (k+m) n D (i+1) (.slice A' (i+1) c') w'):=fun w5 hb5 jk=>by
       have eU:=ba hb5 (.cells #[.string (txt x0),.string (txt x1)] 132);have hy:=World.news_of_block (cs:=#[.string (txt x0),.string (txt x1)]) (t:=132) (fr:=(0,0)) (heap_alloc_new w5 (.cells #[.string (txt x0),.string (txt x1)] 132));have Oo:Rd (w5.alloc (.cells #[.string (txt x0),.string (txt x1)] 132)) (some ⟨w5.heap.size,0,none⟩) (ents [(x0,x1)]):=by
        refine .inr ⟨_,_,rfl,by simp,fun j u hj=>?_⟩;have:=hy j u hj
        rwa [rV,← aX j]at this
       have hown5:=own_below FP.out eU;have Ew:=eU.size;subst hLi;obtain⟨A2,c2,w6,hrun,hown6,hgr,hat⟩:=ZE 24 24 132 i0 underlying24 hi0 hz0 hz1 hz2 (d:=1) hown5 Oo (by simp only[List.length_singleton];omega) (by omega);have GN:∀g,(Value.slice A1 L.length c1).ownBlock=some g→w2.heap.size≤g:=fun g h=>(hown5.lt g h).1;have hgg:w2.grownBy w6 (some b):=by
        have h1:w2.grownBy (w5.alloc (.cells #[.string (txt x0),.string (txt x1)] 132)) (some b):=jB rJ.out (oH eU (some b)) fun x e _=>e;exact jB h1 hgr fun x e hx=>by have:=GN x e;omega
       refine⟨c2,A2,w6,hrun,L++[(x0,x1)],a+q,by simp,hown6,⟨(pX.out.1.below eU pX.out.1.lt).step hgr ?_,pX.out.2⟩,?_,hgg⟩
       ·intro e
        have:=GN b e.symm;omega
       have hd:=HD3.out;rw[ay (by rw[jk];simp),af0]at hd;rw[hd,akv,show n - (L.length+1)=r by omega]
      have aa7:∀(w5:World),Below (w3.alloc (.cells #[.string (txt x0),.string (txt x1)] 132)).heap.size (w3.alloc (.cells #[.string (txt x0),.string (txt x1)] 132)) w5→fG w5 b s (k+m+(a+q))∧w.grownBy w5 (some b):=fun w5 hb=>⟨⟨pX.out.1.below hb pX.out.1.lt,pX.out.2⟩,jB Iq.out (oH hb (some b)) fun x e _=>e⟩;have Xo:=ah aa7;clear aa7;by_cases hi0:i=0
      ·have hni:decide ((0:Int)<(i:Int))=false:=aO (by omega)
       have aoO:decide (0<i)=false:=aO (by omega);obtain⟨c',A',w',hrun,hN⟩:=Fp.out _ b0 (by rw[hi0,Vu];rfl);simp only[World.size_alloc]at hrun;have lC:=ah hrun;have kP:=ah hN;clear hrun hN Fp HD3 hi0;go_wp2_with(at_builtin;(refine wpList_append_run rfl _ _ _ _ rfl _ _ _ rfl rfl lC.out ?_));go_roundg (n - (i+1))
       case measure=>omega
       case rel=>exact⟨i+1,by omega,au _,by go_num,kP⟩
      obtain⟨j,rfl⟩:∃j,i=j+1:=⟨i - 1,by omega⟩;have hji:((j+1:Nat):Int) - 1=(j:Int):=(by omega);have hjl:j<L.length:=(by omega);have hj1:(j:Int)<((j+1:Nat):Int):=(by omega);have hj2:(0:Int)<((j+1:Nat):Int):=(by omega);go_wp2_with fail;generalize hw4:w3.alloc (.cells #[.string (txt x0),.string (txt x1)] 132)=w4 at *;generalize hp4:w3.heap.size=p4 at *;clear hw4 hp4;have aiu:=Rd.own FP.out;obtain⟨A9,c9,vO,BQ,_,_⟩:=aiu;injection vO with f1 f2 f3;subst f1 f3;obtain⟨g,off,hAg,hgl,d0,_⟩:=BQ.ent hjl;subst hAg;have hpk:pk L (j+1)=some (L[j]).1:=Ho L j hjl;rw[hpk]at HD3 Fp;generalize L[j]=y at *;obtain⟨y0,y1⟩:=y;simp only at d0 HD3 Fp;obtain⟨B,hBd⟩:∃B,B=nI y0 x0:=⟨_,rfl⟩
      have wB:Hid (∀n:fV w4,Calls prog 183 #[.string (txt y0),.string (txt x0)] n.wld (aj n.wld (.int .i64 B))):=fun n=>(YU (txt y0) (txt x0) n.wld).mono fun e w' ⟨h1,h2⟩=>⟨by rw[h1,hBd];rfl,by rw[h2];exact b0⟩;have n0:∀n:fV w4,n.wld.cell? ⟨g,off+j*2,none⟩=some (.string (txt y0)):=fun n=>(World.cell?_of_block (a:=⟨g,off+j*2,none⟩) (n.bel.block g hgl)).trans d0;have n1:∀n:fV w4,n.wld.cell? ⟨p4,0,none⟩=some (.string (txt x0)):=fun n=>(FV.out.below n.bel FV.out.lt).cell 0;have Qc:Hid (B=0→∀(w5:World),Below w4.heap.size w4 w5→_):=fun hB w5 hb5=>Fp.out w5 hb5 (by rw[← hB,hBd];rfl);have FI:Hid (B≠0→D=([],0,B)):=fun hB=>by
       have hd:=HD3.out;change D=uG L a (if nI y0 x0≠0 then([],0,nI y0 x0)else _)at hd;rw[← hBd,aA hB,Zn L a B hB]at hd;exact hd
      clear d0 hpk BQ HD3 Fp hBd;by_cases hB:B=0
      ·have WE:=ah (Qc.out hB)
       subst hB;clear Qc FI;refine kM (by kernel_rfl) (by kernel_rfl) ?_;repeat(first|go_big_quiet_skip|(go_big_quiet_want;go_big_quiet_op;first|go_big_quiet_on|(apply Exists.intro;refine⟨fun nq=>?_,?_⟩;(go_at_call 183;exact jW (wB.out _));go_big_quiet_on)))
       refine wpQuiet_nil ?_;intro wq hnq;obtain⟨nq,rfl⟩:=hnq;have hq:=nq.bel;generalize nq.wld=wq at hq⊢;clear nq;obtain⟨c',A',w',hrun,hN⟩:=WE.out _ hq;have lC:=ah hrun;have kP:=ah hN;have u0:=(FV.out.below hq FV.out.lt).cell 0;have u1:=(FV.out.below hq FV.out.lt).cell 1;simp at u0 u1;clear hrun hN WE n0 n1 wB hq;go_wp2_with(at_builtin;(refine wpList_append_run rfl _ _ _ _ rfl _ _ _ rfl rfl lC.out ?_));go_roundg (n - (j+1+1))
       case measure=>omega
       case rel=>exact⟨j+1+1,by omega,au _,by go_num,kP⟩
      have hBi:(B != 0)=true:=(by rw[aZ];exact hB);have HE:Hid (∀w',Below w4.heap.size w4 w'→yt w b s k (.returned (.tuple #[.slice none 0 0,.int .i64 B])) w'):=fun w' hb=>CY.out B _ w' hB (FI.out hB) (Xo.out w' hb).1 (Xo.out w' hb).2;clear Qc FI hB;refine kM (by kernel_rfl) (by kernel_rfl) ?_;repeat(first|go_big_quiet_skip|(go_big_quiet_want;go_big_quiet_op;first|go_big_quiet_on|(apply Exists.intro;refine⟨fun nq=>?_,?_⟩;(go_at_call 183;exact jW (wB.out _));go_big_quiet_on)))
      refine wpQuiet_nil ?_;intro wq hnq;obtain⟨nq,rfl⟩:=hnq;have hq:=nq.bel;generalize nq.wld=wq at hq⊢;clear nq;have HE2:=ah (HE.out _ hq);clear hq n0 n1 wB HE;go_wp2_with fail;go_ret2;exact HE2.out
     have hEi:(E != 0)=true:=(by rw[aZ];exact hE);have hd:=HD2.out;rw[aA hE,Zn L a E hE]at hd;have HE:Hid (∀k' w',fG w' b s k'→w.grownBy w' (some b)→yt w b s k (.returned (.tuple #[.slice none 0 0,.int .i64 E])) w'):=fun k' w' hc hg=>CY.out E k' w' hE hd hc hg;clear hd HD2 hE;go_wp2_with fail;refine HEX.out.mono ?_;rintro e w3 ⟨k3,rfl,hc3,hk3,hg3⟩;have HE2:=ah (HE.out k3 _ ⟨hc3.1.more (.cells #[.string (txt x0),.string (txt x1)] 132),hc3.2⟩ (Js (jB Df.out hg3 fun x e _=>e) _));clear hc3 hk3 hg3 HEX HE;go_wp2_with fail;go_ret2;exact HE2.out
    obtain rfl:i=n:=(by omega);rw[Nat.sub_self,kE,afY]at hd;subst hA1;have hL2:yN w.heap.size wr (.slice A1 i c1) L:=⟨A1,c1,by rw[hLi],hrd,by rw[hLi];exact hlc,fun b' off' e=>aI iU.out.size (hfr b' off' e).2⟩;have HE:=ah (xk.out L a (.slice A1 i c1) wr hd hL2 hcur hgw);clear hd hown hrd hL2 hg hgw hcur Ei hbase HS Dy HD xk CY hLi hfr;go_wp2_with fail;go_ret2;exact HE.out
  rw[aA hm]at hX;have GX:(kR n != 0)=true:=by rw[aZ];exact hm
  have HE:Hid (∀k' w',fG w' b s k'→w.grownBy w' (some b)→yt w b s k (.returned (.tuple #[.slice none 0 0,.int .i64 (kR n)])) w'):=fun k' w' hc hg=>by
   have:=gB.out k' (.slice none 0 0) w' (by rw[hX];exact KC _ w') hc (fun h=>by rw[hX]at h;exact aJ h hm) hg;rw[hX]at this;exact this
  generalize kR n=E at *;clear hm hX gB;go_enter func179,ntmps179;go_wp2_with fail;refine iq.out.mono ?_;rintro e w1 ⟨rfl,hc1,hg1⟩;have CX:=ah (HE.out _ w1 hc1 hg1);clear hc1 hg1;go_wp2_with fail;refine(HM.out _).mono ?_;rintro e w2 ⟨rfl,rfl⟩;go_wp2_with fail;go_ret2;exact CX.out
 ·have Am:=PZ hv
  rw[aA hv]at hX;have xZ:(((dQ (s.data.toList.drop k)).2.2:Int) != 0)=true:=by rw[aZ];omega
  have HE:Hid (∀k' w',fG w' b s k'→w.grownBy w' (some b)→yt w b s k (.returned (.tuple #[.slice none 0 0,.int .i64 ((dQ (s.data.toList.drop k)).2.2:Int)])) w'):=fun k' w' hc hg=>by
   have:=gB.out k' (.slice none 0 0) w' (by rw[hX];exact KC _ w') hc (fun h=>by rw[hX]at h;simp only at h;omega) hg;rw[hX]at this;exact this
  generalize(dQ (s.data.toList.drop k)).2.2=G at *;clear Am hv hX gB;go_enter func179,ntmps179;go_wp2_with fail;refine HN.out.mono ?_;rintro e w1 ⟨rfl,hc1,hg1⟩;have CX:=ah (HE.out _ w1 hc1 hg1);clear hc1 hg1;go_wp2_with fail;go_ret2;exact CX.out
def CJ(w:World)(s:ByteArray)(e:Ending)(w':World):Prop:=∃v,e=.returned (.tuple #[v,.int .i64 (mM dV s.data.toList).2])∧yN w.heap.size w' v (mM dV s.data.toList).1∧Below w.heap.size w w'
theorem Zy(s:ByteArray)(w:World)(hT:Tabs w)(hs:s.size≤9223372036854775807):Calls prog 142 #[.string s] w (CJ w s):=by
 have hb1:=ba (a:=w) b0 (.cells #[.string s,.int .i64 0] 228);have HN:=ah (agc w hT w.heap.size s 0 (w.alloc (.cells #[.string s,.int .i64 0] 228)) hb1 (au _) ⟨dU.made w 228 #[.string s,.int .i64 0],aW _,hs⟩);unfold yt at HN;rw[dD]at HN;have HB1:=ah hb1;obtain⟨Z,hZ⟩:∃Z,Z=mM dV s.data.toList:=⟨_,rfl⟩;have gB:Hid (∀v w',yN w.heap.size w' v Z.1→Below w.heap.size w w'→CJ w s (.returned (.tuple #[v,.int .i64 Z.2])) w'):=fun v w' h1 h2=>by
  unfold CJ;rw[← hZ];exact⟨v,rfl,h1,h2⟩
 unfold mM at hZ;rw[fK]at hZ;have hok:(pJ dV s.data.toList).2.2=0→(pJ dV s.data.toList).2.1≤s.size:=fun h=>by have:=(Zx h).1;rwa [fK]at this
 clear hb1 hT;generalize pJ dV s.data.toList=X at *;obtain⟨L,m,E⟩:=X;simp only at HN hZ hok;go_enter func142,ntmps142;go_wp2_with fail;refine(Jj s w).mono ?_;rintro e w1 ⟨rfl,rfl⟩;by_cases hE:E=0
 ·subst hE
  rw[ay (by simp)]at hZ;have hm:=hok rfl;go_wp2_with fail;refine HN.out.mono ?_;rintro e w2 ⟨k',v,rfl,hsl,hc,hk,hg⟩;have hk2:k'=m:=by have:=hk trivial;omega
  subst hk2;have HB2:=ah (bg HB1.out hg (au _));have HSL:=ah hsl;have HL:=ah (D5 w.heap.size s k' w2 hc);clear hsl hc hk hg HN HB1 hok;obtain⟨A,c,rfl,_,_⟩:=HSL.out;by_cases hlt:k'<s.size
  ·rw[aA hlt]at hZ
   have HE:Hid (∀w',Below w.heap.size w w'→CJ w s (.returned (.tuple #[.slice none 0 0,.int .i64 10])) w'):=fun w' hb=>by
    have:=gB.out (.slice none 0 0) w' (by rw[hZ];exact KC _ w') hb;rw[hZ]at this;exact this
   have hgt:(0:Int)<(s.size:Int) - (k':Int):=(by omega);clear hZ gB;go_wp2_with fail;refine HL.out.mono ?_;rintro e w3 ⟨rfl,hb3⟩;have HE2:=ah (HE.out _ (bb HB2.out hb3));clear hb3 HE;go_wp2_with fail;go_ret2;exact HE2.out
  rw[ay hlt]at hZ;have HE:Hid (∀w',Below w2.heap.size w2 w'→CJ w s (.returned (.tuple #[.slice A L.length c,.int .i64 0])) w'):=fun w' hb=>by
   obtain⟨A',c',h1,h2,h3,h4⟩:=HSL.out;have:=gB.out (.slice A L.length c) w' (by rw[hZ];exact⟨A',c',h1,h2.below hb,h3,fun b off e=>by have:=h4 b off e;rw[World.size_alloc]at this;omega⟩) (bb HB2.out hb);rw[hZ]at this;exact this
  have hgt:¬(0:Int)<(s.size:Int) - (k':Int):=by omega
  clear hZ gB;go_wp2_with fail;refine HL.out.mono ?_;rintro e w3 ⟨rfl,hb3⟩;have HE2:=ah (HE.out _ hb3);clear hb3 HE;go_wp2_with fail;go_ret2;exact HE2.out
 rw[aA hE]at hZ;have hEi:(E != 0)=true:=by rw[aZ];exact hE
 have HE:Hid (∀w',Below w.heap.size w w'→CJ w s (.returned (.tuple #[.slice none 0 0,.int .i64 E])) w'):=fun w' hb=>by
  have:=gB.out (.slice none 0 0) w' (by rw[hZ];exact KC _ w') hb;rw[hZ]at this;exact this
 clear hZ gB hE hok;go_wp2_with fail;refine HN.out.mono ?_;rintro e w2 ⟨k',v,rfl,hsl,hc,hk,hg⟩;have HB2:=ah (HE.out _ (bg HB1.out hg (au _)));obtain⟨A,c,rfl,_,_⟩:=hsl;clear hc hk hg HN HB1 HE;go_wp2_with fail;go_ret2;exact HB2.out
end Go.Proofs.YtgidfnhfgiehjaaGreatDoor
namespace Go.Proofs.YtgidfnhfgiehjaaGreatDoor
open Go.PM Go.RowKit Go.Sort Go.Proofs.Tryz
set_option maxRecDepth 100000
set_option maxHeartbeats 4000000
attribute [local go_sem ↓] Go.wp_at_zero Go.wp_at_succ
theorem OW(x y:fD):ltOf lU x y=decide (lU x y<0):=rfl
theorem ado:SWO (ltOf lU) where
 irrefl x:=by rw[OW,(Nl x x).2 rfl];rfl
 trans x y z h1 h2:=by
  rw[OW]at *;simp only[bG]at *;exact ZH h1 h2
 ntrans x y z h1 h2:=by
  rw[OW]at *;simp only[bV]at *;have a1:=Gp x y;have a2:=Gp y z;have a3:=Gp x z;have:=ZG (a:=z) (b:=y) (c:=x) (by omega) (by omega);omega
theorem agm(x y:fD)(W:World):Calls prog 289 #[.agg (yQ x).toArray,.agg (yQ y).toArray] W fun e w'=>e=.returned (.int .i64 (lU x y))∧∃q os',w'=grow (W.drewN q) os':=by
 refine(agn (txt x.1) (txt x.2) (txt y.1) (txt y.2) W).mono ?_;rintro e w' ⟨rfl,rfl⟩;exact⟨rfl,0,_,by rw[alloc_eq_grow,alloc_eq_grow,grow_grow];rfl⟩
def YQ(w:World)(base g cap:Nat)(l:List fD)(e:Ending)(w':World):Prop :=
 e=.returned (.tuple #[])∧w'.ownsRow base 132 2 (.slice (some ⟨g,0,none⟩) l.length cap) l.length (ents (qK l))∧w.grownBy w' (some g)
theorem amM{w:World}{base g cap:Nat}{l:List fD}(hown:w.ownsRow base 132 2 (.slice (some ⟨g,0,none⟩) l.length cap) l.length (ents l))(hl:l.length≤1000000) :
 Calls prog 288 #[.slice (some ⟨g,0,none⟩) l.length cap,.func (.func 289) #[] #[]] w (YQ w base g cap l):=by
 have hdl:l.toArray.size=l.length:=by simp
 obtain⟨hH,hg,hbg⟩:=Oj (enc:=yQ) (k:=2) SB (by decide) l.toArray hdl hown (by simp[ents])
 have eg:∀args w,(callFunc 289 args).run prog w=.ok (.enter 289 args) w:=enters_of func289 (by kernel_rfl) rfl
 have hlim:Lib.bitLen l.toArray.size<4611686018427387904:=Nat.lt_of_le_of_lt (Lib.bitLen_le l.toArray.size 62 (by omega) (by omega)) (by omega)
 have hp:=AnyQ.pdqsortCmpFunc_all sortEnt 2 isAgg132 sizeOf132 yQ lU 289 #[] ado g 0 cap l.toArray w eg
  (fun _ _ _ _ x y=>agm x y _) ⟨SB,ZO,hH,hg⟩ (l.toArray.size+1) 0 l.toArray.size (Lib.bitLen l.toArray.size) l.toArray w (by omega) rfl (SWK.start hH) (aW _) (au _) (by omega) hlim (Or.inl rfl)
 rw[hdl]at hp hlim
 change Calls prog 296 _ _ _ at hp
 have hbl:=bits_Len (l.length:Int) w (by omega) (by omega)
 rw[Int.toNat_natCast]at hbl
 have wr:IntKind.u64.wrap (l.length:Int)=l.length:=by rw[IntKind.wrap_u64];omega
 have HP:=ah hp
 have HL:=ah hbl
 have HE:Hid (∀n os,YQ w base g cap l (.returned (.tuple #[])) (sortWorldK yQ 2 w g 0 n (pdq (ltOf lU) l.toArray 0 l.length (Lib.bitLen l.length) true true) os)):=fun n os=>by
  obtain⟨h1,h2⟩:=pdq_sorts (ltOf lU) ado l.toArray 0 l.length (Lib.bitLen l.length) true true (aW _) (by omega) (Or.inl rfl);generalize pdq (ltOf lU) l.toArray 0 l.length (Lib.bitLen l.length) true true=d' at h1 h2;rw[← hdl]at h1;have hp2:=permIn_all h1;have hsz:d'.size=l.length:=by rw[h1.1,hdl]
  have hs2:=adb h2 hsz;have e1:d'.toList=qK l:=by
   refine agz (by simpa using hp2) (hs2.imp fun {a b} h=>?_);rw[OW,bV]at h;have:=Gp a b;omega
  refine⟨rfl,?_,NJ d'⟩;have:=O7 (enc:=yQ) (k:=2) (m:=n) (os:=os) SB (by decide) d' hsz hown;rw[e1]at this;exact this
 clear hp hbl hH hown eg hlim hdl
 generalize Lib.bitLen l.length=B at *
 go_enter func288,ntmps288
 go_wp2_with fail
 refine HL.out.mono ?_
 rintro e w1 ⟨rfl,rfl⟩
 go_wp2_with fail
 refine HP.out.mono ?_
 rintro e w2 ⟨rfl,n,os,rfl⟩
 go_wp2_with fail
 go_end0
 exact HE.out n os
theorem afz{w:World}{A:Option Addr}{c:Nat}{l:List fD}(hr:Rd w A (ents l))(hl:l.length≤1000000)(h0:l≠[]) :
 Calls prog 287 #[.slice A l.length c] w fun e w'=>∃g cap,e=.returned (.slice (some ⟨g,0,none⟩) l.length cap)∧w'.ownsRow w.heap.size 132 2 (.slice (some ⟨g,0,none⟩) l.length cap) l.length (ents l)∧Below w.heap.size w w':=by
 obtain⟨i0,hi0,hz0,hz1,hz2⟩:=info_parts OG
 have hpos:=List.length_pos_iff.2 h0
 obtain⟨b,off,rfl,hb,_,_⟩:=hr.ent hpos
 have hc:∀j u,(ents l)[j]?=some u→w.cell? ⟨b,off+j,none⟩=some u:=by
  rcases hr with h|⟨b',off',e,_,hc⟩
  ·have h1:=yS l
   rw[h]at h1;simp only[cO]at h1;omega
  injection e with e;injection e with e1 e2;subst e1 e2;exact hc
 refine(AnyE.slices_Clone cloneEnt i0 E8 2 32 hi0 hz0 hz1 hz2 rfl (by decide) sizeOf132 b off l.length c (ents l) w (yS l) (by unfold maxLen;omega) (by omega) hc (SG l)).mono ?_
 rintro e w' ⟨v',rfl,hown,hne,hbel⟩
 rcases hown.2 with⟨h1,_⟩|⟨g,cap,cur,h1,_⟩
 ·exact aJ h1 hne
 ·subst h1
  exact⟨g,cap,rfl,hown,hbel⟩
end Go.Proofs.YtgidfnhfgiehjaaGreatDoor
namespace Go.Proofs.YtgidfnhfgiehjaaGreatDoor
open Go.PM Go.RowKit Go.Proofs.Tryz
set_option maxRecDepth 100000
set_option maxHeartbeats 4000000
attribute [local go_sem ↓] Go.wp_at_zero Go.wp_at_succ
def zQ(w:World)(l:List fD)(e:Ending)(w':World):Prop:=∃v,e=.returned (.tuple #[v,.int .i64 (uI dV l).2])∧Ry w' v (uI dV l).1∧Below w.heap.size w w'
theorem amK(w:World):Ry w (.slice none 0 0) []:=⟨none,0,rfl,.inl rfl,au _⟩
theorem agh(l:List fD)(j:Nat)(h:j+1<l.length):qZ (l.drop j)=(decide ((l[j+1]).1=(l[j]).1)||qZ (l.drop (j+1))):=by
 rw[bI (by omega:j<l.length),bI h];rfl
theorem agi(l:List fD)(j:Nat)(h:l.length≤j+1):qZ (l.drop j)=false:=by
 by_cases hj:j<l.length
 ·rw[bI hj,dF h]
  rfl
 rw[dF (by omega)];rfl
theorem aj8(A:Option Addr)(c:Nat)(l:List fD)(w:World)(hr:Rd w A (ents l))(hz:lg l)(hl:l.length≤9223372036854775807)(hT:Tabs w) :
 Calls prog 268 #[.slice A l.length c] w (zQ w l):=by
 have HR:=ah hr
 have HZ:=ah hz
 have HT:=ah hT
 have wl:IntKind.u64.wrap (l.length:Int)=(l.length:Int):=by rw[IntKind.wrap_u64];omega
 have HM:Hid (∀x:World,Calls prog 181 #[.int .u64 (l.length:Int)] x fun e w'=>e=.returned (.int .i64 (kR l.length))∧w'=x):=fun x=>Vb l.length x
 have rO:Hid (∀E w',uI dV l=([],E)→Below w.heap.size w w'→zQ w l (.returned (.tuple #[.slice none 0 0,.int .i64 E])) w'):=fun E w' h hb=>by
  unfold zQ;rw[h];exact⟨_,rfl,amK w',hb⟩
 clear hr hz hT
 by_cases hm:kR l.length=0
 ·have abd:l.length≤16∧l≠[]:=by
   unfold kR at hm;by_cases h0:l.length=0
   ·rw[aA h0]at hm;exact aJ hm (by decide)
   by_cases h1:16<l.length
   ·rw[ay h0,aA h1]at hm;exact aJ hm (by decide)
   exact⟨by omega,fun e=>h0 (by rw[e];rfl)⟩
  have HD1:Hid (qy dV l≠0→uI dV l=([],qy dV l)):=fun h=>by unfold uI;rw[ay (by rw[hm];simp),aA h]
  have HD2:Hid (qy dV l=0→qZ (qK l)=true→uI dV l=([],14)):=fun h h2=>by unfold uI;rw[ay (by rw[hm];simp),ay (by rw[h];simp),aA h2]
  have HD3:Hid (qy dV l=0→qZ (qK l)=false→uI dV l=(qK l,0)):=fun h h2=>by unfold uI;rw[ay (by rw[hm];simp),ay (by rw[h];simp),ay (by rw[h2];simp)]
  rw[hm]at HM;have H0:Hid (qy dV l=qy dV (l.drop 0)):=rfl;have Lm:=ah abd;clear hm abd;go_enter func268,ntmps268;go_wp2_with fail;refine(HM.out _).mono ?_;rintro e w1 ⟨rfl,rfl⟩;go_wp2_with fail;go_loopg [19] l.length (fun gk ki wr=>∃k:Nat,k≤l.length∧l.length - k≤gk∧ki=.int .i64 (k:Int)∧Hid (qy dV l=qy dV (l.drop k))∧Below w1.heap.size w1 wr)
  case atStart=>exact⟨0,aW _,by omega,rfl,H0,b0⟩
  case round=>
   obtain⟨k,hk,hgk,rfl,HF,hbel⟩:=hrel;by_cases hlt:k<l.length
   ·obtain⟨b,off,hA,hbl,c0,c1⟩:=(HR.out.below hbel).ent hlt
    have hf:=HF.out;rw[bI hlt,qy]at hf;obtain⟨z0,z1⟩:=HZ.out _ (aS hlt);generalize l[k]=x at *;obtain⟨x0,x1⟩:=x;simp only at c0 c1 hf z0 z1;have jT:=ah hf;have HB:=ah (ba hbel (.cells #[.string (txt x0),.string (txt x1)] 132));have HC:=ah (Nk (txt x0) (txt x1) (wr.alloc (.cells #[.string (txt x0),.string (txt x1)] 132)) (by rw[gI];omega) (by rw[gI];omega) (HT.out.below HB.out));rw[iD,iD]at HC;clear hf hbel HF H0 z0 z1;subst hA;by_cases hE:dV x0 x1=0
    ·have hf:=jT.out
     rw[ay (by rw[hE];simp)]at hf;have HN:=ah hf;rw[hE]at HC;clear hf jT hE;go_wp2_with fail;refine HC.out.mono ?_;rintro e w2 ⟨rfl,hb2⟩;have iW:=ah (bb HB.out hb2);clear hb2 HC;go_wp2_with fail;go_roundg (l.length - (k+1))
     case measure=>omega
     case rel=>exact⟨k+1,by omega,au _,by go_num,HN,iW.out⟩
    have hf:=jT.out;rw[aA hE]at hf;obtain⟨E,zX⟩:∃E,E=dV x0 x1:=⟨_,rfl⟩;rw[← zX]at hE HC hf;have hEi:(E != 0)=true:=(by rw[aZ];exact hE);have HE:Hid (∀w',Below w1.heap.size w1 w'→zQ w1 l (.returned (.tuple #[.slice none 0 0,.int .i64 E])) w'):=fun w' hb=>rO.out E w' (by rw[HD1.out (by rw[hf];exact hE),hf]) hb;clear jT hE hf zX;go_wp2_with fail;refine HC.out.mono ?_;rintro e w2 ⟨rfl,hb2⟩;have iW:=ah (bb HB.out hb2);clear hb2 HC;go_wp2_with fail;go_ret2;exact HE.out _ iW.out
   obtain rfl:k=l.length:=(by omega);have hf:=HF.out;rw[dF (au _),qy]at hf;have HB:=ah hbel;have mG:=ah (afz (c:=c) (HR.out.below hbel) (by have:=Lm.out.1;omega) Lm.out.2);have HY:Hid (qZ (qK l)=true→uI dV l=([],14)):=HD2.out hf;have HN:Hid (qZ (qK l)=false→uI dV l=(qK l,0)):=HD3.out hf;clear hf hbel HF H0;go_wp2_with fail;refine mG.out.mono ?_;rintro e w2 ⟨g,cap,rfl,hown,hb2⟩;have zJ:=ah (amM hown (by have:=Lm.out.1;omega));have ah9:=(hown.lt g rfl).1;have HB2:=ah (bb HB.out hb2);clear hown hb2 mG;have abe:=(ZX l).length_eq;go_wp2_with fail;refine zJ.out.mono ?_;rintro e w3 ⟨rfl,hown3,hg3⟩;have HB3:=ah (bg HB2.out hg3 (aI HB.out.size ah9));obtain⟨A4,c4,hv4,rX,hc4,_⟩:=Rd.own hown3;injection hv4 with e1 e2 e3;subst e1 e3;have Dw:=ah rX
   have aop:(l.length:Int)≤(cap:Int):=(by omega);have HES:Hid (∀x:World,Below w3.heap.size w3 x→qZ (qK l)=false→zQ w1 l (.returned (.tuple #[.slice (some ⟨g,0,none⟩) l.length cap,.int .i64 0])) x):=fun x hx h=>by
    unfold zQ;rw[HN.out h];refine⟨_,rfl,⟨some ⟨g,0,none⟩,cap,by rw[abe],Dw.out.below hx,by rw[abe];exact hc4⟩,bb HB3.out hx⟩
   have H0:Hid (qZ (qK l)=qZ ((qK l).drop (1 - 1))):=rfl;clear hown3 hg3 rX zJ HN;go_wp2_with fail;generalize hS:qK l=S at *;clear hS;go_loopg [9] l.length (fun Gz vi wr=>∃i:Nat,1≤i∧i≤l.length∧l.length - i≤Gz∧vi=.int .i64 (i:Int)∧Below w3.heap.size w3 wr∧Hid (qZ S=qZ (S.drop (i - 1))))
   case atStart=>exact⟨1,au _,List.length_pos_iff.2 Lm.out.2,by omega,rfl,b0,H0⟩
   case round=>
    obtain⟨i,hi1,hi2,aa8,rfl,hb4,HD⟩:=hrel;obtain⟨j,rfl⟩:∃j,i=j+1:=⟨i - 1,by omega⟩;have hji:((j+1:Nat):Int) - 1=(j:Int):=(by omega);rw[Nat.add_sub_cancel]at HD;by_cases hil:j+1<l.length
    ·obtain⟨b',off',hA',sZ,c0,_⟩:=(Dw.out.below hb4).ent (k:=j+1) (by omega)
     obtain⟨b'',apb,TD,_,d0,_⟩:=(Dw.out.below hb4).ent (k:=j) (by omega);injection hA' with hA';injection hA' with e1 e2;injection TD with TD;injection TD with e3 e4;subst e1 e2 e3 e4;have hd:=HD.out;rw[agh S j (by omega)]at hd;generalize S[j+1]=x at *;generalize S[j]=y at *;obtain⟨x0,x1⟩:=x;obtain⟨y0,y1⟩:=y;simp only at c0 d0 hd;have HD2:=ah hd;have hjl:(j:Int)<(l.length:Int):=(by omega);have aoB:((j+1:Nat):Int)<(l.length:Int):=(by omega);have HB4:=ah hb4;simp only[aX]at c0 d0;clear hd HD hb4 H0;by_cases he:x0=y0
     ·have hs:((txt x0).toList==(txt y0).toList)=true:=VU (by rw[he])
      have HE:Hid (∀x,Below w3.heap.size w3 x→zQ w1 l (.returned (.tuple #[.slice none 0 0,.int .i64 14])) x):=fun x hx=>by
       refine rO.out 14 x (HY.out ?_) (bb HB3.out hx);rw[HD2.out,he];simp
      clear he HD2;go_wp2_with fail;go_quiet(fail);go_wp2_with fail;go_ret2;exact HE.out _ (bn HB4.out _)
     have hs:((txt x0).toList==(txt y0).toList)=false:=VT fun e=>he (KJ.1 e);have kP:Hid (qZ S=qZ (S.drop (j+1+1 - 1))):=by
      show _=_;rw[HD2.out,aO he,Bool.false_or,Nat.add_sub_cancel]
     clear he HD2;go_wp2_with fail;go_quiet(fail);go_wp2_with fail;go_roundg (l.length - (j+1+1))
     case measure=>omega
     case rel=>exact⟨j+1+1,by omega,by omega,au _,by go_num,bn HB4.out _,kP⟩
    have hd:=HD.out;rw[agi S j (by omega)]at hd;have HE:=ah (HES.out _ hb4 hd);clear hd HD hb4 H0;have aoC:¬((j+1:Nat):Int)<(l.length:Int):=(by omega);go_wp2_with fail;go_ret2;exact HE.out
 ·have GX:(kR l.length != 0)=true:=by rw[aZ];exact hm
  have HE:Hid (∀w',Below w.heap.size w w'→zQ w l (.returned (.tuple #[.slice none 0 0,.int .i64 (kR l.length)])) w'):=fun w' hb=>rO.out _ w' (by unfold uI;rw[aA hm]) hb;generalize kR l.length=E at *;clear hm;go_enter func268,ntmps268;go_wp2_with fail;refine(HM.out _).mono ?_;rintro e w1 ⟨rfl,rfl⟩;go_wp2_with fail;go_ret2;exact HE.out _ b0
