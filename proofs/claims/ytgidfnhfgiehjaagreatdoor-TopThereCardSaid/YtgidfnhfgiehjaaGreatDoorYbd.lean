/-
  Parts of the proof. Conditions: as each names.
-/
import Derived.Test.YtgidfnhfgiehjaaGreatDoorYay
import Derived.Test.YtgidfnhfgiehjaaGreatDoorYaz
import Derived.Test.YtgidfnhfgiehjaaGreatDoorYba
namespace Go.Proofs.YtgidfnhfgiehjaaGreatDoor
open Go.PM Go.RowKit Go.Sort Go.Proofs.Tryz
set_option maxRecDepth 100000
set_option maxHeartbeats 4000000
attribute [local go_sem ↓] Go.wp_at_zero Go.wp_at_succ
instance:Inhabited Rv:=⟨⟨[],none,0,0⟩⟩
def lH(r:Rv):List Value:=[.slice r.A r.d.length r.c,.int .u64 (r.n:Int),.string (txt (eG r.d))]
def EI(x y:Rv):Bool:=Op.bytesLess (txt (eG x.d)).toList (txt (eG y.d)).toList
noncomputable def amZ:TypeInfo:=(prog.info? 331).get (by kernel_rfl)
noncomputable def PI:TypeInfo:=(prog.info? 333).get (by kernel_rfl)
theorem amY(n:Nat)(h2:2≤n):Lib.swapperK n PI 25=9:=by
 have a:PI.hasPointers=true:=by kernel_rfl
 have b:PI.bytes=48:=by kernel_rfl
 have c:(n==0)=false:=by simp;omega
 have d:(n==1)=false:=by simp;omega
 simp[Lib.swapperK,a,b,c,d]
theorem aiO(x y:Rv)(h:EI y x=true):insertionSort EI #[x,y] 0 2=#[y,x]:=by
 unfold insertionSort;rw[insOuter,insOuter];simp[insInner,h];rfl
theorem amN{w:World}{base g cap R:Nat}{x y:Rv}(hown:w.ownsRow base 333 3 (.slice (some ⟨g,0,none⟩) 2 cap) 2 ([x,y].flatMap lH))(hR:w.cell? ⟨R,0,none⟩=some (.slice (some ⟨g,0,none⟩) 2 cap))(hne:R≠g)(hRl:R<w.heap.size)(hlt:EI y x=true) :
 Calls prog 260 #[.iface 331 (.slice (some ⟨g,0,none⟩) 2 cap),.func (.func 261) #[] #[.pointer (some ⟨R,0,none⟩)]] w fun e w'=>e=.returned (.tuple #[])∧w'.ownsRow base 333 3 (.slice (some ⟨g,0,none⟩) 2 cap) 2 ([y,x].flatMap lH)∧w.grownBy w' (some g):=by
 obtain⟨hH,hg,hbg⟩:=Oj (enc:=lH) (k:=3) (fun _=>rfl) (by decide) #[x,y] rfl hown (by simp)
 have hless:LessReadsK prog 261 #[.pointer (some ⟨R,0,none⟩)] lH 3 EI g 0 2 w:=by
  intro m os dk hs i j hi hj;have ho:=O7 (enc:=lH) (m:=m) (os:=os) (fun _=>rfl) (by decide) dk hs hown;have hgr:=NJ (enc:=lH) (k:=3) (w:=w) (g:=g) (m:=m) (os:=os) dk;have TS:(sortWorldK lH 3 w g 0 m dk os).cell? ⟨R,0,none⟩=some (.slice (some ⟨g,0,none⟩) 2 cap):=(World.cell?_of_block (a:=⟨R,0,none⟩) (hgr.block R hRl (by intro e;injection e with e;exact hne e))).trans hR;obtain⟨hH2,_,_⟩:=Oj (enc:=lH) (k:=3) (fun _=>rfl) (by decide) dk hs ho rfl;have ci:=(hH2.cell (i:=i) (c:=2) (by omega) (by omega)).1;have cj:=(hH2.cell (i:=j) (c:=2) (by omega) (by omega)).1;rw[aX]at ci cj;exact ai4 R g 2 cap i j _ _ _ TS hi hj ci cj
 have hS:=Any.sort_Slice_small_cells (ρ:=laysGg6_ren) laysGg6 331 333 amZ PI (by kernel_rfl) (by kernel_rfl) (by kernel_rfl) (by kernel_rfl) 25 (fun _=>by kernel_rfl) lH 3 (fun _=>rfl) (by kernel_rfl) (fun _=>by kernel_rfl)
  (fun x v hv=>by simp[lH]at hv;rcases hv with rfl|rfl|rfl<;>rfl) EI 261 _
  (enters_of func261 (by kernel_rfl) rfl) g 0 cap #[x,y] (by simp) (by simp) 278 (by rw[amY _ (by simp)];kernel_rfl) false
  (fun args W=>run_callFunc_extern func278 (by kernel_rfl) (by kernel_rfl) (by kernel_rfl) (e:=Extern.ReflectliteSwapper.swap false) (by kernel_rfl) args W) w hless hH hg
 change Calls prog 260 _ _ _ at hS
 refine hS.mono ?_
 rintro e w' ⟨rfl,n,os,rfl⟩
 rw[show(#[x,y]:Array Rv).size=2 from rfl,aiO x y hlt]
 exact⟨rfl,O7 (enc:=lH) (m:=n) (os:=os) (fun _=>rfl) (by decide) #[y,x] rfl hown,NJ (enc:=lH) (k:=3) (w:=w) (g:=g) (m:=n) (os:=os) #[y,x]⟩
end Go.Proofs.YtgidfnhfgiehjaaGreatDoor
namespace Go.Proofs.YtgidfnhfgiehjaaGreatDoor
open Go.PM Go.RowKit Go.Proofs.Tryz
set_option maxRecDepth 100000
set_option maxHeartbeats 4000000
attribute [local go_sem ↓] Go.wp_at_zero Go.wp_at_succ
theorem alg(x y:fD)(w:World)(hx:x.1.length≤9223372036854775807∧x.2.length≤9223372036854775807) :
 Calls prog 161 #[.agg #[.string (txt x.1),.string (txt x.2)],.agg #[.string (txt y.1),.string (txt y.2)]] w (aj w (.int .i64 (nI x.1 y.1))):=by
 obtain⟨x0,x1⟩:=x
 obtain⟨y0,y1⟩:=y
 simp only at hx⊢
 have hbx:=(dU.made w 129 #[.string (txt x0),.string (txt x1)]).more (.cells #[.string (txt y0),.string (txt y1)] 129)
 have hby:=dU.made (w.alloc (.cells #[.string (txt x0),.string (txt x1)] 129)) 129 #[.string (txt y0),.string (txt y1)]
 have HB:=ah (ba (ba (a:=w) b0 (.cells #[.string (txt x0),.string (txt x1)] 129)) (.cells #[.string (txt y0),.string (txt y1)] 129))
 have HC:Hid (∀x:World,Calls prog 207 #[.agg #[.string (txt x0),.string (txt x1)],.agg #[.string (txt y0),.string (txt y1)]] x (aj x (.int .i64 (qA x0 x1 y0 y1)))):=fun x=>acT _ _ _ _ x hx.1 hx.2
 unfold nI
 clear hbx hby hx
 by_cases h0:y0=x0
 ·rw[aA h0]
  have hs:((txt x0).toList==(txt y0).toList)=true:=VU (by rw[h0]);clear h0;go_enter func161,ntmps161;go_wp2_with fail;go_ret;exact⟨rfl,HB.out⟩
 ·rw[ay h0]
  have hs:((txt x0).toList==(txt y0).toList)=false:=VT fun e=>h0 (KJ.1 e).symm;have hk:Lib.compareBytes x0 y0≠0:=fun e=>h0 ((wO _ _).1 e).symm;have hcm:qA x0 x1 y0 y1=Lib.compareBytes x0 y0:=by unfold qA;exact aA hk
  have hng:=Bz x0 y0;rw[hcm]at HC;generalize Lib.compareBytes x0 y0=R at *;by_cases h1:Lib.compareBytes y0 x0<0
  ·rw[aA h1]
   have hR:(0:Int)<R:=(by omega);clear h0 hk hcm hng h1;go_enter func161,ntmps161;go_wp2_with fail;refine(HC.out _).mono ?_;rintro e w1 ⟨rfl,hb1⟩;have HB1:=ah (bb HB.out hb1);clear hb1;go_wp2_with fail;go_ret;exact⟨rfl,HB1.out⟩
  rw[ay h1];have hR:¬(0:Int)<R:=by omega
  clear h0 hk hcm hng h1;go_enter func161,ntmps161;go_wp2_with fail;refine(HC.out _).mono ?_;rintro e w1 ⟨rfl,hb1⟩;have HB1:=ah (bb HB.out hb1);clear hb1;go_wp2_with fail;go_ret;exact⟨rfl,HB1.out⟩
theorem alB(a b:ByteArray)(w:World)(ha:a.size≤9223372036854775807) :
 Calls prog 163 #[.string a,.string b] w (aj w (.bool (decide (Lib.compareBytes a.data.toList b.data.toList<0)))):=by
 have he:qA a.data.toList [] b.data.toList []=Lib.compareBytes a.data.toList b.data.toList:=by
  unfold qA;by_cases h:Lib.compareBytes a.data.toList b.data.toList≠0
  ·rw[aA h]
  rw[ay h];have h2:Lib.compareBytes a.data.toList b.data.toList=0:=by omega
  rw[h2];exact(wO [] []).2 rfl
 have HC:Hid (∀x:World,Calls prog 207 #[.agg #[.string a,.string ⟨#[]⟩],.agg #[.string b,.string ⟨#[]⟩]] x (aj x (.int .i64 (Lib.compareBytes a.data.toList b.data.toList)))):=fun x=>by
  have:=acT a ⟨#[]⟩ b ⟨#[]⟩ x ha (by decide);rw[show(ByteArray.mk #[]).data.toList=[]from rfl,he]at this;exact this
 clear he
 generalize Lib.compareBytes a.data.toList b.data.toList=R at *
 go_enter func163,ntmps163
 go_wp2_with fail
 refine(HC.out _).mono ?_
 rintro e w1 ⟨rfl,hb1⟩
 go_wp2_with fail
 go_ret
 exact⟨rfl,hb1⟩
theorem Kz(A:Option Addr)(c:Nat)(l:List fD)(w:World)(hr:Rd w A (ents l))(hz:um l) :
 Calls prog 118 #[.slice A l.length c] w (aj w (.string (txt (eG l)))):=by
 have HR:=ah hr
 have HZ:=ah hz.2
 have hl:=hz.1
 have wl:IntKind.u64.wrap (l.length:Int)=(l.length:Int):=by rw[IntKind.wrap_u64];omega
 have HV:Hid (∀x:World,Calls prog 70 #[.int .u64 (l.length:Int)] x (aj x (.string (txt (dY l.length))))):=fun x=>uV l.length x (by unfold In64;omega)
 have hvl:(dY l.length).length≤10:=by rw[fO];exact iJ (by omega)
 have jA:Hid (∀k,(dY l.length++iR (l.take k)).length≤3000000010):=fun k=>by
  have h1:=RZ (l.take k) fun e he=>HZ.out e (List.mem_of_mem_take he);have h2:(l.take k).length≤1000:=by rw[bD];omega
  rw[aC];omega
 clear hr hz
 go_enter func118,ntmps118
 go_wp2_with fail
 refine(HV.out _).mono ?_
 rintro e w1 ⟨rfl,hb1⟩
 have H0:Hid (dY l.length=dY l.length++iR (l.take 0)):=by
  show _=_;rw[List.take_zero,show iR []=[]from rfl,bQ]
 have HB1:=ah hb1
 clear hb1
 go_wp2_with fail
 go_loopg [3,12] l.length (fun gk sv ki wr=>∃(k:Nat) (K:List UInt8),k≤l.length∧l.length - k≤gk∧ki=.int .i64 (k:Int)∧sv=.string (txt K)∧Hid (K=dY l.length++iR (l.take k))∧Below w.heap.size w wr)
 case atStart=>exact⟨0,_,aW _,by omega,rfl,rfl,H0,HB1.out⟩
 case round=>
  obtain⟨k,K,hk,hgk,rfl,rfl,HK,hbel⟩:=hrel;have JU:=jA.out k;rw[← HK.out]at JU;by_cases hlt:k<l.length
  ·obtain⟨b,off,rfl,hblt,c0,c1⟩:=(HR.out.below hbel).ent hlt
   obtain⟨z0,z1⟩:=HZ.out _ (aS hlt);have htk:l.take (k+1)=l.take k++[l[k]]:=(aT hlt).symm;generalize l[k]=x at *;obtain⟨x0,x1⟩:=x;simp only at c0 c1 z0 z1;have HN:Hid (K++jR x0 x1=dY l.length++iR (l.take (k+1))):=by
    show _=_;rw[htk,Zq,HK.out];simp[iR]
   have hel:=SH x0 x1 z0 z1;have HP:=ah (al2 (txt x0) (txt x1) (wr.alloc (.cells #[.string (txt x0),.string (txt x1)] 129)) (by rw[gI];omega) (by rw[gI];omega));rw[iD,iD]at HP;have wC:=ah (ba hbel (.cells #[.string (txt x0),.string (txt x1)] 129));have hadd:∀x:World,(Op.stringOp .add (txt K) (txt (jR x0 x1))).run prog x=.ok (.string (txt (K++jR x0 x1))) x:=fun x=>by
    have h1:=run_string_add_sum (P:=prog) x (txt K) (txt (jR x0 x1)) (by rw[gI,gI];omega);rw[h1,vX (wL (txt K) (txt (jR x0 x1)))];rfl
   clear hbel htk HK H0 hel JU;go_wp2_with fail;refine HP.out.mono ?_;rintro e w3 ⟨rfl,hb3⟩;have HB3:=ah (bb wC.out hb3);clear hb3 HP;go_wp2_with fail;go_roundg (l.length - (k+1))
   case measure=>omega
   case rel=>exact⟨k+1,K++jR x0 x1,by omega,au _,by go_num,rfl,HN,HB3.out⟩
  obtain rfl:k=l.length:=by omega
  have hkk:K=eG l:=by rw[HK.out,aU (au _)];rfl
  subst hkk;have HB:=ah hbel;clear hbel HK H0 JU;go_wp2_with fail;go_ret;exact⟨rfl,HB.out⟩
theorem acP(A:Option Addr)(c:Nat)(l:List fD)(w:World)(hr:Rd w A (ents l))(hz:lg l)(hl:l.length≤9223372036854775807) :
 Calls prog 109 #[.slice A l.length c] w (aj w (.int .i64 (iZ dV l))):=by
 have HR:=ah hr
 have HZ:=ah hz
 have wl:IntKind.u64.wrap (l.length:Int)=(l.length:Int):=by rw[IntKind.wrap_u64];omega
 have HM:Hid (∀x:World,Calls prog 159 #[.int .u64 (l.length:Int)] x fun e w'=>e=.returned (.int .i64 (kR l.length))∧w'=x):=fun x=>afK l.length x
 have H0:Hid (iZ dV l=if kR l.length≠0 then kR l.length else mJ dV (pk l 0) (l.drop 0)):=rfl
 generalize iZ dV l=F at H0⊢
 generalize kR l.length=M at *
 clear hr hz
 go_enter func109,ntmps109
 go_wp2_with fail
 refine(HM.out _).mono ?_
 rintro e w1 ⟨rfl,rfl⟩
 go_wp2_with fail
 go_loopg [3,4] l.length (fun gk ei ki wr=>∃(k:Nat) (E:Int),k≤l.length∧l.length - k≤gk∧ki=.int .i64 (k:Int)∧ei=.int .i64 E∧Hid (F=if E≠0 then E else mJ dV (pk l k) (l.drop k))∧Below w1.heap.size w1 wr)
 case atStart=>exact⟨0,M,aW _,by omega,rfl,rfl,H0,b0⟩
 case round=>
  obtain⟨k,E,hk,hgk,rfl,rfl,HF,hbel⟩:=hrel;have HB:=ah hbel;by_cases hE:E=0
  ·subst hE
   by_cases hlt:k<l.length
   ·obtain⟨b,off,hA,hbl,c0,c1⟩:=(HR.out.below hbel).ent hlt
    have hf:=HF.out;rw[ay (by simp),bI hlt,mJ]at hf;have hps:=Ho l k hlt;obtain⟨z0,z1⟩:=HZ.out _ (aS hlt);generalize l[k]=x at *;obtain⟨x0,x1⟩:=x;simp only at c0 c1 z0 z1 hps;change F=if dV x0 x1≠0 then dV x0 x1 else if nV (pk l k) x0≠0 then nV (pk l k) x0 else mJ dV (some x0) (l.drop (k+1))at hf
    rw[← hps]at hf;have jT:=ah hf;have HC:=ah (alh (txt x0) (txt x1) wr (by rw[gI];omega) (by rw[gI];omega));rw[iD,iD]at HC;clear hf hps hbel HF H0;subst hA;by_cases hC:dV x0 x1=0
    ·rw[hC]at HC
     have hf:=jT.out;rw[ay (by rw[hC];simp)]at hf;have HF2:=ah hf;clear hf jT hC;by_cases hk0:k=0
     ·have HN:Hid (F=if(0:Int)≠0 then 0 else mJ dV (pk l (k+1)) (l.drop (k+1))):=by
       show _=_;rw[HF2.out,hk0,Vu];rfl
      have hki:decide ((0:Int)<(k:Int))=false:=aO (by omega);have hkn:decide (0<k)=false:=aO (by omega);clear HF2 hk0;go_wp2_with fail;refine HC.out.mono ?_;rintro e w2 ⟨rfl,hb2⟩;have HB2:=ah (bb HB.out hb2);clear hb2 HC;go_wp2_with fail;go_roundg (l.length - (k+1))
      case measure=>omega
      case rel=>exact⟨k+1,_,by omega,au _,by go_num,rfl,HN,HB2.out⟩
     obtain⟨j,rfl⟩:∃j,k=j+1:=⟨k - 1,by omega⟩;have hjl:j<l.length:=(by omega);have hji:((j+1:Nat):Int) - 1=(j:Int):=(by omega);have hj0:(0:Int)<((j+1:Nat):Int):=(by omega);have hj1:(j:Int)<(l.length:Int):=(by omega);have hj2:((j+1:Nat):Int)<(l.length:Int):=(by omega);go_wp2_with fail;refine HC.out.mono ?_;rintro e w2 ⟨rfl,hb2⟩;have HB2:=ah (bb HB.out hb2);obtain⟨b',off',hA',sZ,d0,d1⟩:=(HR.out.below HB2.out).ent hjl;injection hA' with hA';injection hA' with e1 e2;subst e1 e2;obtain⟨zy0,zy1⟩:=HZ.out _ (aS hjl);have hf:=HF2.out;rw[Ho l j hjl]at hf;generalize l[j]=y at *;obtain⟨y0,y1⟩:=y;simp only at d0 d1 zy0 zy1;change F=if nI y0 x0≠0 then nI y0 x0 else mJ dV (pk l (j+1+1)) (l.drop (j+1+1))at hf
     obtain⟨D,Ef⟩:∃D,D=nI y0 x0:=⟨_,rfl⟩;rw[← Ef]at hf;have HN:=ah hf;have wB:Hid (∀n:fV w2,Calls prog 161 #[.agg #[.string (txt y0),.string (txt y1)],.agg #[.string (txt x0),.string (txt x1)]] n.wld (aj n.wld (.int .i64 D))):=fun n=>by
      rw[Ef];exact alg (y0,y1) (x0,x1) n.wld ⟨by simp only;omega,by simp only;omega⟩
     have rC:b<w2.heap.size:=sZ;have n0:∀n:fV w2,n.wld.cell? ⟨b,off+j*2,none⟩=some (.string (txt y0)):=fun n=>(World.cell?_of_block (a:=⟨b,off+j*2,none⟩) (n.bel.block b rC)).trans d0;have n1:∀n:fV w2,n.wld.cell? ⟨b,off+j*2+1,none⟩=some (.string (txt y1)):=fun n=>(World.cell?_of_block (a:=⟨b,off+j*2+1,none⟩) (n.bel.block b rC)).trans d1;have n2:∀n:fV w2,n.wld.cell? ⟨b,off+(j+1)*2,none⟩=some (.string (txt x0)):=fun n=>(World.cell?_of_block (a:=⟨b,off+(j+1)*2,none⟩) (n.bel.block b rC)).trans ((World.cell?_of_block (a:=⟨b,off+(j+1)*2,none⟩) (hb2.block b hbl)).trans c0);have n3:∀n:fV w2,n.wld.cell? ⟨b,off+(j+1)*2+1,none⟩=some (.string (txt x1)):=fun n=>(World.cell?_of_block (a:=⟨b,off+(j+1)*2+1,none⟩) (n.bel.block b rC)).trans ((World.cell?_of_block (a:=⟨b,off+(j+1)*2+1,none⟩) (hb2.block b hbl)).trans c1)
     clear c0 c1 d0 d1 hf HF2 Ef hb2 HC;go_wp2_with fail;refine kM (by kernel_rfl) (by kernel_rfl) ?_;repeat(first|go_big_quiet_skip|(go_big_quiet_want;go_big_quiet_op;first|go_big_quiet_on|(apply Exists.intro;refine⟨fun nq=>?_,?_⟩;(go_at_call 161;exact jW (wB.out _));go_big_quiet_on)))
     refine wpQuiet_nil ?_;intro wq hnq;obtain⟨nq,rfl⟩:=hnq;have hq:=nq.bel;generalize nq.wld=wq at hq⊢;clear nq;have xg:=ah (bb HB2.out hq);clear hq n0 n1 n2 n3 wB;go_wp2_with fail;go_roundg (l.length - (j+1+1))
     case measure=>omega
     case rel=>exact⟨j+1+1,_,by omega,au _,by go_num,rfl,HN,xg.out⟩
    have hf:=jT.out;rw[aA hC]at hf;obtain⟨C,hCd⟩:∃C,C=dV x0 x1:=⟨_,rfl⟩;rw[← hCd]at hC HC hf;have hCi:(C==0)=false:=(by rw[aB];exact hC);have HN:Hid (F=if C≠0 then C else mJ dV (pk l (k+1)) (l.drop (k+1))):=by
     show _=_;rw[aA hC];exact hf
    clear hf jT hC hCd;go_wp2_with fail;refine HC.out.mono ?_;rintro e w2 ⟨rfl,hb2⟩;have HB2:=ah (bb HB.out hb2);clear hb2 HC;go_wp2_with fail;go_roundg (l.length - (k+1))
    case measure=>omega
    case rel=>exact⟨k+1,_,by omega,au _,by go_num,rfl,HN,HB2.out⟩
   obtain rfl:k=l.length:=(by omega);have hf:=HF.out;rw[ay (by simp),dF (au _),mJ]at hf;subst hf;clear hbel HF H0;go_wp2_with fail;go_ret;exact⟨rfl,HB.out⟩
  have hf:=HF.out;rw[aA hE]at hf;subst hf;have hEi:(F==0)=false:=by rw[aB];exact hE
  clear hbel HF H0 hE;by_cases hlt:k<l.length
  ·have uM:(k:Int)<(l.length:Int):=by omega
   go_wp2_with fail;go_ret;exact⟨rfl,HB.out⟩
  have uM:¬(k:Int)<(l.length:Int):=by omega
  go_wp2_with fail;go_ret;exact⟨rfl,HB.out⟩
end Go.Proofs.YtgidfnhfgiehjaaGreatDoor
section
namespace Go.PM
section
variable {X:Type} (key:X→Nat)
theorem abQ(x:X):∀(l acc:List X),x9 key acc (l++[x])=wR key x (x9 key acc l)
 |[],acc=>rfl
 |y::r,acc=>by rw[dI,x9,x9,abQ x r]
theorem ai2(l:List X)(x:X):jD key (l++[x])=wR key x (jD key l):=abQ key x l []
theorem U4(l:List X):(jD key l).length=l.length:=(Cb key l).length_eq
theorem ai0{l:List X}{x:X}{a:Nat}(hn:(l.map key).Nodup)(ha:a≤(jD key l).length)(h1:∀j (h:j<(jD key l).length),j<a→key (jD key l)[j]<key x)(h2:∀h:a<(jD key l).length,key x<key (jD key l)[a]) :
 jD key (l++[x])=(jD key l).take a++x::(jD key l).drop a∧((l++[x]).map key).Nodup:=by
 have e:jD key (l++[x])=(jD key l).take a++x::(jD key l).drop a:=by
  rw[ai2];exact abS key x _ a ha h1 fun h=>by have:=h2 h;omega
 refine⟨e,?_⟩
 have hr:=OQ key (U3 key l) (((Cb key l).symm.map key).nodup hn)
 generalize hS:jD key l=S at *
 have hp:(l++[x]).Perm (S.take a++x::S.drop a):=by rw[← e];exact(Cb key _).symm
 refine(hp.symm.map key).nodup (OO key ?_)
 rw[List.pairwise_iff_getElem]at hr
 rw[List.pairwise_append]
 refine⟨?_,?_,?_⟩
 ·rw[List.pairwise_iff_getElem]
  intro i j hi hj hij;rw[List.getElem_take,List.getElem_take];exact hr i j (by simp at hi;omega) (by simp at hj;omega) hij
 ·rw[cu]
  refine⟨fun b hb=>?_,?_⟩
  ·obtain⟨i,hi,rfl⟩:=List.getElem_of_mem hb
   rw[List.getElem_drop];rw[aN]at hi;have h3:=h2 (by omega);by_cases h0:i=0
   ·subst h0;exact h3
   have:=hr a (a+i) (by omega) (by omega) (by omega);omega
  rw[List.pairwise_iff_getElem];intro i j hi hj hij;rw[List.getElem_drop,List.getElem_drop];rw[aN]at hi hj;exact hr (a+i) (a+j) (by omega) (by omega) (by omega)
 ·intro b hb c hc
  obtain⟨i,hi,rfl⟩:=List.getElem_of_mem hb;rw[List.getElem_take];rw[bD]at hi;have h3:=h1 i (by omega) (by omega);rcases bC.1 hc with rfl|hc
  ·exact h3
  obtain⟨j,hj,rfl⟩:=List.getElem_of_mem hc;rw[List.getElem_drop];rw[aN]at hj;exact hr i (a+j) (by omega) (by omega) (by omega)
theorem aiU{l rest:List X}{x:X}{a:Nat}(ha:a<(jD key l).length)(he:key (jD key l)[a]=key x):¬((l++x::rest).map key).Nodup:=fun hn=>by
 rw[dB,List.nodup_append]at hn;have hm:(jD key l)[a]∈l:=(Cb key l).mem_iff.1 (aS ha);exact hn.2.2 _ (List.mem_map_of_mem hm) (key x) (by simp) he
end
end Go.PM
namespace Go.Proofs.YtgidfnhfgiehjaaGreatDoor
open Go.RowKit Go.PM
set_option maxRecDepth 100000
set_option maxHeartbeats 4000000
attribute [local go_sem ↓] Go.wp_at_zero Go.wp_at_succ
def vC(w:World)(done:List Fl)(vo:Value)(wr:World):Prop :=
 ∃(A:Option Addr) (c:Nat) (xs:List Value),vo=.slice A done.length c∧wr.ownsRow w.heap.size 207 5 (.slice A done.length c) done.length xs∧Cls wr (fun q=>(Value.slice A done.length c).ownBlock≠some q) xs (fB (jD Fl.tag done))∧(done.map Fl.tag).Nodup∧Below w.heap.size w wr
def FX(w:World)(r:Fs×Nat)(e:Ending)(w':World):Prop :=
 ∃(A:Option Addr) (c:Nat),e=.returned (.tuple #[.slice A r.1.len c,.int .i64 (r.2:Int)])∧eF w' (fun _=>True) (.slice A r.1.len c) r.1∧Below w.heap.size w w'
theorem alD(A:Option Addr)(cap:Nat)(fs:List Fs)(vs:List Value)(I:Nat→Prop)(w:World)(hr:PM.Rd w A vs)(hv:qx w I vs fs)(hk:∀f∈fs,f.All mF)(hc:(iT fs).count≤1000000)(hl:fs.length≤1000000) :
 Calls Tryz.prog 164 #[.slice A fs.length cap] w (FX w (jG fs)):=by
 have HR:=ah hr
 have HV:=ah hv
 have hvl:=hv.len
 have HK:=ah hk
 have HC:=ah hc
 clear hr hv hk
 go_enter Tryz.func164,Tryz.ntmps164
 go_wp2_with fail
 go_loopg [16] fs.length (fun gk ki wr=>∃k:Nat,k≤fs.length∧fs.length - k≤gk∧ki=.int .i64 (k:Int)∧mO (fs.take k)=0∧Below w.heap.size w wr)
 case atStart=>exact⟨0,aW _,by omega,rfl,rfl,b0⟩
 case round=>
  obtain⟨k,hkl,hgk,rfl,hbad,hb⟩:=hrel;have HB:=ah hb;by_cases hlt:k<fs.length
  ·obtain⟨b,off,rfl,hbl,hcell⟩:=(HR.out.below hb).at_ (k:=k) (by omega)
   have hsk:=(HV.out.at_ k (by omega) hlt).below hb;obtain⟨B,cB,BR,_⟩:=id hsk;rw[BR]at hcell hsk;have hcnt:=aaj fs k hlt;have HS:=ah hsk;have HKK:=ah (HK.out _ (aS hlt));have C9:Hid (mO (fs.take (k+1))=fM fs[k] 0 0):=by
    show _=_;rw[← aT hlt,Nu,ay (by simpa using hbad)]
   have oM:Hid (fM fs[k] 0 0≠0→jG fs=(.nil,fM fs[k] 0 0)):=fun h=>by
    have:=aag hlt hbad h;unfold jG;rw[this,aA h]
   have hcC:=HC.out;generalize fs[k]=g at *;have hgc:g.count≤1000000:=(by omega);clear hb hsk BR hcnt;have jw:=ah (acR g.count B cB g _ 0 wr (au _) HS.out HKK.out hgc (.inl (by omega)));go_wp2_with fail;refine jw.out.mono ?_;rintro e w2 ⟨rfl,hb2⟩;have HB2:=ah hb2;clear hb2 jw;by_cases hck:fM g 0 0=0
   ·have HN:Hid (mO (fs.take (k+1))=0):=by have:=C9.out;rw[hck]at this;exact this
    rw[hck];clear hck C9 oM;go_wp2_with fail;go_roundg (fs.length - (k+1))
    case measure=>omega
    case rel=>exact⟨k+1,by omega,au _,by go_num,HN.out,bb HB.out HB2.out⟩
   have HE:Hid (∀w',Below w2.heap.size w2 w'→FX w (jG fs) (.returned (.tuple #[.slice none 0 0,.int .i64 (fM g 0 0:Int)])) w'):=fun w' hb=>by
    rw[oM.out hck];exact⟨none,0,rfl,eF.nil _ _ _ _,bb (bb HB.out HB2.out) hb⟩
   generalize fM g 0 0=G at *;have hgi:((G:Int) != 0)=true:=(by rw[aZ];omega);clear hck C9 oM;go_wp2_with fail;go_ret2;exact HE.out _ b0
  obtain rfl:k=fs.length:=by omega
  rw[aU (au _)]at hbad;have iY:Hid (jG fs=vI (iT fs)):=by unfold jG;rw[hbad];rfl
  have H0:Hid (vC w [] (.slice none 0 0) wr):=⟨none,0,[],rfl,World.ownsRow_nil _ _ _ _,trivial,List.nodup_nil,hb⟩;clear hbad hb hgk hkl hlt;go_wp2_with fail;go_loopg [7,28] fs.length (fun gk1 vo ki wr=>∃k:Nat,k≤fs.length∧fs.length - k≤gk1∧ki=.int .i64 (k:Int)∧Hid (vC w (iT (fs.take k)).eP vo wr))
  case atStart=>exact⟨0,aW _,by omega,rfl,H0⟩
  case round=>
   obtain⟨k,hkl,aox,rfl,HM⟩:=hrel;obtain⟨G1,hG1⟩:∃G1,G1=gk:=⟨_,rfl⟩;by_cases hlt:k<fs.length
   ·have hb:Below w.heap.size w wr:=by obtain⟨_,_,_,_,_,_,_,h⟩:=HM.out;exact h
    obtain⟨b,off,rfl,hbl,hcell⟩:=(HR.out.below hb).at_ (k:=k) (by omega);have hsk:=HV.out.at_ k (by omega) hlt;obtain⟨B,cB,BR,_⟩:=id hsk;rw[BR]at hcell hsk;have HS:=ah hsk;have Bc:Hid ((iT (fs.take (k+1))).eP=(iT (fs.take k)).eP++fs[k].eP∧∃r,(iT fs).eP=((iT (fs.take k)).eP++fs[k].eP)++r):=by
     refine⟨by rw[← aT hlt,Jo,uX],(iT (fs.drop (k+1))).eP,?_⟩;rw[← uX,← Jo,aT,← uX,← SL,dG]
    have rD:=aI (iT fs).kH HC.out;have H0:Hid (vC w ((iT (fs.take k)).eP++fs[k].eP.take 0) u7 wr):=(by rw[List.take_zero,bQ];exact HM.out);generalize fs[k]=f at *;generalize(iT (fs.take k)).eP=D at *;have hfl:f.len≤1000000:=by
     obtain⟨r,hr⟩:=Bc.out.2;have:=congrArg List.length hr;simp only[aC,oK]at this;omega
    clear hb hsk BR HM;go_wp2_with fail;go_loopg [7,34] f.len (fun Gz vo ji wr=>∃j:Nat,j≤f.len∧f.len - j≤Gz∧ji=.int .i64 (j:Int)∧Hid (vC w (D++f.eP.take j) vo wr))
    case atStart=>exact⟨0,aW _,by omega,rfl,H0⟩
    case round=>
     obtain⟨j,hjl,aa8,rfl,HM⟩:=hrel;obtain⟨G2,hG2⟩:∃G2,G2=gk:=⟨_,rfl⟩;by_cases hjt:j<f.len
     ·obtain⟨A1,c1,xs,rfl,hown,hcls,hnd,hb⟩:=HM.out
      obtain⟨t,y,n,s,i,hdc,_⟩:=f.drop_cons j hjt;obtain⟨B',cB',hv',hcB,hor⟩:=HS.out.below hb;injection hv' with q1 q2 q3;subst q1 q3;rcases hor with h0|⟨bf,off2,rfl,_,hbf,hat⟩
      ·omega
      have hak:=hat.drop j;rw[hdc]at hak;obtain⟨d0,d1,d2,d3,⟨Ai,ci,d4,hci,hin⟩,_⟩:=hak;have hsi:eF wr (fun _=>True) (.slice Ai i.len ci) i:=(show eF wr I (.slice Ai i.len ci) i from⟨Ai,ci,rfl,hci,hin⟩).imp fun _ _=>trivial;have htd:=KH hdc;rw[aP (by rw[oK];exact hjt)]at htd;injection htd with htd;have hd1:D++f.eP.take (j+1)=(D++f.eP.take j)++[⟨t,y,n,s,i⟩]:=by
       rw[← aT (show j<f.eP.length by rw[oK];exact hjt),htd,bP]
      have hd2:∃r,(iT fs).eP=(D++f.eP.take j)++⟨t,y,n,s,i⟩::r:=by
       obtain⟨r,hr⟩:=Bc.out.2;refine⟨f.eP.drop (j+1)++r,?_⟩;rw[hr];have:f.eP=f.eP.take j++⟨t,y,n,s,i⟩::f.eP.drop (j+1):=by
        rw[← htd,← bI,dG]
       conv=>lhs;rw[this]
       simp
      have HD1:=ah hd1;have HD2:=ah hd2;have hL1:(D++f.eP.take j).length+1≤1000000:=by
       obtain⟨r,hr⟩:=hd2;have:=congrArg List.length hr;simp only[aC,bK,oK]at this⊢;omega
      clear hat hin hdc htd hd1 hd2;generalize D++f.eP.take j=done at *;have hSl:=U4 Fl.tag done;obtain⟨L,hL⟩:∃L,L=done.length:=⟨_,rfl⟩;have Ls:=ah hL;rw[← hL]at hown hcls hSl hL1⊢;have oQ:(fB (jD Fl.tag done)).len=L:=(by rw[wU,hSl]);have aoq:L≤c1:=by
       rcases hown.2 with⟨h,h'⟩|⟨g',cap',cur,hv,_,_,hn,_⟩
       ·omega
       injection hv with h1 h2 h3;omega
      have HOWN:=ah hown;have sK:=ah hcls;have HND:=ah hnd;have HB:=ah hb;have pY:=ah hsi
      have LK:Hid (∀a,a≤L→(∀q (h:q<(jD Fl.tag done).length),q<a→(jD Fl.tag done)[q].tag<t)→(∀h:a<(jD Fl.tag done).length,t<(jD Fl.tag done)[a].tag)→
       jD Fl.tag (done++[(⟨t,y,n,s,i⟩:Fl)])=(jD Fl.tag done).take a++⟨t,y,n,s,i⟩::(jD Fl.tag done).drop a∧((done++[(⟨t,y,n,s,i⟩:Fl)]).map Fl.tag).Nodup):=fun a h1 h2 h3=>ai0 Fl.tag (l:=done) (x:=(⟨t,y,n,s,i⟩:Fl)) (a:=a) hnd (by rw[U4,← hL];exact h1) h2 h3
      have ad4:Hid (∀a (h:a<(jD Fl.tag done).length),(jD Fl.tag done)[a].tag=t→jG fs=(.nil,14)):=fun a h he=>by
       obtain⟨r,hr⟩:=HD2.out;rw[iY.out];unfold vI;rw[hr,ay (aiU Fl.tag h he)]
      clear hown hcls hnd hb hsi hL;generalize hSS:jD Fl.tag done=S at *;have HSS:=ah hSS;clear hSS;have zJ:Hid (eF wr (fun _=>True) (.slice A1 L c1) (fB S)):=by
       have own':wr.ownsRow w.heap.size 207 5 (.slice A1 (fB S).len c1) (fB S).len xs:=(by rw[oQ];exact HOWN.out);obtain⟨A9,c9,vO,hs9⟩:=acC own' sK.out;injection vO with h1 h2 h3;subst h1 h3;rw[oQ]at hs9;exact hs9
      go_wp2_with fail;have hx:=dU.made wr 207 #[.int .u64 (t:Int),.int .i64 y,.int .u64 (n:Int),.string s,.slice Ai i.len ci];have hbb:=ba (a:=wr) b0 (.cells #[.int .u64 (t:Int),.int .i64 y,.int .u64 (n:Int),.string s,.slice Ai i.len ci] 207);have HWB:Hid (wr.heap.size<(wr.alloc (.cells #[.int .u64 (t:Int),.int .i64 y,.int .u64 (n:Int),.string s,.slice Ai i.len ci] 207)).heap.size):=(by show _<_;simp);generalize wr.alloc (.cells #[.int .u64 (t:Int),.int .i64 y,.int .u64 (n:Int),.string s,.slice Ai i.len ci] 207)=wb at hx hbb HWB⊢;have HX:=ah hx;have qI:=ah hbb;have e0:=hx.cell 0;have e1:=hx.cell 1;have e2:=hx.cell 2;have e3:=hx.cell 3;have e4:=hx.cell 4;simp at e0 e1 e2 e3 e4;clear hx hbb d0 d1 d2 d3 d4
      have lD:Hid (∀x:World,Below wb.heap.size wb x→eF x (fun _=>True) (.slice A1 L c1) (fB S)∧dU x wr.heap.size 207 #[.int .u64 (t:Int),.int .i64 y,.int .u64 (n:Int),.string s,.slice Ai i.len ci]∧eF x (fun _=>True) (.slice Ai i.len ci) i∧Below w.heap.size w x∧w.heap.size≤x.heap.size):=fun x hx=>by
       have h1:=bb qI.out hx;have h2:=bb HB.out h1;exact⟨zJ.out.below h1,HX.out.below hx HX.out.lt,pY.out.below h1,h2,h2.size⟩
      go_wp2_with fail;go_loopg [12] L (fun gk3 ai w3=>∃a:Nat,a≤L∧L - a≤gk3∧ai=.int .i64 (a:Int)∧Below wb.heap.size wb w3∧Hid (∀q (h:q<S.length),q<a→S[q].tag<t))
      case atStart=>exact⟨0,aW _,by omega,rfl,b0,fun q h h1=>by omega⟩
      case round=>
       obtain⟨a,Jy,aoy,rfl,hb3,uq⟩:=hrel;obtain⟨JR,hx3,Ot,NU,hz3⟩:=lD.out _ hb3;have e0:=hx3.cell 0;have e1:=hx3.cell 1;have e2:=hx3.cell 2;have e3:=hx3.cell 3;have e4:=hx3.cell 4;simp at e0 e1 e2 e3 e4;by_cases hal:a<L
       ·obtain⟨g,o,rfl,hg,hca⟩:=ada (f:=fB S) (by rw[oQ];exact JR) a (by rw[oQ];exact hal)
        simp only[qM]at hca;have aoo:(a:Int)<(L:Int):=(by omega);have ahR:decide (a<L)=true:=bH hal;have haS:a<S.length:=(by rw[hSl];exact hal);have FU:Hid (∀q (h:q<S.length),q<a+1→q<a∨S[q].tag=S[a].tag):=fun q h h1=>by
         by_cases h2:q<a
         ·exact .inl h2
         right
         have:q=a:=(by omega);subst this;rfl
        have Lc:=ah (ad4.out a haS);have Ll:Hid (t<S[a].tag→∀h:a<S.length,t<S[a].tag):=fun h _=>h;generalize S[a].tag=ta at *;have HB3:=ah hb3;by_cases hlt2:ta<t
        ·have hd3:decide (ta<t)=true:=bH hlt2
         have hi3:(ta:Int)<(t:Int):=(by omega);have aea:Hid (∀q (h:q<S.length),q<a+1→S[q].tag<t):=fun q h h1=>by
          rcases FU.out q h h1 with h2|h2
          ·exact uq.out q h h2
          omega
         clear hb3 JR hx3 Ot NU FU Lc Ll;go_wp2_with fail;go_quiet(fail);go_wp2_with fail;go_roundg (L - (a+1))
         case measure=>omega
         case rel=>exact⟨a+1,by omega,au _,by go_num,bn HB3.out _,aea⟩
        have hd3:decide (ta<t)=false:=aO hlt2;have hi3:decide ((ta:Int)<(t:Int))=false:=aO (by omega);by_cases het:ta=t
        ·have hti:((ta:Int)==(t:Int))=true:=by rw[bF];omega
         have HE:Hid (∀w',Below w.heap.size w w'→FX w (jG fs) (.returned (.tuple #[.slice none 0 0,.int .i64 14])) w'):=fun w' hb=>by
          rw[Lc.out het];exact⟨none,0,rfl,eF.nil _ _ _ _,hb⟩
         have iW:=ah (bb HB.out (bb qI.out hb3));clear hb3 JR hx3 Ot NU FU Lc Ll het;go_wp2_with fail;go_quiet(fail);go_wp2_with fail;go_quiet(fail);go_wp2_with fail;go_ret2;exact HE.out _ (bn (bn iW.out _) _)
        have hti:((ta:Int)==(t:Int))=false:=(by rw[aB];omega);have Jt:=Ll.out (by omega);have hac:(a:Int)≤(c1:Int):=(by omega);have ahQ:(a:Int)<(c1:Int):=(by omega);have hLc:(L:Int)≤(c1:Int):=(by omega);have aon:(a:Int)≤(L:Int):=(by omega);have Ip:=ah Jt;clear JR hx3 Ot NU FU Lc Ll het Jt;go_wp2_with fail;go_quiet(fail);have hb5:∀m,Below wb.heap.size wb (wr.drewN (nq+m)):=fun m=>bn hb3 _;go_wp2_with fail;go_quiet(fail);have hb6:=hb5 nq;have xu:Hid (∀W1:World,Below wb.heap.size wb W1→IV W1 S L a (L - a) c1 (c1 - a) t n y s i (some ⟨g,o,none⟩) (some ⟨g,o+a*5,none⟩) Ai ci):=fun W1 hW=>by
         obtain⟨hs9,_,hi9,_,_⟩:=lD.out W1 hW;have hs8:eF W1 (fun _=>True) (.slice (some ⟨g,o,none⟩) (fB S).len c1) (fB S):=(by rw[oQ];exact hs9);have yZ:=hs8.take a (by rw[oQ];exact Jy);rw[Fs.take_len _ _ (by rw[oQ];exact Jy)]at yZ;exact OI hSl (by omega) yZ (by have h5:=hs8.drop a (by rw[oQ];exact Jy) (c1 - a) (by rw[oQ];omega);rw[Fs.uJ,oQ]at h5;exact h5) hi9 Jy (by omega)
        have xH:=ah (LK.out a Jy uq.out Ip.out);obtain⟨A2,c2,W2,hr2,hbW2,A3,c3,W3,hr3,A4,c4,W4,zo,hr4,own4,uD,xU⟩:=xu.out _ hb6;have HR2:=ah hr2;have HR3:=ah hr3;have HR4:=ah hr4;have og:=ah (And.intro own4 (And.intro uD (bb qI.out (bb hb6 xU))));have CU:=ah (bb qI.out hb6);obtain⟨_,hx4,_,_,_⟩:=lD.out W2 (bb hb6 hbW2);have k0:=hx4.cell 0;have k1:=hx4.cell 1;have k2:=hx4.cell 2;have k3:=hx4.cell 3;have k4:=hx4.cell 4;simp at k0 k1 k2 k3 k4;clear xu hr2 hbW2 hr3 hr4 own4 uD xU hx4;go_wp2_with(at_builtin;go_must(first|(refine wpList_append_run rfl _ _ _ _ rfl _ _ _ rfl rfl HR2.out ?_;clear HR2)|(refine wpList_append_run rfl _ _ _ _ rfl _ _ _ rfl rfl HR3.out ?_;clear HR3)|(refine wpList_append_run rfl _ _ _ _ rfl _ _ _ rfl rfl HR4.out ?_;clear HR4)));go_roundg (f.len - (j+1))
        case measure=>omega
        case rel=>
         refine⟨j+1,by omega,au _,by go_num,?_⟩;have e9:(done++[(⟨t,y,n,s,i⟩:Fl)]).length=L+1:=(by rw[aC,← Ls.out];rfl);show vC _ _ _ _;rw[HD1.out];unfold vC;rw[e9,xH.out.1];have hq:=CU.out.size;exact⟨A4,c4,zo,rfl,own_base og.out.1 (aI HB.out.size hq),og.out.2.1,xH.out.2,bb HB.out og.out.2.2⟩
       obtain rfl:a=L:=(by omega);have Jt:∀h:a<S.length,t<S[a].tag:=fun h=>(by omega);have Ip:=ah Jt;have ahR:decide (a<a)=false:=aO (by omega);clear JR hx3 Ot NU Jt;cases A1 with
       |none=>
         obtain⟨rfl,rfl⟩:a=0∧c1=0:=by
          rcases HOWN.out.2 with⟨h,h'⟩|⟨g',cap',cur,hv,_,_,hn,_⟩
          ·injection h with h1 h2 h3
           exact⟨h2,h3⟩
          injection hv with h1;cases h1
         go_wp2_with fail;go_quiet(fail);have hb5:∀m,Below wb.heap.size wb (wr.drewN (nq+m)):=fun m=>bn hb3 _;go_wp2_with fail;go_quiet(fail);have hb6:=hb5 nq;have xu:Hid (∀W1:World,Below wb.heap.size wb W1→IV W1 S 0 0 0 0 0 t n y s i (none) (none) Ai ci):=fun W1 hW=>by
          obtain⟨hs9,_,hi9,_,_⟩:=lD.out W1 hW;have hs8:eF W1 (fun _=>True) (.slice none (fB S).len 0) (fB S):=(by rw[oQ];exact hs9);have yZ:=hs8.take 0 (by rw[oQ];exact(au _));rw[Fs.take_len _ _ (by rw[oQ];exact(au _))]at yZ;exact OI hSl (by omega) (by cases h7:fB S<;>exact eF.nil _ _ _ _) (by have h7:=Fs.jr oQ;rw[h7];exact eF.nil _ _ _ _) hi9 (au _) (by omega)
         have xH:=ah (LK.out 0 (au _) uq.out Ip.out);obtain⟨A2,c2,W2,hr2,hbW2,A3,c3,W3,hr3,A4,c4,W4,zo,hr4,own4,uD,xU⟩:=xu.out _ hb6;have HR2:=ah hr2;have HR3:=ah hr3;have HR4:=ah hr4;have og:=ah (And.intro own4 (And.intro uD (bb qI.out (bb hb6 xU))));have CU:=ah (bb qI.out hb6);obtain⟨_,hx4,_,_,_⟩:=lD.out W2 (bb hb6 hbW2);have k0:=hx4.cell 0;have k1:=hx4.cell 1;have k2:=hx4.cell 2;have k3:=hx4.cell 3;have k4:=hx4.cell 4;simp at k0 k1 k2 k3 k4;clear xu hr2 hbW2 hr3 hr4 own4 uD xU hx4;go_wp2_with(at_builtin;go_must(first|(refine wpList_append_run rfl _ _ _ _ rfl _ _ _ rfl rfl HR2.out ?_;clear HR2)|(refine wpList_append_run rfl _ _ _ _ rfl _ _ _ rfl rfl HR3.out ?_;clear HR3)|(refine wpList_append_run rfl _ _ _ _ rfl _ _ _ rfl rfl HR4.out ?_;clear HR4)));go_roundg (f.len - (j+1))
         case measure=>omega
         case rel=>
          refine⟨j+1,by omega,au _,by go_num,?_⟩;have e9:(done++[(⟨t,y,n,s,i⟩:Fl)]).length=0+1:=(by rw[aC,← Ls.out];rfl);show vC _ _ _ _;rw[HD1.out];unfold vC;rw[e9,xH.out.1];have hq:=CU.out.size;exact⟨A4,c4,zo,rfl,own_base og.out.1 (aI HB.out.size hq),og.out.2.1,xH.out.2,bb HB.out og.out.2.2⟩
       |some g0=>
         obtain⟨g,o,rfl⟩:∃g o,g0=⟨g,o,none⟩:=by
          rcases HOWN.out.2 with⟨h,h'⟩|⟨g',cap',cur,hv,_,_,hn,_⟩
          ·cases h
          injection hv with h1;injection h1 with h1;exact⟨g',0,h1⟩
         have hac:(a:Int)≤(c1:Int):=(by omega);by_cases hcap:a=c1
         ·subst hcap
          have hcn:(0:Int)≤(a:Int):=(by omega);go_wp2_with fail;go_quiet(fail);have hb5:∀m,Below wb.heap.size wb (wr.drewN (nq+m)):=fun m=>bn hb3 _;go_wp2_with fail;go_quiet(fail);have hb6:=hb5 nq;have xu:Hid (∀W1:World,Below wb.heap.size wb W1→IV W1 S a a 0 a 0 t n y s i (some ⟨g,o,none⟩) (some ⟨g,o,none⟩) Ai ci):=fun W1 hW=>by
           obtain⟨hs9,_,hi9,_,_⟩:=lD.out W1 hW;have hs8:eF W1 (fun _=>True) (.slice (some ⟨g,o,none⟩) (fB S).len a) (fB S):=(by rw[oQ];exact hs9);have yZ:=hs8.take a (by rw[oQ];exact(au _));rw[Fs.take_len _ _ (by rw[oQ];exact(au _))]at yZ;exact OI hSl (by omega) yZ (by have h7:((fB S).drop a)=.nil:=Fs.jr (by rw[Fs.uJ,oQ];omega);rw[h7];exact eF.nil _ _ _ _) hi9 (au _) (by omega)
          have xH:=ah (LK.out a (au _) uq.out Ip.out);obtain⟨A2,c2,W2,hr2,hbW2,A3,c3,W3,hr3,A4,c4,W4,zo,hr4,own4,uD,xU⟩:=xu.out _ hb6;have HR2:=ah hr2;have HR3:=ah hr3;have HR4:=ah hr4;have og:=ah (And.intro own4 (And.intro uD (bb qI.out (bb hb6 xU))));have CU:=ah (bb qI.out hb6);obtain⟨_,hx4,_,_,_⟩:=lD.out W2 (bb hb6 hbW2);have k0:=hx4.cell 0;have k1:=hx4.cell 1;have k2:=hx4.cell 2;have k3:=hx4.cell 3;have k4:=hx4.cell 4;simp at k0 k1 k2 k3 k4;clear xu hr2 hbW2 hr3 hr4 own4 uD xU hx4;go_wp2_with(at_builtin;go_must(first|(refine wpList_append_run rfl _ _ _ _ rfl _ _ _ rfl rfl HR2.out ?_;clear HR2)|(refine wpList_append_run rfl _ _ _ _ rfl _ _ _ rfl rfl HR3.out ?_;clear HR3)|(refine wpList_append_run rfl _ _ _ _ rfl _ _ _ rfl rfl HR4.out ?_;clear HR4)));go_roundg (f.len - (j+1))
          case measure=>omega
          case rel=>
           refine⟨j+1,by omega,au _,by go_num,?_⟩;have e9:(done++[(⟨t,y,n,s,i⟩:Fl)]).length=a+1:=(by rw[aC,← Ls.out];rfl);show vC _ _ _ _;rw[HD1.out];unfold vC;rw[e9,xH.out.1];have hq:=CU.out.size;exact⟨A4,c4,zo,rfl,own_base og.out.1 (aI HB.out.size hq),og.out.2.1,xH.out.2,bb HB.out og.out.2.2⟩
         have ahQ:(a:Int)<(c1:Int):=(by omega);go_wp2_with fail;go_quiet(fail);have hb5:∀m,Below wb.heap.size wb (wr.drewN (nq+m)):=fun m=>bn hb3 _;go_wp2_with fail;go_quiet(fail);have hb6:=hb5 nq;have xu:Hid (∀W1:World,Below wb.heap.size wb W1→IV W1 S a a 0 c1 (c1 - a) t n y s i (some ⟨g,o,none⟩) (some ⟨g,o+a*5,none⟩) Ai ci):=fun W1 hW=>by
          obtain⟨hs9,_,hi9,_,_⟩:=lD.out W1 hW;have hs8:eF W1 (fun _=>True) (.slice (some ⟨g,o,none⟩) (fB S).len c1) (fB S):=(by rw[oQ];exact hs9);have yZ:=hs8.take a (by rw[oQ];exact(au _));rw[Fs.take_len _ _ (by rw[oQ];exact(au _))]at yZ;exact OI hSl (by omega) yZ (by have h7:((fB S).drop a)=.nil:=Fs.jr (by rw[Fs.uJ,oQ];omega);rw[h7];exact eF.nil _ _ _ _) hi9 (au _) (by omega)
         have xH:=ah (LK.out a (au _) uq.out Ip.out);obtain⟨A2,c2,W2,hr2,hbW2,A3,c3,W3,hr3,A4,c4,W4,zo,hr4,own4,uD,xU⟩:=xu.out _ hb6;have HR2:=ah hr2;have HR3:=ah hr3;have HR4:=ah hr4;have og:=ah (And.intro own4 (And.intro uD (bb qI.out (bb hb6 xU))));have CU:=ah (bb qI.out hb6);obtain⟨_,hx4,_,_,_⟩:=lD.out W2 (bb hb6 hbW2);have k0:=hx4.cell 0;have k1:=hx4.cell 1;have k2:=hx4.cell 2;have k3:=hx4.cell 3;have k4:=hx4.cell 4;simp at k0 k1 k2 k3 k4;clear xu hr2 hbW2 hr3 hr4 own4 uD xU hx4;go_wp2_with(at_builtin;go_must(first|(refine wpList_append_run rfl _ _ _ _ rfl _ _ _ rfl rfl HR2.out ?_;clear HR2)|(refine wpList_append_run rfl _ _ _ _ rfl _ _ _ rfl rfl HR3.out ?_;clear HR3)|(refine wpList_append_run rfl _ _ _ _ rfl _ _ _ rfl rfl HR4.out ?_;clear HR4)));go_roundg (f.len - (j+1))
         case measure=>omega
         case rel=>
          refine⟨j+1,by omega,au _,by go_num,?_⟩;have e9:(done++[(⟨t,y,n,s,i⟩:Fl)]).length=a+1:=(by rw[aC,← Ls.out];rfl);show vC _ _ _ _;rw[HD1.out];unfold vC;rw[e9,xH.out.1];have hq:=CU.out.size;exact⟨A4,c4,zo,rfl,own_base og.out.1 (aI HB.out.size hq),og.out.2.1,xH.out.2,bb HB.out og.out.2.2⟩
     ·obtain rfl:j=f.len:=by omega
      have jK:Hid (vC w (iT (fs.take (k+1))).eP u7 wr):=by
       have:=HM.out;rw[aU (by rw[oK];exact au _)]at this;rw[Bc.out.1];exact this
      clear HM Bc;go_wp2_with fail;go_roundg (fs.length - (k+1))
      case measure=>omega
      case rel=>exact⟨k+1,by omega,au _,by go_num,jK⟩
   ·obtain rfl:k=fs.length:=by omega
    obtain⟨A1,c1,xs,rfl,hown,hcls,hnd,hb⟩:=HM.out;rw[aU (au _)]at hown hcls hnd⊢;have hl1:(fB (jD Fl.tag (iT fs).eP)).len=(iT fs).eP.length:=(by rw[wU,U4]);have hf:jG fs=(fB (jD Fl.tag (iT fs).eP),0):=by
     rw[iY.out];unfold vI;rw[aA hnd]
    rw[← hl1]at hown hcls⊢;obtain⟨A9,c9,vO,hs9⟩:=acC hown hcls;injection vO with h1 h2 h3;subst h1 h3;have HE:Hid (FX w (jG fs) (.returned (.tuple #[.slice A1 (fB (jD Fl.tag (iT fs).eP)).len c1,.int .i64 0])) wr):=by
     rw[hf];exact⟨A1,c1,rfl,hs9,hb⟩
    generalize(fB (jD Fl.tag (iT fs).eP)).len=LL at *;clear hown hcls hnd hb hs9 hl1 hf HM iY;go_wp2_with fail;go_ret2;exact HE.out
end Go.Proofs.YtgidfnhfgiehjaaGreatDoor
end
