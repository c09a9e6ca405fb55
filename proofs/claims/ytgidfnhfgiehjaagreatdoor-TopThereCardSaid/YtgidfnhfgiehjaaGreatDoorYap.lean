/-
  Parts of the proof. Conditions: as each names.
-/
import Derived.Test.YtgidfnhfgiehjaaGreatDoorYan
import Derived.Test.YtgidfnhfgiehjaaGreatDoorYam
import Derived.Test.YtgidfnhfgiehjaaGreatDoorYal
namespace Go.Proofs.YtgidfnhfgiehjaaGreatDoor
open Go.PM Go.RowKit Go.Proofs.Tryz
set_option maxRecDepth 100000
set_option maxHeartbeats 4000000
attribute [local go_sem ↓] Go.wp_at_zero Go.wp_at_succ
theorem al4(N:Nat):∀(A A':Option Addr) (c c':Nat) (f g:Fs) (I:Nat→Prop) (w:World),f.count≤N→eF w I (.slice A f.len c) f→eF w I (.slice A' g.len c') g→f.count≤1000000→g.count≤1000000→
 Calls prog 69 #[.slice A f.len c,.slice A' g.len c'] w (aj w (.bool (f.same g))):=by
 induction N with
 |zero=>
   intro A A' c c' f g I w hN hr hr' h60 NM;have:f=.nil:=Fs.jr (by have:=f.kH;omega);subst this;have hgl:=g.kH;by_cases hg:g.len=0
   ·have:g=.nil:=Fs.jr hg
    subst this;go_enter func69,ntmps69;go_wp2_with fail;go_loopw [13] (fun kk wr=>kk=.int .i64 0∧wr=w) (fun _ _=>0)
    case atStart=>exact⟨rfl,rfl⟩
    case round=>
     obtain⟨rfl,rfl⟩:=hrel;go_wp2_with fail;go_ret;exact⟨rfl,b0⟩
   have hs:Fs.nil.same g=false:=VN (by simp only[Fs.len];omega);rw[hs];have hi:((Fs.nil.len:Int) != (g.len:Int))=true:=(by simp[Fs.len];omega);clear hs hg;go_enter func69,ntmps69;go_wp2_with fail;go_ret;exact⟨rfl,b0⟩
 |succ N ih=>
   intro A A' c c' f g I w hN hr hr' h60 NM;have IH:=ah ih;have HR:=ah hr;have HR':=ah hr';clear ih hr hr';have hfl:=f.kH;have hgl:=g.kH;generalize hT:f.same g=T;by_cases hlen:f.len=g.len
   ·have H0:Hid ((f.drop 0).same (g.drop 0)=T):=by
     have hd0:∀h:Fs,h.drop 0=h:=fun h=>(by cases h<;>rfl);rw[hd0,hd0];exact hT
    have HLEN:=ah hlen;have uM:((f.len:Int) != (g.len:Int))=false:=(by simp;omega);clear hlen hT;go_enter func69,ntmps69;go_wp2_with fail;go_loopw [13] (fun kk wr=>∃k:Nat,k≤f.len∧kk=.int .i64 (k:Int)∧Hid ((f.drop k).same (g.drop k)=T)∧Below w.heap.size w wr) (fun kk _=>f.len - (intOf kk).toNat)
    case atStart=>exact⟨0,by omega,rfl,H0,b0⟩
    case round=>
     obtain⟨k,hk,rfl,hnt,hbel⟩:=hrel;by_cases hlt:k<f.len
     ·have hle:f.len=g.len:=HLEN.out
      obtain⟨t,y,n,s,i,hdc,_⟩:=f.drop_cons k hlt;obtain⟨t',y',n',s',i',Ae,_⟩:=g.drop_cons k (by omega);obtain⟨A0,c0,hv,hc0,hor⟩:=HR.out.below hbel;injection hv with hv1 hv2 hv3;subst hv1 hv3;obtain⟨A0,c0,hv',hc0',Uy⟩:=HR'.out.below hbel;injection hv' with hv1 UE hv3;subst hv1 hv3;rcases hor with h0|⟨b,o,rfl,yX,hbl,hat⟩
      ·omega
      rcases Uy with h0|⟨b',o',rfl,ahN,sZ,hat'⟩
      ·omega
      have hak:=hat.drop k;have Jz:=hat'.drop k;rw[hdc]at hak;rw[Ae]at Jz;obtain⟨a0,a1,a2,a3,⟨Ai,ci,a4,hci,hin⟩,_⟩:=hak;obtain⟨a0',a1',a2',a3',⟨o9,ci',a4',Uc,hin'⟩,_⟩:=Jz;have pY:Hid (eF wr I (.slice Ai i.len ci) i∧eF wr I (.slice o9 i'.len ci') i'):=⟨⟨Ai,ci,rfl,hci,hin⟩,⟨o9,ci',rfl,Uc,hin'⟩⟩;have eX:=ah hbel;have pK:(k:Int)<(f.len:Int):=(by omega);have hkg:(k:Int)<(g.len:Int):=(by omega);have hif:=f.yP k;have hig:=g.yP k;have hn3:=hnt.out;rw[hdc,Ae]at hn3;rw[hdc]at hif;rw[Ae]at hig;simp only[Fs.count,Fs.same]at hif hig hn3;have hic:i.count≤N∧i.count≤1000000∧i'.count≤1000000:=(by omega);have lu:Hid (∀x:World,Below wr.heap.size wr x→Calls prog 69 #[.slice Ai i.len ci,.slice o9 i'.len ci'] x (aj x (.bool (i.same i')))):=fun x hx=>
       IH.out Ai o9 ci ci' i i' I x hic.1 (pY.out.1.below hx) (pY.out.2.below hx) hic.2.1 hic.2.2
      clear hle hdc Ae hat hat' hin hin' hv2 UE hbel hnt hic hif hig;by_cases e0:t=t'
      ·subst e0
       by_cases e1:y=y'
       ·subst e1
        by_cases e2:n=n'
        ·subst e2
         by_cases e3:s=s'
         ·subst e3
          have HCS:Hid (∀W1:World,Below wr.heap.size wr W1→(W1.cell? ⟨b,o+k*5,none⟩=some (.int .u64 (t:Int))∧W1.cell? ⟨b,o+k*5+1,none⟩=some (.int .i64 y)∧W1.cell? ⟨b,o+k*5+2,none⟩=some (.int .u64 (n:Int))∧W1.cell? ⟨b,o+k*5+3,none⟩=some (.string s)∧W1.cell? ⟨b,o+k*5+4,none⟩=some (.slice Ai i.len ci))∧
           (W1.cell? ⟨b',o'+k*5,none⟩=some (.int .u64 (t:Int))∧W1.cell? ⟨b',o'+k*5+1,none⟩=some (.int .i64 y)∧W1.cell? ⟨b',o'+k*5+2,none⟩=some (.int .u64 (n:Int))∧W1.cell? ⟨b',o'+k*5+3,none⟩=some (.string s)∧W1.cell? ⟨b',o'+k*5+4,none⟩=some (.slice o9 i'.len ci'))):=fun W1 hx=>by
           have e:=fun j=>World.cell?_of_block (a:=⟨b,j,none⟩) (hx.block b hbl)
           have e':=fun j=>World.cell?_of_block (a:=⟨b',j,none⟩) (hx.block b' sZ)
           exact⟨⟨(e _).trans a0,(e _).trans a1,(e _).trans a2,(e _).trans a3,(e _).trans a4⟩,(e' _).trans a0',(e' _).trans a1',(e' _).trans a2',(e' _).trans a3',(e' _).trans a4'⟩
          simp only[decide_true,and_self,Bool.true_and]at hn3;generalize hii:i.same i'=B at hn3 lu;have xE:Hid ((B&&(f.drop (k+1)).same (g.drop (k+1)))=T):=hn3;clear hn3 hii;go_wp2_with fail
          go_region_held3 (fun w'=>(w'.cell? ⟨b,o+k*5,none⟩=some (.int .u64 (t:Int))∧w'.cell? ⟨b,o+k*5+1,none⟩=some (.int .i64 y)∧w'.cell? ⟨b,o+k*5+2,none⟩=some (.int .u64 (n:Int))∧w'.cell? ⟨b,o+k*5+3,none⟩=some (.string s)∧w'.cell? ⟨b,o+k*5+4,none⟩=some (.slice Ai i.len ci))∧
           (w'.cell? ⟨b',o'+k*5,none⟩=some (.int .u64 (t:Int))∧w'.cell? ⟨b',o'+k*5+1,none⟩=some (.int .i64 y)∧w'.cell? ⟨b',o'+k*5+2,none⟩=some (.int .u64 (n:Int))∧w'.cell? ⟨b',o'+k*5+3,none⟩=some (.string s)∧w'.cell? ⟨b',o'+k*5+4,none⟩=some (.slice o9 i'.len ci'))) (go_keep)
           ((go_at_call 69;refine(lu.out _ (bd b0)).mono ?_;rintro e' W1 ⟨rfl,hb1⟩;have hbW1:Below wr.heap.size wr W1:=bb (bd b0) hb1;have q0:=HCS.out W1 hbW1;obtain⟨⟨q0,q1,q2,q3,q4⟩,q5,q6,q7,q8,q9⟩:=q0))
          cases B with
          |false=>
            obtain rfl:false=T:=xE.out;go_wp2_with fail;go_ret;exact⟨rfl,eX.out.trans (hbW1.mono eX.out.size)⟩
          |true=>
            go_wp2_with fail;go_roundw
            case rel=>exact⟨k+1,by omega,by go_num,xE,eX.out.trans (hbW1.mono eX.out.size)⟩
            case measure=>simp[intOf];omega
         ·have e4:=adi e3
          have e5:(s.toList != s'.toList)=true:=(by rw[bne,e4];rfl);have HF:Hid (false=T):=by
           have h1:=hn3;simp[e3]at h1;exact h1.symm
          clear hn3 lu;obtain rfl:false=T:=HF.out;clear HF;go_wp2_with fail;go_quiet(fail);go_wp2_with fail;go_ret;exact⟨rfl,eX.out.trans ((bn b0 _:Below wr.heap.size wr _).mono eX.out.size)⟩
        ·have e4:((n:Int) != (n':Int))=true:=by rw[aZ];omega
         have HF:Hid (false=T):=by
          have h1:=hn3;simp[e2]at h1;exact h1.symm
         clear hn3 lu;obtain rfl:false=T:=HF.out;clear HF;go_wp2_with fail;go_quiet(fail);go_wp2_with fail;go_ret;exact⟨rfl,eX.out.trans ((bn b0 _:Below wr.heap.size wr _).mono eX.out.size)⟩
       ·have e4:(y != y')=true:=by rw[aZ];exact e1
        have HF:Hid (false=T):=by
         have h1:=hn3;simp[e1]at h1;exact h1.symm
        clear hn3 lu;obtain rfl:false=T:=HF.out;clear HF;go_wp2_with fail;go_quiet(fail);go_wp2_with fail;go_ret;exact⟨rfl,eX.out.trans ((bn b0 _:Below wr.heap.size wr _).mono eX.out.size)⟩
      ·have e4:((t:Int) != (t':Int))=true:=by rw[aZ];omega
       have HF:Hid (false=T):=by
        have h1:=hn3;simp[e0]at h1;exact h1.symm
       clear hn3 lu;obtain rfl:false=T:=HF.out;clear HF;go_wp2_with fail;go_quiet(fail);go_wp2_with fail;go_ret;exact⟨rfl,eX.out.trans ((bn b0 _:Below wr.heap.size wr _).mono eX.out.size)⟩
     ·obtain rfl:k=f.len:=by omega
      have h1:f.drop f.len=.nil:=Fs.jr (by rw[Fs.uJ];omega);have h2:g.drop f.len=.nil:=Fs.jr (by rw[Fs.uJ];have:=HLEN.out;omega);rw[h1,h2]at hnt;obtain rfl:true=T:=hnt.out;have HB:=ah hbel;clear hnt hbel h1 h2;go_wp2_with fail;go_ret;exact⟨rfl,HB.out⟩
   ·obtain rfl:false=T:=by rw[← hT,VN hlen]
    have uM:((f.len:Int) != (g.len:Int))=true:=(by simp;omega);clear hlen hT;go_enter func69,ntmps69;go_wp2_with fail;go_ret;exact⟨rfl,b0⟩
end Go.Proofs.YtgidfnhfgiehjaaGreatDoor
namespace Go.Proofs.YtgidfnhfgiehjaaGreatDoor
open Go.PM Go.RowKit Go.Proofs.Tryz
set_option maxRecDepth 100000
set_option maxHeartbeats 4000000
def dV(k v:List UInt8):Int:=if jJ k 1 64≠0 then jJ k 1 64 else jJ v 0 256
theorem Nk(k v:ByteArray)(w:World)(hk:k.size≤9223372036854775807)(hv:v.size≤9223372036854775807)(hT:Tabs w) :
 Calls prog 182 #[.agg #[.string k,.string v]] w (aj w (.int .i64 (dV k.data.toList v.data.toList))):=by
 have hx:=dU.made w 132 #[.string k,.string v]
 have HX:=ah hx
 have hb0:=ba (a:=w) b0 (.cells #[.string k,.string v] 132)
 have HB:=ah hb0
 have H1:=ah (PV k 1 64 (w.alloc (.cells #[.string k,.string v] 132)) hk (hT.below hb0))
 have H2:Hid (∀x:World,Below w.heap.size w x→Calls prog 141 #[.string v,.int .i64 0,.int .i64 256] x (aj x (.int .i64 (jJ v.data.toList 0 256)))):=fun x hx=>PV v 0 256 x hv (hT.below hx)
 unfold dV
 clear hx hb0 hT
 generalize jJ k.data.toList 1 64=a at *
 generalize jJ v.data.toList 0 256=b at *
 by_cases ha:a=0
 ·subst ha
  rw[ay (by simp)];go_enter func182,ntmps182;go_wp2_with fail;refine H1.out.mono ?_;rintro e w1 ⟨rfl,hb1⟩;have hx1:=HX.out.below hb1 HX.out.lt;have c1:=hx1.cell 1;simp at c1;have HB1:=ah (bb HB.out hb1);clear hb1 hx1;go_wp2_with fail;refine(H2.out _ HB1.out).mono ?_;rintro e w2 ⟨rfl,hb2⟩;have HB2:=ah (bb HB1.out hb2);clear hb2;go_wp2;go_ret;exact⟨rfl,HB2.out⟩
 ·rw[aA ha]
  have hai:(a != 0)=true:=by rw[aZ];exact ha
  clear ha;go_enter func182,ntmps182;go_wp2_with fail;refine H1.out.mono ?_;rintro e w1 ⟨rfl,hb1⟩;have HB1:=ah (bb HB.out hb1);clear hb1;go_wp2;go_ret;exact⟨rfl,HB1.out⟩
theorem agn(ak av bk bv:ByteArray)(w:World) :
 Calls prog 289 #[.agg #[.string ak,.string av],.agg #[.string bk,.string bv]] w fun e w'=>e=.returned (.int .i64 (qA ak.data.toList av.data.toList bk.data.toList bv.data.toList))∧w'=(w.alloc (.cells #[.string ak,.string av] 132)).alloc (.cells #[.string bk,.string bv] 132):=by
 have H1:Hid (∀x:World,Calls prog 250 #[.string ak,.string bk] x fun e w'=>e=.returned (.int .i64 (Lib.compareBytes ak.data.toList bk.data.toList))∧w'=x):=fun x=>strings_Compare ak bk x
 have H2:Hid (∀x:World,Calls prog 250 #[.string av,.string bv] x fun e w'=>e=.returned (.int .i64 (Lib.compareBytes av.data.toList bv.data.toList))∧w'=x):=fun x=>strings_Compare av bv x
 unfold qA
 generalize Lib.compareBytes ak.data.toList bk.data.toList=a at *
 generalize Lib.compareBytes av.data.toList bv.data.toList=b at *
 by_cases ha:a=0
 ·subst ha
  rw[ay (by simp)];go_enter func289,ntmps289;go_wp2_with fail;refine(H1.out _).mono ?_;rintro e w1 ⟨rfl,rfl⟩;go_wp2_with fail;refine(H2.out _).mono ?_;rintro e w2 ⟨rfl,rfl⟩;go_wp2;go_ret;exact⟨rfl,rfl⟩
 ·rw[aA ha]
  have hai:(a != 0)=true:=by rw[aZ];exact ha
  clear ha;go_enter func289,ntmps289;go_wp2_with fail;refine(H1.out _).mono ?_;rintro e w1 ⟨rfl,rfl⟩;go_wp2;go_ret;exact⟨rfl,rfl⟩
def P9(w:World)(b:Nat)(s:ByteArray)(k:Nat)(e:Ending)(w':World):Prop :=
 ∃k':Nat,e=.returned (.tuple #[.string (txt (etx (s.data.toList.drop k)).1),.int .i64 ((etx (s.data.toList.drop k)).2.2:Int)])∧fG w' b s k'∧((etx (s.data.toList.drop k)).2.2=0→k'=k+(etx (s.data.toList.drop k)).2.1)∧w.grownBy w' (some b)
theorem ZY(b:Nat)(s:ByteArray)(k:Nat)(w:World)(h:fG w b s k) :
 Calls prog 233 #[.pointer (some ⟨b,0,none⟩)] w (P9 w b s k):=by
 have HN:=ah (next_any b s k w h)
 have hks:=h.2.1
 have hss:=h.2.2
 clear h
 have hl:(s.data.toList.drop k).length=s.size - k:=by rw[aN,fK]
 unfold P9 etx
 rw[hl]
 by_cases hv:(dQ (s.data.toList.drop k)).2.2=0
 ·obtain⟨v1,v2,v3,v4,v5⟩:=nZ hv
  rw[hl]at v2;rw[ay (by rw[hv];simp)];have iq:Hid (Calls prog 174 #[.pointer (some ⟨b,0,none⟩)] w fun e w'=>e=.returned (.tuple #[.int .u64 ((dQ (s.data.toList.drop k)).1:Int),.int .i64 0])∧fG w' b s (k+(dQ (s.data.toList.drop k)).2.1)∧w.grownBy w' (some b)):=by
   have:=HN.out;rw[hv]at this;exact this
  clear HN hv v5;have hdd:∀m:Nat,((s.data.toList.drop k).drop m)=s.data.toList.drop (k+m):=fun m=>by rw[cZ]
  rw[hdd];generalize(dQ (s.data.toList.drop k)).1=n at *;generalize(dQ (s.data.toList.drop k)).2.1=m at *;clear hl hdd;have hkm:k+m≤s.size:=by omega
  by_cases hn:s.size - k - m<n
  ·rw[aA hn]
   go_enter func233,ntmps233;go_wp2_with fail;refine iq.out.mono ?_;rintro e w1 ⟨rfl,hc1,hg1⟩;have gK:=ah hc1;have iU:=ah hg1;clear hc1 hg1;go_wp2_with fail;refine(Gm b s (k+m) (n:Int) w1 gK.out (by omega) (by omega)).mono ?_;rintro e w2 ⟨rfl,hb2⟩;have HC2:Hid (fG w2 b s (k+m)):=⟨gK.out.1.below hb2 gK.out.1.lt,gK.out.2⟩;have HG2:=ah (jB iU.out (oH hb2 (some b)) fun x e _=>e);clear hb2;go_wp2_with fail;go_ret2;exact⟨k+m,rfl,HC2.out,fun h=>by simp at h,HG2.out⟩
  rw[ay hn];have hex:s.extract (k+m) (k+m+(n:Int).toNat)=txt ((s.data.toList.drop (k+m)).take n):=by
   refine vX ?_;rw[ext_list];congr 1;omega
  have HEX:=ah hex;clear hex;go_enter func233,ntmps233;go_wp2_with fail;refine iq.out.mono ?_;rintro e w1 ⟨rfl,hc1,hg1⟩;have gK:=ah hc1;have iU:=ah hg1;clear hc1 hg1;go_wp2_with fail;refine(D6 b s (k+m) (n:Int) w1 gK.out (by omega) (by omega)).mono ?_;rintro e w2 ⟨rfl,hc2,hg2⟩;rw[HEX.out,Int.toNat_natCast]at *;have HC2:=ah hc2;have HG2:=ah (jB iU.out hg2 fun x e _=>e);clear hc2 hg2 HEX;go_wp2_with fail;go_ret2;exact⟨k+m+n,rfl,HC2.out,fun _=>by omega,HG2.out⟩
 ·have Am:=PZ hv
  rw[aA hv];have xZ:(((dQ (s.data.toList.drop k)).2.2:Int) != 0)=true:=by rw[aZ];omega
  generalize(dQ (s.data.toList.drop k)).2.2=g at *;clear hl Am;go_enter func233,ntmps233;go_wp2_with fail;refine HN.out.mono ?_;rintro e w1 ⟨rfl,hc1,hg1⟩;have gK:=ah hc1;have iU:=ah hg1;clear hc1 hg1;go_wp2_with fail;go_ret2;exact⟨_,rfl,gK.out,fun h=>aJ h hv,iU.out⟩
theorem Z7(s:ByteArray)(k:Nat):(etx (s.data.toList.drop k)).1.length≤s.size:=by
 unfold etx;split
 ·simp
 split
 ·simp
 rw[bD,aN,aN,fK];omega
def yu(w:World)(b:Nat)(s:ByteArray)(k:Nat)(e:Ending)(w':World):Prop :=
 ∃k':Nat,e=.returned (.tuple #[.agg #[.string (txt (jf dV (s.data.toList.drop k)).1.1),.string (txt (jf dV (s.data.toList.drop k)).1.2)],.int .i64 (jf dV (s.data.toList.drop k)).2.2])∧fG w' b s k'∧((jf dV (s.data.toList.drop k)).2.2=0→k'=k+(jf dV (s.data.toList.drop k)).2.1)∧w.grownBy w' (some b)
theorem zk(w:World)(r:Nat)(v0 v1:Value):dX (fun j=>j=r) w ((w.setCell ⟨r,0,none⟩ v0).setCell ⟨r,1,none⟩ v1) :=
 ((dX.refl (fun j=>j=r) w).put (p:=⟨r,0,none⟩) (fun _=>rfl) v0).put (p:=⟨r,1,none⟩) (fun _=>rfl) v1
theorem adt{w w1 w2:World}{b r:Nat}(hg:w.grownBy w1 (some b))(hr:w.heap.size≤r)(ht:dX (fun j=>j=r) w1 w2):w.grownBy w2 (some b) :=
 ⟨ht.os.trans hg.os,ht.tape.trans hg.tape,ht.output.trans hg.output,aI hg.size ht.size,fun k hk hne=>(ht.block k (aQ hk hg.size) (by omega)).trans (hg.block k hk hne)⟩
theorem agt(W0:World)(hT:Tabs W0)(b:Nat)(s:ByteArray)(k:Nat)(w:World)(h0:Below W0.heap.size W0 w)(zZ:W0.heap.size≤b)(h:fG w b s k) :
 Calls prog 217 #[.pointer (some ⟨b,0,none⟩)] w (yu w b s k):=by
 have hbl:=h.1.lt
 have hss:=h.2.2
 have hx:=dU.made w 132 #[.string ⟨#[]⟩,.string ⟨#[]⟩]
 have HX:=ah hx
 have hg0:=oH (ba (a:=w) b0 (.cells #[.string ⟨#[]⟩,.string ⟨#[]⟩] 132)) (some b)
 have HG0:=ah hg0
 have HT1:=ah (ZY b s k (w.alloc (.cells #[.string ⟨#[]⟩,.string ⟨#[]⟩] 132)) ⟨h.1.more _,h.2⟩)
 have H0:=ah h0
 have HT:=ah hT
 have hsz1:=Z7 s k
 clear hx hg0 h h0 hT
 generalize hX:jf dV (s.data.toList.drop k)=X
 have LZ:=ah hX
 have gB:Hid (∀(e:Ending) (k':Nat) (w1 w':World),e=.returned (.tuple #[.agg #[.string (txt X.1.1),.string (txt X.1.2)],.int .i64 X.2.2])→fG w1 b s k'→(X.2.2=0→k'=k+X.2.1)→w.grownBy w1 (some b)→dX (fun j=>j=w.heap.size) w1 w'→yu w b s k e w'):=fun e k' w1 w' he hc hk hg ht=>by
  unfold yu;rw[hX];exact⟨k',he,⟨hc.1.fE ht (by omega),hc.2⟩,hk,adt hg (au _) ht⟩
 unfold jf at hX
 clear hX
 have hX:=LZ.out
 unfold jf at hX
 clear LZ
 go_enter func217,ntmps217
 go_wp2_with fail
 refine HT1.out.mono ?_
 rintro e w1 ⟨k1,rfl,hc1,hk1,hg1⟩
 have gK:=ah hc1
 have hgw1:=jB HG0.out hg1 fun x e _=>e
 have iU:=ah hgw1
 have hx1:=HX.out.step hg1 (by intro e;injection e with e;omega)
 have lW:=ah hx1
 have c0:=hx1.cell 0
 have c1:=hx1.cell 1
 have f0:=hx1.free 0
 have f1:=hx1.free 1
 simp at c0 c1
 have pO:=hx1.lt
 clear hc1 hg1 hgw1 hx1 HT1
 by_cases he1:(etx (s.data.toList.drop k)).2.2=0
 ·rw[ay (by rw[he1];simp)]at hX
  obtain rfl:=hk1 he1;have hdd:(s.data.toList.drop k).drop (etx (s.data.toList.drop k)).2.1=s.data.toList.drop (k+(etx (s.data.toList.drop k)).2.1):=by rw[cZ]
  rw[hdd]at hX;have HT2:=ah (ZY b s (k+(etx (s.data.toList.drop k)).2.1) w1 gK.out);have hsz2:=Z7 s (k+(etx (s.data.toList.drop k)).2.1);rw[he1];clear hk1 hdd he1;unfold P9 at HT2;generalize(etx (s.data.toList.drop k)).1=K at *;generalize abb:k+(etx (s.data.toList.drop k)).2.1=k1 at *;have ad9:=ah abb;clear abb;generalize etx (s.data.toList.drop k1)=Y at *;clear c0 c1 f0 f1 pO;go_wp2_with fail;refine HT2.out.mono ?_;rintro e w2 ⟨k2,rfl,hc2,hk2,hg2⟩;have HC2:=ah hc2;have HG2:=ah (jB iU.out hg2 fun x e _=>e);have hx2:=lW.out.step hg2 (by intro e;injection e with e;omega);have kC:=ah hx2;have c0:=hx2.cell 0;have c1:=hx2.cell 1;have f0:=hx2.free 0;have f1:=hx2.free 1;simp at c0 c1;have pO:=hx2.lt;clear hc2 hg2 hx2 HT2 lW;by_cases he2:Y.2.2=0
  ·rw[ay (by rw[he2];simp)]at hX
   obtain rfl:=hk2 he2;rw[he2];have hbe:=dU.made w2 132 #[.string (txt K),.string (txt Y.1)];have jd:=ah hbe;have jw:=ah (Nk (txt K) (txt Y.1) (w2.alloc (.cells #[.string (txt K),.string (txt Y.1)] 132)) (by rw[gI];omega) (by rw[gI];omega) (HT.out.below (ba (bg H0.out HG2.out zZ) _)));rw[iD,iD]at jw;have HXB:=ah (kC.out.more (.cells #[.string (txt K),.string (txt Y.1)] 132));clear c0 c1 f0 f1 pO hbe kC hk2 he2;by_cases hce:dV K Y.1=0
   ·rw[ay (by simpa using hce)]at hX
    subst hX;have HE:Hid (∀(w3 w':World),Below (w2.alloc (.cells #[.string (txt K),.string (txt Y.1)] 132)).heap.size (w2.alloc (.cells #[.string (txt K),.string (txt Y.1)] 132)) w3→dX (fun j=>j=w.heap.size) w3 w'→yu w b s k (.returned (.tuple #[.agg #[.string (txt K),.string (txt Y.1)],.int .i64 0])) w'):=fun w3 w' hb3 ht=>by
     have hb:=bb (ba (a:=w2) b0 (.cells #[.string (txt K),.string (txt Y.1)] 132)) hb3;exact gB.out _ (k1+Y.2.1) w3 w' rfl ⟨HC2.out.1.below hb HC2.out.1.lt,HC2.out.2⟩ (fun _=>by have:=ad9.out;simp only;omega) (jB HG2.out (oH hb (some b)) fun x e _=>e) ht
    rw[hce]at jw;clear hce gB;go_wp2_with fail;refine jw.out.mono ?_;rintro e w3 ⟨rfl,hb3⟩;have Qk:Hid (∀w',dX (fun j=>j=w.heap.size) w3 w'→yu w b s k (.returned (.tuple #[.agg #[.string (txt K),.string (txt Y.1)],.int .i64 0])) w'):=fun w' ht=>HE.out w3 w' hb3 ht;have hx3:=HXB.out.below hb3 HXB.out.lt;have hy3:=jd.out.below hb3 jd.out.lt;have e0:=hy3.cell 0;have e1:=hy3.cell 1;simp at e0 e1;have c0:=hx3.cell 0;have c1:=hx3.cell 1;have f0:=hx3.free 0;have f1:=hx3.free 1;simp at c0 c1;have pO:=hx3.lt;clear hx3 hy3 hb3 HE;go_wp2_with fail;refine bodyPost_ret (v:=.tuple #[.agg #[.string (txt K),.string (txt Y.1)],.int .i64 0]) (by simp[results,results217,go_sem,c0,c1];try rfl) rfl (Qk.out _ (zk _ _ _ _))
   rw[aA (by simpa using hce)]at hX;subst hX;have HE:Hid (∀(w3 w':World),Below (w2.alloc (.cells #[.string (txt K),.string (txt Y.1)] 132)).heap.size (w2.alloc (.cells #[.string (txt K),.string (txt Y.1)] 132)) w3→dX (fun j=>j=w.heap.size) w3 w'→yu w b s k (.returned (.tuple #[.agg #[.string ByteArray.empty,.string ByteArray.empty],.int .i64 (dV K Y.1)])) w'):=fun w3 w' hb3 ht=>by
    have hb:=bb (ba (a:=w2) b0 (.cells #[.string (txt K),.string (txt Y.1)] 132)) hb3;exact gB.out _ (k1+Y.2.1) w3 w' rfl ⟨HC2.out.1.below hb HC2.out.1.lt,HC2.out.2⟩ (fun h=>aJ h hce) (jB HG2.out (oH hb (some b)) fun x e _=>e) ht
   have aor:(dV K Y.1 != 0)=true:=(by rw[aZ];exact hce);generalize dV K Y.1=C at *;clear hce gB;go_wp2_with fail;refine jw.out.mono ?_;rintro e w3 ⟨rfl,hb3⟩;have Qk:Hid (∀w',dX (fun j=>j=w.heap.size) w3 w'→yu w b s k (.returned (.tuple #[.agg #[.string ByteArray.empty,.string ByteArray.empty],.int .i64 C])) w'):=fun w' ht=>HE.out w3 w' hb3 ht;have hx3:=HXB.out.below hb3 HXB.out.lt;have c0:=hx3.cell 0;have c1:=hx3.cell 1;have f0:=hx3.free 0;have f1:=hx3.free 1;simp at c0 c1;have pO:=hx3.lt;clear hx3 hb3 HE;go_wp2_with fail;refine bodyPost_ret (v:=.tuple #[.agg #[.string ByteArray.empty,.string ByteArray.empty],.int .i64 C]) (by simp[results,results217,go_sem,c0,c1];try rfl) rfl (Qk.out _ (zk _ _ _ _))
  rw[aA he2]at hX;subst hX;have HE:Hid (∀w',dX (fun j=>j=w.heap.size) w2 w'→yu w b s k (.returned (.tuple #[.agg #[.string ByteArray.empty,.string ByteArray.empty],.int .i64 (Y.2.2:Int)])) w'):=fun w' ht=>gB.out _ k2 w2 w' rfl HC2.out (fun h=>by simp at h;exact aJ h he2) HG2.out ht;have hte:((Y.2.2:Int) != 0)=true:=by rw[aZ];omega
  generalize Y.2.2=G at *;clear he2 hk2 gB;go_wp2_with fail;refine bodyPost_ret (v:=.tuple #[.agg #[.string ByteArray.empty,.string ByteArray.empty],.int .i64 (G:Int)]) (by simp[results,results217,go_sem,c0,c1];try rfl) rfl (HE.out _ (zk _ _ _ _))
 ·rw[aA he1]at hX
  subst hX;have HE:Hid (∀w',dX (fun j=>j=w.heap.size) w1 w'→yu w b s k (.returned (.tuple #[.agg #[.string ByteArray.empty,.string ByteArray.empty],.int .i64 ((etx (s.data.toList.drop k)).2.2:Int)])) w'):=fun w' ht=>gB.out _ k1 w1 w' rfl gK.out (fun h=>by simp at h;exact aJ h he1) iU.out ht;have hte:((((etx (s.data.toList.drop k)).2.2:Nat):Int) != 0)=true:=by rw[aZ];omega
  generalize(etx (s.data.toList.drop k)).2.2=G at *;clear he1 hk1 gB;go_wp2_with fail;refine bodyPost_ret (v:=.tuple #[.agg #[.string ByteArray.empty,.string ByteArray.empty],.int .i64 (G:Int)]) (by simp[results,results217,go_sem,c0,c1];try rfl) rfl (HE.out _ (zk _ _ _ _))
