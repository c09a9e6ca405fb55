/-
  Parts of the proof. Conditions: as each names.
-/
import Derived.Test.YtgidfnhfgiehjaaGreatDoorYac
import Derived.Deep.OwnRows
import Derived.Deep.AppendLies
import Derived.Deep.DrawnRows
section
namespace Go.PM
open Go.RowKit
structure One where
 deep:Nat
 tag:Nat
 ty:Int
 num:Nat
 text:ByteArray
def One.ok(x:One):Prop:=x.deep<256∧In64 x.tag∧(-128≤x.ty∧x.ty≤127)∧In64 x.num∧x.text.size≤9223372036854775807
def IY(w:World)(b o:Nat)(l:List One):Prop:=∀j x,l[j]?=some x→
 w.cell? ⟨b,o+j*5,none⟩=some (.int .u8 (x.deep:Int))∧w.cell? ⟨b,o+j*5+1,none⟩=some (.int .u64 (x.tag:Int))∧w.cell? ⟨b,o+j*5+2,none⟩=some (.int .i8 x.ty)∧
 w.cell? ⟨b,o+j*5+3,none⟩=some (.int .u64 (x.num:Int))∧w.cell? ⟨b,o+j*5+4,none⟩=some (.string x.text)
def nD(H:Nat)(w:World)(A:Option Addr)(l:List One):Prop:=l=[]∨∃b o,A=some ⟨b,o,none⟩∧b<H∧H≤w.heap.size∧IY w b o l
theorem IY.below{w w':World}{b o:Nat}{l:List One}(h:IY w b o l)(hb:Below w.heap.size w w')(hlt:b<w.heap.size):IY w' b o l:=fun j x hj=>by
 have e:∀k,w'.cell? ⟨b,k,none⟩=w.cell? ⟨b,k,none⟩:=fun k=>World.cell?_of_block (a:=⟨b,k,none⟩) (hb.block b hlt);obtain⟨h1,h2,h3,h4,h5⟩:=h j x hj;exact⟨(e _).trans h1,(e _).trans h2,(e _).trans h3,(e _).trans h4,(e _).trans h5⟩
theorem nD.below{H:Nat}{w w':World}{A:Option Addr}{l:List One}(h:nD H w A l)(hb:Below w.heap.size w w'):nD H w' A l :=
 h.imp id fun⟨b,o,hA,hlt,hH,h⟩=>⟨b,o,hA,hlt,aI hH hb.size,h.below hb (aQ hlt hH)⟩
theorem nD.RG{H:Nat}{w w':World}{A:Option Addr}{l:List One}(h:nD H w A l)(hb:Below H w w'):nD H w' A l :=
 h.imp id fun⟨b,o,hA,hlt,hH,h⟩=>⟨b,o,hA,hlt,aI hH hb.size,fun j x hj=>by
  have e:∀k,w'.cell? ⟨b,k,none⟩=w.cell? ⟨b,k,none⟩:=fun k=>World.cell?_of_block (a:=⟨b,k,none⟩) (hb.block b hlt);obtain⟨h1,h2,h3,h4,h5⟩:=h j x hj;exact⟨(e _).trans h1,(e _).trans h2,(e _).trans h3,(e _).trans h4,(e _).trans h5⟩⟩
def few(l:List One):Bool:=l.all (fun x=>decide (x.text.size≤300))&&decide (l.length≤60)
end Go.PM
namespace Go.Proofs.YtgidfnhfgiehjaaGreatDoor
open Go.RowKit Go.PM
set_option maxRecDepth 100000
set_option maxHeartbeats 1000000
theorem ag8(H:Nat)(A:Option Addr)(cap:Nat)(l:List One)(w:World)(hr:nD H w A l)(hok:∀x∈l,x.ok)(hl:l.length≤9223372036854775807) :
 Calls Tryz.prog 33 #[.slice A l.length cap] w (aj w (.bool (few l))):=by
 generalize hF:few l=F
 have HF:=ah hF
 have lT:=ah hok
 have HR:=ah hr
 clear hF hok hr
 go_enter Tryz.func33,Tryz.ntmps33
 go_wp2
 go_loopw [7] (fun kk wr=>∃k:Nat,k≤l.length∧kk=.int .i64 (k:Int)∧Hid (∀j x,j<k→l[j]?=some x→x.text.size≤300)∧Below w.heap.size w wr) (fun kk _=>l.length - (intOf kk).toNat)
 case atStart=>exact⟨0,by omega,rfl,fun j x h=>by omega,b0⟩
 case round=>
  obtain⟨k,hk,rfl,hle,hbel⟩:=hrel;have HB:=ah hbel;by_cases hlt:k<l.length
  ·rcases HR.out.below hbel with h0|⟨b,o,rfl,hbl,BI,hat⟩
   ·subst h0;simp at hlt
   obtain⟨c0,c1,c2,c3,c4⟩:=hat k l[k] (aP hlt);obtain⟨o1,o2,o3,o4,o5⟩:=lT.out l[k] (aS hlt);have HX:Hid (l[k]?=some l[k]):=aP hlt;generalize hx:l[k]=x at *;have hx':=ah hx;obtain⟨deep,tag,ty,num,text⟩:=x;simp only at c0 c1 c2 c3 c4 o1 o2 o3 o4 o5;clear hx hbel hat o2 o4;by_cases hbig:300<text.size
   ·have hf:F=false:=by
     rw[← HF.out];unfold few;rw[Bool.and_eq_false_iff]
     left
     rw[List.all_eq_false];exact⟨_,hx'.out▸aS hlt,by simp;exact hbig⟩
    subst hf;go_wp2;go_ret;exact⟨rfl,ba HB.out _⟩
   have kP:Hid (∀j x,j<k+1→l[j]?=some x→x.text.size≤300):=fun j y hj hy=>by
    by_cases e:j=k
    ·subst e
     rw[HX.out]at hy;injection hy with hy;subst hy;exact Nat.le_of_not_lt hbig
    exact hle.out j y (by omega) hy
   go_wp2;go_roundw
   case rel=>exact⟨k+1,by omega,by go_num,kP,ba HB.out _⟩
   case measure=>simp[intOf];omega
  obtain rfl:k=l.length:=by omega
  have hf:F=decide (l.length≤60):=by
   rw[← HF.out];unfold few;have:l.all (fun x=>decide (x.text.size≤300))=true:=by
    rw[List.all_eq_true];intro x hx;obtain⟨j,hj,rfl⟩:=List.getElem_of_mem hx;simpa using hle.out j _ hj (aP hj)
   rw[this,Bool.true_and]
  clear hbel;by_cases h60:l.length≤60
  ·rw[bH h60]at hf
   subst hf;have hd:decide ((l.length:Int)≤60)=true:=(by simp;omega);go_wp2;go_ret;exact⟨rfl,HB.out⟩
  rw[aO h60]at hf;subst hf;have hd:decide ((l.length:Int)≤60)=false:=by simp;omega
  go_wp2;go_ret;exact⟨rfl,HB.out⟩
end Go.Proofs.YtgidfnhfgiehjaaGreatDoor
end
namespace Go.Proofs.YtgidfnhfgiehjaaGreatDoor
open Go.PM Go.RowKit Go.Proofs.Tryz
set_option maxRecDepth 100000
set_option maxHeartbeats 4000000
attribute [local go_sem ↓] Go.wp_at_zero Go.wp_at_succ
def sH(t:Nat)(y:Int)(n:Nat)(s:ByteArray):Prop:=In64 t∧(-128≤y∧y≤127)∧In64 n∧s.size≤300
def KT(H:Nat)(w:World)(l:List One)(deep:Nat)(e:Ending)(w':World):Prop :=
 ∃(f:Fs) (A:Option Addr) (c:Nat) (A':Option Addr) (c':Nat),e=.returned (.tuple #[.slice A f.len c,.slice A' (l.length - f.count) c'])∧f.count≤l.length∧(deep=0→f.count=l.length)∧f.All sH∧
  eF w' (w.heap.size≤·) (.slice A f.len c) f∧nD H w' A' (l.drop f.count)∧l.length - f.count≤c'∧c'≤9223372036854775807∧Below w.heap.size w w'
def Qa(H:Nat)(w:World)(l:List One)(sl out:Value)(wr:World):Prop :=
 ∃(f:Fs) (A':Option Addr) (c':Nat) (xs:List Value),sl=.slice A' (l.length - f.count) c'∧f.count≤l.length∧f.All sH∧wr.ownsRow w.heap.size 47 5 out f.len xs∧
  Cls wr (fun k=>w.heap.size≤k∧out.ownBlock≠some k) xs f∧nD H wr A' (l.drop f.count)∧l.length - f.count≤c'∧c'≤9223372036854775807∧Below w.heap.size w wr
theorem NG{H:Nat}{w wq w3:World}{l:List One}{f fi:Fs}{xs:List Value}{out vi:Value}{xt xn g cap3 c2:Nat}{xy:Int}{xs':ByteArray}{A2:Option Addr}(hHw:H≤w.heap.size)(hfo:f.All sH)
 (hcls:Cls wq (fun k=>w.heap.size≤k∧out.ownBlock≠some k) xs f) (hout:∀k,out.ownBlock=some k→w.heap.size≤k) (hbel:Below w.heap.size w wq)
 (hown3:w3.ownsRow w.heap.size 47 5 (.slice (some ⟨g,0,none⟩) (f.len+1) cap3) (f.len+1) (xs++[.int .u64 (xt:Int),.int .i64 xy,.int .u64 (xn:Int),.string xs',vi]))
 (hg3:wq.grownBy w3 out.ownBlock) (hat:out.ownBlock=some g∨g=wq.heap.size) (hi:eF wq (fun k=>w.heap.size≤k∧out.ownBlock≠some k) vi fi) (hok:sH xt xy xn xs') (hfi:fi.All sH)
 (hcnt:f.count+1+fi.count≤l.length) (hrd:nD H wq A2 (l.drop (f.count+1+fi.count))) (hc2:l.length - (f.count+1+fi.count)≤c2) (hcc:c2≤9223372036854775807) :
 Qa H w l (.slice A2 (l.length - (f.count+1+fi.count)) c2) (.slice (some ⟨g,0,none⟩) (f.len+1) cap3) w3:=by
 have hcnt2:(f.app (.cons xt xy xn xs' fi .nil)).count=f.count+1+fi.count:=by rw[Fs.Bq];simp[Fs.count];omega
 have hlen2:(f.app (.cons xt xy xn xs' fi .nil)).len=f.len+1:=by rw[Fs.DU];simp[Fs.len]
 have hw3:Below w.heap.size w w3:=hbel.trans (dX.grown (S:=fun k=>out.ownBlock=some k) hg3 (fun k hk _=>hk) |>.iI hbel.size fun k hk e=>by have:=hout k e;omega)
 refine⟨f.app (.cons xt xy xn xs' fi .nil),A2,c2,xs++[.int .u64 (xt:Int),.int .i64 xy,.int .u64 (xn:Int),.string xs',vi],by rw[hcnt2],by rw[hcnt2];exact hcnt,hfo.app ⟨hok,hfi,trivial⟩,by rw[hlen2];exact hown3,?_,?_,by rw[hcnt2];exact hc2,hcc,hw3⟩
 ·refine Cls.grow (v:=out) (hcls.app (?_:Cls _ _ _ (.cons xt xy xn xs' fi .nil))) hg3 hat
  exact⟨rfl,rfl,rfl,rfl,hi,trivial⟩
 ·rw[hcnt2]
  exact hrd.RG (dX.grown (S:=fun k=>out.ownBlock=some k) hg3 (fun k hk _=>hk) |>.iI (aI hHw hbel.size) fun k hk e=>by have:=hout k e;omega)
theorem Kv{w:World}{base:Nat}{e:TypeId}{v:Value}{xs:List Value}{f:Fs}{J:Nat→Prop}(h:w.ownsRow base e 5 v f.len xs)(hc:Cls w J xs f)(hJ:∀k,J k→base≤k):∃A c,v=.slice A f.len c∧eF w (base≤·) (.slice A f.len c) f:=by
 rcases h.2 with⟨rfl,h0⟩|⟨g,cap,cur,rfl,hb,hg,hn,_⟩
 ·have:=Fs.jr h0
  subst this;exact⟨none,0,rfl,eF.nil _ _ _ _⟩
 refine⟨some ⟨g,0,none⟩,cap,rfl,some ⟨g,0,none⟩,cap,rfl,hn,.inr ⟨g,0,rfl,hb,(bY.1 hg).1,(hc.imp hJ).at_ fun j u hj=>?_⟩⟩;have:=h.cells (g:=g) rfl j u hj
 rwa [rV,← aX j]at this
theorem aaH{H:Nat}{w wr:World}{l:List One}{deep:Nat}{f:Fs}{A':Option Addr}{c':Nat}{xs:List Value}{out:Value}(hfc:f.count≤l.length)(hd:deep=0→f.count=l.length)(hfo:f.All sH)
 (hown:wr.ownsRow w.heap.size 47 5 out f.len xs) (hcls:Cls wr (fun k=>w.heap.size≤k∧out.ownBlock≠some k) xs f) (hrd:nD H wr A' (l.drop f.count)) (hlc:l.length - f.count≤c') (hcc:c'≤9223372036854775807)
 (hbel:Below w.heap.size w wr):KT H w l deep (.returned (.tuple #[out,.slice A' (l.length - f.count) c'])) wr:=by
 obtain⟨A,c,rfl,h⟩:=Kv hown hcls fun k hk=>hk.1
 exact⟨f,A,c,A',c',rfl,hfc,hd,hfo,h,hrd,hlc,hcc,hbel⟩
theorem EH:(prog.info? 47).map (fun i=>(i.zero,i.size,i.bytes))=some (some (.agg #[.int .u64 0,.int .i64 0,.int .u64 0,.string ByteArray.empty,.slice none 0 0]),5,64):=by kernel_rfl
theorem ahu(H N:Nat):∀(A:Option Addr) (cap:Nat) (l:List One) (deep:Nat) (w:World),l.length≤N→H≤w.heap.size→nD H w A l→(∀x∈l,x.ok∧x.text.size≤300)→l.length≤60→l.length≤cap→cap≤9223372036854775807→deep<256→
 Calls prog 77 #[.slice A l.length cap,.int .u8 (deep:Int)] w (KT H w l deep):=by
 induction N with
 |zero=>
   intro A cap l deep w hN hHw hr hok h60 hc hcm hd;have:l=[]:=aV (by omega);subst this;go_enter func77,ntmps77;go_wp2_with fail;go_loopw [0,6] (fun sl out wr=>sl=.slice A 0 cap∧out=.slice none 0 0∧wr=w) (fun _ _ _=>0)
   case atStart=>exact⟨rfl,rfl,rfl⟩
   case round=>
    obtain⟨rfl,rfl,rfl⟩:=hrel;go_wp2_with fail;go_ret2;exact⟨.nil,none,0,A,cap,rfl,by simp[Fs.count],fun _=>rfl,trivial,eF.nil _ _ _ _,.inl rfl,by omega,hcm,b0⟩
 |succ N ih=>
   intro A cap l deep w hN hHw hr hok h60 hc hcm hd;have lT:=ah hok;have H0:Hid (Qa H w l (.slice A l.length cap) (.slice none 0 0) w):=⟨.nil,A,cap,[],rfl,by simp[Fs.count],trivial,World.ownsRow_nil _ _ _ _,trivial,hr,hc,hcm,b0⟩;have IH:=ah ih;clear hr hok ih;obtain⟨i0,hi0,hz0,hz1,hz2⟩:=info_parts EH;go_enter func77,ntmps77;go_wp2_with fail;go_loopw [0,6] (fun sl out wr=>Qa H w l sl out wr) (fun sl _ _=>match sl with|.slice _ n _=>n|_=>0)
   case atStart=>exact H0.out
   case round=>
    obtain⟨f,A',c',xs,rfl,hfc,hfo,hown,hcls,hrd,hlc,hcc,hbel⟩:=hrel;by_cases hz:l.length - f.count=0
    ·have HE:=ah (aaH (deep:=deep) hfc (fun _=>by omega) hfo hown hcls hrd hlc hcc hbel)
     clear hown hcls hrd hbel hfo H0;rw[hz]at HE;rw[hz];go_wp2_with fail;go_ret2;exact HE.out
    have hpos:0<l.length - f.count:=(by omega);have hpi:(0:Int)<((l.length - f.count:Nat):Int):=(by omega);cases hl:l.drop f.count with
    |nil=>
      have:=congrArg List.length hl;rw[aN]at this;simp at this;omega
    |cons x r=>
      rw[hl]at hrd;rcases hrd with h0|⟨b,o,rfl,hbl,BI,hat⟩
      ·cases h0
      obtain⟨c0,c1,c2,c3,c4⟩:=hat 0 x rfl;simp only[Nat.zero_mul,Nat.add_zero]at c0 c1 c2 c3 c4;have hmem:x∈l:=List.mem_of_mem_drop (by rw[hl];exact dw);obtain⟨⟨o1,o2,o3,o4,o5⟩,o6⟩:=lT.out x hmem;by_cases hdp:x.deep<deep
      ·have HE:=ah (aaH (deep:=deep) hfc (fun e=>by omega) hfo hown hcls (show nD H wr (some ⟨b,o,none⟩) (l.drop f.count)by rw[hl];exact .inr ⟨b,o,rfl,hbl,BI,hat⟩) hlc hcc hbel)
       clear hown hcls hat hbel hfo H0 hl hmem o2 o4;generalize l.length - f.count=M at *;go_wp2_with fail;go_ret2;exact HE.out
      have hge:(deep:Int)≤(x.deep:Int):=(by omega);have HOWN:=ah hown;have sK:=ah hcls;have HAT:=ah hat
      have eX:=ah hbel;have HL:=ah hl;have aod:=ah hmem;have rH:=ah hfo;have O2:=ah (And.intro o2 o4);clear hown hcls hat hbel hl hmem hfo o2 o4 H0;obtain⟨xd,xt,xy,xn,xs'⟩:=x;simp only at c0 c1 c2 c3 c4 o1 o3 o5 o6 hdp hge;generalize hM:l.length - f.count=M at *;by_cases ahL:xd=255
      ·have heq:((xd:Int)==255)=true:=by rw[bF];omega
       clear ahL;have hrl:r.length+1=M:=by
        have:=congrArg List.length HL.out;rw[aN,hM]at this;simp at this;omega
       have GY:r=l.drop (f.count+1):=(by rw[← cZ,HL.out];rfl);have hb3:=ba (ba (ba (a:=wr) b0 (.cells #[.int .u8 (xd:Int),.int .u64 (xt:Int),.int .i8 xy,.int .u64 (xn:Int),.string xs'] 138)) (.cells #[.int .u64 (xt:Int),.int .i64 xy,.int .u64 (xn:Int),.string xs',.slice none 0 0] 47)) (.cells #[.int .u64 (xt:Int),.int .i64 xy,.int .u64 (xn:Int),.string xs',.slice none 0 0] 47);have hnb:dU (((wr.alloc (.cells #[.int .u8 (xd:Int),.int .u64 (xt:Int),.int .i8 xy,.int .u64 (xn:Int),.string xs'] 138)).alloc (.cells #[.int .u64 (xt:Int),.int .i64 xy,.int .u64 (xn:Int),.string xs',.slice none 0 0] 47)).alloc (.cells #[.int .u64 (xt:Int),.int .i64 xy,.int .u64 (xn:Int),.string xs',.slice none 0 0] 47)) (wr.heap.size+2) 47 #[.int .u64 (xt:Int),.int .i64 xy,.int .u64 (xn:Int),.string xs',.slice none 0 0]:=by
        have:=dU.made ((wr.alloc (.cells #[.int .u8 (xd:Int),.int .u64 (xt:Int),.int .i8 xy,.int .u64 (xn:Int),.string xs'] 138)).alloc (.cells #[.int .u64 (xt:Int),.int .i64 xy,.int .u64 (xn:Int),.string xs',.slice none 0 0] 47)) 47 #[.int .u64 (xt:Int),.int .i64 xy,.int .u64 (xn:Int),.string xs',.slice none 0 0];simpa using this
       have yC:=ah hnb;have HB3:=ah hb3;have rP:=ah (own_below HOWN.out hb3);have mZ:=ah (And.intro hrl GY);have hwz:=eX.out.size;have aa3:=aI f.kH hfc;have hMi:(1:Int)≤(M:Int):=(by omega);have hMc:(M:Int)≤(c':Int):=(by omega);clear hnb hb3 hrl GY;by_cases hc1:c'=1
       ·subst hc1
        obtain rfl:M=1:=(by omega);go_wp2_with(at_builtin;go_must(refine wpList_append_lies _ rfl _ _ 33 rfl w.heap.size 47 i0 _ 5 64 underlying33 hi0 hz0 hz1 hz2 rfl (by decide) u6 f.len xs rfl rP.out ⟨wr.heap.size+2,0,none⟩ 1 1 [.int .u64 (xt:Int),.int .i64 xy,.int .u64 (xn:Int),.string xs',.slice none 0 0] rfl rfl yC.out.news (by simp[Value.oneCell']) (by decide) (by unfold maxLen;omega) (by omega) (by simp;omega) (wr.heap.size+3) (by simp) ?_);intro g cap3 w3 hown3 hg3 iF hlt3);have hrl:=mZ.out.1;have hcq:=((sK.out.below HB3.out)).imp (J:=fun k=>w.heap.size≤k∧u6.ownBlock≠some k) fun k hk=>hk;have hbq:=eX.out.trans (HB3.out.mono hwz);have hrq:nD H wr (some ⟨b,o,none⟩) (l.drop (f.count+1+Fs.nil.count)):=by
         show nD H wr _ (l.drop (f.count+1));rw[← mZ.out.2];by_cases hr0:r=[]
         ·exact .inl hr0
         exact .inr ⟨b,o+5,by first|rfl|exact aJ (aV (by omega)) hr0,hbl,BI,fun j y hj=>by
          have:=HAT.out (j+1) y hj;rw[show o+(j+1)*5=o+5+j*5 by omega]at this;exact this⟩
        have hfin:=NG (fi:=.nil) hHw rH.out hcq (fun k hk=>(HOWN.out.lt k hk).1) hbq hown3 hg3 (iF.imp id fun h=>by rw[h];simp) (eF.nil _ _ _ _) ⟨O2.out.1,o3,O2.out.2,o6⟩ trivial (by simp only[Fs.count];omega) (hrq.below HB3.out) (c2:=1 - 1) (by simp only[Fs.count];omega) (by omega);rw[show l.length - (f.count+1+Fs.nil.count)=1 - 1 by simp only[Fs.count];omega]at hfin;refine⟨hfin,?_⟩;show 1 - 1<1;omega
       go_wp2_with(at_builtin;go_must(refine wpList_append_lies _ rfl _ _ 33 rfl w.heap.size 47 i0 _ 5 64 underlying33 hi0 hz0 hz1 hz2 rfl (by decide) u6 f.len xs rfl rP.out ⟨wr.heap.size+2,0,none⟩ 1 1 [.int .u64 (xt:Int),.int .i64 xy,.int .u64 (xn:Int),.string xs',.slice none 0 0] rfl rfl yC.out.news (by simp[Value.oneCell']) (by decide) (by unfold maxLen;omega) (by omega) (by simp;omega) (wr.heap.size+3) (by simp) ?_);intro g cap3 w3 hown3 hg3 iF hlt3);have hrl:=mZ.out.1;have hcq:=((sK.out.below HB3.out)).imp (J:=fun k=>w.heap.size≤k∧u6.ownBlock≠some k) fun k hk=>hk;have hbq:=eX.out.trans (HB3.out.mono hwz);have hrq:nD H wr (some ⟨b,o+5,none⟩) (l.drop (f.count+1+Fs.nil.count)):=by
        show nD H wr _ (l.drop (f.count+1));rw[← mZ.out.2];by_cases hr0:r=[]
        ·exact .inl hr0
        exact .inr ⟨b,o+5,by first|rfl|exact aJ (aV (by omega)) hr0,hbl,BI,fun j y hj=>by
         have:=HAT.out (j+1) y hj;rw[show o+(j+1)*5=o+5+j*5 by omega]at this;exact this⟩
       have hfin:=NG (fi:=.nil) hHw rH.out hcq (fun k hk=>(HOWN.out.lt k hk).1) hbq hown3 hg3 (iF.imp id fun h=>by rw[h];simp) (eF.nil _ _ _ _) ⟨O2.out.1,o3,O2.out.2,o6⟩ trivial (by simp only[Fs.count];omega) (hrq.below HB3.out) (c2:=c' - 1) (by simp only[Fs.count];omega) (by omega);rw[show l.length - (f.count+1+Fs.nil.count)=M - 1 by simp only[Fs.count];omega]at hfin;refine⟨hfin,?_⟩;show M - 1<M;omega
      have aok:xd<255:=(by omega);have hne:((xd:Int)==255)=false:=(by rw[aB];omega);have hrl:r.length+1=M:=by
       have:=congrArg List.length HL.out;rw[aN,hM]at this;simp at this;omega
      have hb7:=dU.made wr 138 #[.int .u8 (xd:Int),.int .u64 (xt:Int),.int .i8 xy,.int .u64 (xn:Int),.string xs'];have aaY:=ba (a:=wr) b0 (.cells #[.int .u8 (xd:Int),.int .u64 (xt:Int),.int .i8 xy,.int .u64 (xn:Int),.string xs'] 138);have abE:(wr.alloc (.cells #[.int .u8 (xd:Int),.int .u64 (xt:Int),.int .i8 xy,.int .u64 (xn:Int),.string xs'] 138)).heap.size=wr.heap.size+1:=(by simp);have hb8:=dU.made (wr.alloc (.cells #[.int .u8 (xd:Int),.int .u64 (xt:Int),.int .i8 xy,.int .u64 (xn:Int),.string xs'] 138)) 47 #[.int .u64 (xt:Int),.int .i64 xy,.int .u64 (xn:Int),.string xs',.slice none 0 0];have aaZ:=ba aaY (.cells #[.int .u64 (xt:Int),.int .i64 xy,.int .u64 (xn:Int),.string xs',.slice none 0 0] 47);have aaU:=hb7.more (.cells #[.int .u64 (xt:Int),.int .i64 xy,.int .u64 (xn:Int),.string xs',.slice none 0 0] 47);rw[abE]at hb8;have iV:=ah aaU;have kN:=ah hb8
      have lq:=ah aaZ;clear hb7 aaU hb8 aaY aaZ abE;have mZ:=ah hrl;have hMi:(1:Int)≤(M:Int):=(by omega);have hMc:(M:Int)≤(c':Int):=(by omega);clear hrl;by_cases hc1:c'=1
      ·subst hc1
       obtain rfl:M=1:=(by omega);go_wp2_with fail;refine Ws fun W hW=>?_;rw[← hW]at iV kN lq;clear hW;have hbW:=lq.out;have HC:Hid (∀x:World,Below W.heap.size W x→Calls prog 77 #[.slice (some ⟨b,o,none⟩) 0 0,.int .u8 ((xd:Int)+1)] x (KT H x r (xd+1))):=fun x hx=>by
        have hr0:r=[]:=aV (by have:=mZ.out;omega);subst hr0;exact IH.out (some ⟨b,o,none⟩) 0 [] (xd+1) x (by simp) (aI (aI BI hbW.size) hx.size) (.inl rfl) (by simp) (by simp) (by simp) (by omega) (by omega)
       have e7:=iV.out.cell 0;simp at e7;have hl7:=iV.out.lt;have GU:=kN.out.lt;have hwr:IntKind.u8.wrap ((xd:Int)+1)=(xd:Int)+1:=(by simp[IntKind.wrap,IntKind.signed,IntKind.bits];omega);clear hbW
       go_region_held3 (fun w'=>w'.cell? ⟨wr.heap.size,0,none⟩=some (.int .u8 (xd:Int))) (go_keep)
        ((go_at_call 77;refine(HC.out _ (bd b0)).mono ?_;rintro e' W1 ⟨fi,Ai,ci,A2,c2,rfl,hi1,hi2,hi3,hi4,hi5,Ep,JI,JH⟩;have hbW1:Below W.heap.size W W1:=bb (bd b0) JH;have ru:=kN.out.below hbW1 kN.out.lt;have Si:=(iV.out.below hbW1 iV.out.lt).cell 0;have Sj:=ru.cell 0;have Sl:=ru.cell 1;have Sm:=ru.cell 2;have Sr:=ru.cell 3;have e8:=ru.cell 4;have f8:=ru.free 4;simp at Si Sj Sl Sm Sr e8;have HI:=ah (And.intro hi1 (And.intro hi3 (And.intro hi4 (And.intro hi5 (And.intro Ep (And.intro JI hbW1))))));have ad2:=ah ru;clear hi1 hi2 hi3 hi4 hi5 Ep JH JI hbW1 ru))
       have hsz1:=HI.out.2.2.2.2.2.2.size;have hwz:=eX.out.size;have GK:=lq.out.size;have hown1:=tK (S:=fun k=>k=wr.heap.size+1) (own_below (own_below HOWN.out lq.out) HI.out.2.2.2.2.2.2) ((dX.refl (fun k=>k=wr.heap.size+1) W1).put (p:=⟨wr.heap.size+1,4,none⟩) (fun _=>rfl) (.slice Ai fi.len ci)) fun g hg e=>(by have:=(HOWN.out.lt g hg).2;omega);have hnb:dU ((W1.setCell ⟨wr.heap.size+1,4,none⟩ (.slice Ai fi.len ci)).alloc (.cells #[.int .u64 (xt:Int),.int .i64 xy,.int .u64 (xn:Int),.string xs',.slice Ai fi.len ci] 47)) W1.heap.size 47 #[.int .u64 (xt:Int),.int .i64 xy,.int .u64 (xn:Int),.string xs',.slice Ai fi.len ci]:=by
        have:=dU.made (W1.setCell ⟨wr.heap.size+1,4,none⟩ (.slice Ai fi.len ci)) 47 #[.int .u64 (xt:Int),.int .i64 xy,.int .u64 (xn:Int),.string xs',.slice Ai fi.len ci]
        rwa [show(W1.setCell ⟨wr.heap.size+1,4,none⟩ (.slice Ai fi.len ci)).heap.size=W1.heap.size by simp[World.setCell]]at this
       have QH:=ah hown1;have yC:=ah hnb;have aa3:=aI f.kH hfc;clear hown1 hnb;go_wp2_with(at_builtin;go_must(refine wpList_append_lies _ rfl _ _ 33 rfl w.heap.size 47 i0 _ 5 64 underlying33 hi0 hz0 hz1 hz2 rfl (by decide) u6 f.len xs rfl (QH.out.alloc _) ⟨W1.heap.size,0,none⟩ 1 1 [.int .u64 (xt:Int),.int .i64 xy,.int .u64 (xn:Int),.string xs',.slice Ai fi.len ci] rfl rfl yC.out.news (by simp[Value.oneCell']) (by decide) (by unfold maxLen;omega) (by omega) (by simp[World.setCell];omega) (W1.heap.size+1) (by simp[World.setCell]) ?_);intro g cap3 w3 hown3 hg3 iF hlt3);have UC:=mZ.out;obtain⟨k1,k3,k4,k5,k6,k8,kb⟩:=HI.out;have hbq:Below w.heap.size w ((W1.setCell ⟨wr.heap.size+1,4,none⟩ (.slice Ai fi.len ci)).alloc (.cells #[.int .u64 (xt:Int),.int .i64 xy,.int .u64 (xn:Int),.string xs',.slice Ai fi.len ci] 47)) :=
        (((eX.out.trans (lq.out.mono hwz)).trans (kb.mono (aI hwz GK))).setCell (by show w.heap.size≤wr.heap.size+1;omega) _).alloc (by simp[World.setCell];omega) _
       have G5:(W1.setCell ⟨wr.heap.size+1,4,none⟩ (.slice Ai fi.len ci)).heap.size=W1.heap.size:=(by simp[World.setCell]);have htp:=(dX.refl (fun k=>k=wr.heap.size+1) W1).put (p:=⟨wr.heap.size+1,4,none⟩) (fun _=>rfl) (.slice Ai fi.len ci);have hcq:=((((sK.out.lt.below lq.out).below kb).fE htp fun k hk e=>by have:=hk.2;omega).below (ba b0 (.cells #[.int .u64 (xt:Int),.int .i64 xy,.int .u64 (xn:Int),.string xs',.slice Ai fi.len ci] 47))).imp (J:=fun k=>w.heap.size≤k∧u6.ownBlock≠some k) fun k hk=>hk.1;have JJ:=((k4.fE htp fun k (hk:W.heap.size≤k) e=>by have:=kN.out.lt;omega).below (ba b0 (.cells #[.int .u64 (xt:Int),.int .i64 xy,.int .u64 (xn:Int),.string xs',.slice Ai fi.len ci] 47))).imp (J:=fun k=>w.heap.size≤k∧u6.ownBlock≠some k) fun k (hk:W.heap.size≤k)=>⟨by omega,fun e=>by have:=(HOWN.out.lt k e).2;omega⟩
       have GY:r=l.drop (f.count+1):=(by rw[← cZ,HL.out];rfl);have hrq:=((k5.RG (htp.iI (B:=H) (by omega) fun k hk e=>by omega)).below (ba b0 (.cells #[.int .u64 (xt:Int),.int .i64 xy,.int .u64 (xn:Int),.string xs',.slice Ai fi.len ci] 47)));rw[GY,cZ]at hrq;have hcnt:f.count+1+fi.count≤l.length:=(by omega);have UL:sH xt xy xn xs':=⟨O2.out.1,o3,O2.out.2,o6⟩;have hfin:=NG hHw rH.out hcq (fun k hk=>(HOWN.out.lt k hk).1) hbq hown3 hg3 (iF.imp id fun h=>by rw[h];simp[World.setCell]) JJ UL k3 hcnt hrq (by omega) k8;rw[show l.length - (f.count+1+fi.count)=r.length - fi.count by omega]at hfin;refine⟨hfin,?_⟩;show r.length - fi.count<1;omega
      go_wp2_with fail;refine Ws fun W hW=>?_;rw[← hW]at iV kN lq;clear hW;have hbW:=lq.out;have aaQ:IY W b (o+5) r:=fun j y hj=>by
       have:=(HAT.out.below hbW (aQ hbl BI)) (j+1) y hj;rw[show o+(j+1)*5=o+5+j*5 by omega]at this;exact this
      have HC:Hid (∀x:World,Below W.heap.size W x→Calls prog 77 #[.slice (some ⟨b,o+5,none⟩) (M - 1) (c' - 1),.int .u8 ((xd:Int)+1)] x (KT H x r (xd+1))):=fun x hx=>by
       have UC:r.length=M - 1:=(by have:=mZ.out;omega);have hsub:∀y∈r,y∈l:=fun y hy=>List.mem_of_mem_drop (by rw[HL.out];exact dh _ hy);have:=IH.out (some ⟨b,o+5,none⟩) (c' - 1) r (xd+1) x (by omega) (aI (aI BI hbW.size) hx.size) ((nD.below (w:=W) (.inr ⟨b,o+5,rfl,hbl,aI BI hbW.size,aaQ⟩)) hx) (fun y hy=>lT.out y (hsub y hy)) (by omega) (by omega) (by omega) (by omega);rw[UC]at this;exact this
      clear aaQ;have e7:=iV.out.cell 0;simp at e7;have hl7:=iV.out.lt;have GU:=kN.out.lt;have hwr:IntKind.u8.wrap ((xd:Int)+1)=(xd:Int)+1:=(by simp[IntKind.wrap,IntKind.signed,IntKind.bits];omega);clear hbW
      go_region_held3 (fun w'=>w'.cell? ⟨wr.heap.size,0,none⟩=some (.int .u8 (xd:Int))) (go_keep)
       ((go_at_call 77;refine(HC.out _ (bd b0)).mono ?_;rintro e' W1 ⟨fi,Ai,ci,A2,c2,rfl,hi1,hi2,hi3,hi4,hi5,Ep,JI,JH⟩;have hbW1:Below W.heap.size W W1:=bb (bd b0) JH;have ru:=kN.out.below hbW1 kN.out.lt;have Si:=(iV.out.below hbW1 iV.out.lt).cell 0;have Sj:=ru.cell 0;have Sl:=ru.cell 1;have Sm:=ru.cell 2;have Sr:=ru.cell 3;have e8:=ru.cell 4;have f8:=ru.free 4;simp at Si Sj Sl Sm Sr e8;have HI:=ah (And.intro hi1 (And.intro hi3 (And.intro hi4 (And.intro hi5 (And.intro Ep (And.intro JI hbW1))))));have ad2:=ah ru;clear hi1 hi2 hi3 hi4 hi5 Ep JH JI hbW1 ru))
      have hsz1:=HI.out.2.2.2.2.2.2.size;have hwz:=eX.out.size;have GK:=lq.out.size;have hown1:=tK (S:=fun k=>k=wr.heap.size+1) (own_below (own_below HOWN.out lq.out) HI.out.2.2.2.2.2.2) ((dX.refl (fun k=>k=wr.heap.size+1) W1).put (p:=⟨wr.heap.size+1,4,none⟩) (fun _=>rfl) (.slice Ai fi.len ci)) fun g hg e=>(by have:=(HOWN.out.lt g hg).2;omega);have hnb:dU ((W1.setCell ⟨wr.heap.size+1,4,none⟩ (.slice Ai fi.len ci)).alloc (.cells #[.int .u64 (xt:Int),.int .i64 xy,.int .u64 (xn:Int),.string xs',.slice Ai fi.len ci] 47)) W1.heap.size 47 #[.int .u64 (xt:Int),.int .i64 xy,.int .u64 (xn:Int),.string xs',.slice Ai fi.len ci]:=by
       have:=dU.made (W1.setCell ⟨wr.heap.size+1,4,none⟩ (.slice Ai fi.len ci)) 47 #[.int .u64 (xt:Int),.int .i64 xy,.int .u64 (xn:Int),.string xs',.slice Ai fi.len ci]
       rwa [show(W1.setCell ⟨wr.heap.size+1,4,none⟩ (.slice Ai fi.len ci)).heap.size=W1.heap.size by simp[World.setCell]]at this
      have QH:=ah hown1;have yC:=ah hnb;have aa3:=aI f.kH hfc;clear hown1 hnb;go_wp2_with(at_builtin;go_must(refine wpList_append_lies _ rfl _ _ 33 rfl w.heap.size 47 i0 _ 5 64 underlying33 hi0 hz0 hz1 hz2 rfl (by decide) u6 f.len xs rfl (QH.out.alloc _) ⟨W1.heap.size,0,none⟩ 1 1 [.int .u64 (xt:Int),.int .i64 xy,.int .u64 (xn:Int),.string xs',.slice Ai fi.len ci] rfl rfl yC.out.news (by simp[Value.oneCell']) (by decide) (by unfold maxLen;omega) (by omega) (by simp[World.setCell];omega) (W1.heap.size+1) (by simp[World.setCell]) ?_);intro g cap3 w3 hown3 hg3 iF hlt3);have UC:=mZ.out;obtain⟨k1,k3,k4,k5,k6,k8,kb⟩:=HI.out;have hbq:Below w.heap.size w ((W1.setCell ⟨wr.heap.size+1,4,none⟩ (.slice Ai fi.len ci)).alloc (.cells #[.int .u64 (xt:Int),.int .i64 xy,.int .u64 (xn:Int),.string xs',.slice Ai fi.len ci] 47)) :=
       (((eX.out.trans (lq.out.mono hwz)).trans (kb.mono (aI hwz GK))).setCell (by show w.heap.size≤wr.heap.size+1;omega) _).alloc (by simp[World.setCell];omega) _
      have G5:(W1.setCell ⟨wr.heap.size+1,4,none⟩ (.slice Ai fi.len ci)).heap.size=W1.heap.size:=(by simp[World.setCell]);have htp:=(dX.refl (fun k=>k=wr.heap.size+1) W1).put (p:=⟨wr.heap.size+1,4,none⟩) (fun _=>rfl) (.slice Ai fi.len ci);have hcq:=((((sK.out.lt.below lq.out).below kb).fE htp fun k hk e=>by have:=hk.2;omega).below (ba b0 (.cells #[.int .u64 (xt:Int),.int .i64 xy,.int .u64 (xn:Int),.string xs',.slice Ai fi.len ci] 47))).imp (J:=fun k=>w.heap.size≤k∧u6.ownBlock≠some k) fun k hk=>hk.1;have JJ:=((k4.fE htp fun k (hk:W.heap.size≤k) e=>by have:=kN.out.lt;omega).below (ba b0 (.cells #[.int .u64 (xt:Int),.int .i64 xy,.int .u64 (xn:Int),.string xs',.slice Ai fi.len ci] 47))).imp (J:=fun k=>w.heap.size≤k∧u6.ownBlock≠some k) fun k (hk:W.heap.size≤k)=>⟨by omega,fun e=>by have:=(HOWN.out.lt k e).2;omega⟩
      have GY:r=l.drop (f.count+1):=(by rw[← cZ,HL.out];rfl);have hrq:=((k5.RG (htp.iI (B:=H) (by omega) fun k hk e=>by omega)).below (ba b0 (.cells #[.int .u64 (xt:Int),.int .i64 xy,.int .u64 (xn:Int),.string xs',.slice Ai fi.len ci] 47)));rw[GY,cZ]at hrq;have hcnt:f.count+1+fi.count≤l.length:=(by omega);have UL:sH xt xy xn xs':=⟨O2.out.1,o3,O2.out.2,o6⟩;have hfin:=NG hHw rH.out hcq (fun k hk=>(HOWN.out.lt k hk).1) hbq hown3 hg3 (iF.imp id fun h=>by rw[h];simp[World.setCell]) JJ UL k3 hcnt hrq (by omega) k8;rw[show l.length - (f.count+1+fi.count)=r.length - fi.count by omega]at hfin;refine⟨hfin,?_⟩;show r.length - fi.count<M;omega
def YG(w:World)(n:Nat)(e:Ending)(w':World):Prop :=
 ∃(f:Fs) (A:Option Addr) (c:Nat),e=.returned (.slice A f.len c)∧f.count=n∧f.All sH∧eF w' (w.heap.size≤·) (.slice A f.len c) f∧Below w.heap.size w w'
theorem ajf(H:Nat)(A:Option Addr)(cap:Nat)(l:List One)(w:World)(hHw:H≤w.heap.size)(hr:nD H w A l)(hok:∀x∈l,x.ok∧x.text.size≤300)(h60:l.length≤60)(hc:l.length≤cap)(hcm:cap≤9223372036854775807) :
 Calls prog 34 #[.slice A l.length cap] w (YG w l.length):=by
 have HF:=ah (ahu H l.length A cap l 0 w (au _) hHw hr hok h60 hc hcm (by omega))
 clear hr hok
 go_enter func34,ntmps34
 go_wp2_with fail
 refine HF.out.mono ?_
 rintro e w1 ⟨f,A1,c1,A2,c2,rfl,h1,h2,h3,h4,h5,h6,h7,h8⟩
 have HE:=ah (And.intro (h2 rfl) (And.intro h3 (And.intro h4 h8)))
 clear h1 h2 h3 h4 h5 h6 h7 h8
 go_wp2
 go_ret
 exact⟨f,A1,c1,rfl,HE.out.1,HE.out.2.1,HE.out.2.2.1,HE.out.2.2.2⟩
def P7(w:World)(f:Fs)(e:Ending)(w':World):Prop :=
 ∃(A:Option Addr) (c:Nat),e=.returned (.slice A f.len c)∧eF w' (w.heap.size≤·) (.slice A f.len c) f∧Below w.heap.size w w'
def YJ(w:World)(f:Fs)(k:Nat)(out:Value)(wr:World):Prop :=
 ∃xs,wr.ownsRow w.heap.size 207 5 out k xs∧Cls wr (fun k=>w.heap.size≤k∧out.ownBlock≠some k) xs (f.take k)∧Below w.heap.size w wr
theorem UR:(prog.info? 207).map (fun i=>(i.zero,i.size,i.bytes))=some (some (.agg #[.int .u64 0,.int .i64 0,.int .u64 0,.string ByteArray.empty,.slice none 0 0]),5,64):=by kernel_rfl
theorem akd(N:Nat):∀(A:Option Addr) (c:Nat) (f:Fs) (I:Nat→Prop) (w:World),f.count≤N→eF w I (.slice A f.len c) f→f.count≤1000000→
 Calls prog 65 #[.slice A f.len c] w (P7 w f):=by
 induction N with
 |zero=>
   intro A c f I w hN hr h60;have:f=.nil:=Fs.jr (by have:=f.kH;omega);subst this;go_enter func65,ntmps65;go_wp2_with fail;go_loopw [3,8] (fun out kk wr=>out=.slice none 0 0∧kk=.int .i64 0∧wr=w) (fun _ _ _=>0)
   case atStart=>exact⟨rfl,rfl,rfl⟩
   case round=>
    obtain⟨rfl,rfl,rfl⟩:=hrel;go_wp2_with fail;go_ret;exact⟨none,0,rfl,eF.nil _ _ _ _,b0⟩
 |succ N ih=>
   intro A c f I w hN hr h60;have IH:=ah ih;have HR:=ah hr;have H0:Hid (YJ w f 0 (.slice none 0 0) w):=⟨[],World.ownsRow_nil _ _ _ _,by cases f<;>trivial,b0⟩;clear ih hr;have hfl:=f.kH;obtain⟨i0,hi0,hz0,hz1,hz2⟩:=info_parts UR;go_enter func65,ntmps65;go_wp2_with fail;go_loopw [3,8] (fun out kk wr=>∃k:Nat,k≤f.len∧kk=.int .i64 (k:Int)∧YJ w f k out wr) (fun _ kk _=>f.len - (intOf kk).toNat)
   case atStart=>exact⟨0,by omega,rfl,H0.out⟩
   case round=>
    obtain⟨k,hk,rfl,xs,hown,hcls,hbel⟩:=hrel;by_cases hlt:k<f.len
    ·obtain⟨t,y,n,s,i,hdc,htk⟩:=f.drop_cons k hlt
     obtain⟨A0,c0,hv,hc0,hor⟩:=HR.out.below hbel;injection hv with hv1 hv2 hv3;subst hv1 hv3;rcases hor with h0|⟨b,o,rfl,yX,hbl,hat⟩
     ·omega
     have hak:=hat.drop k;rw[hdc]at hak;obtain⟨d0,d1,d2,d3,⟨Ai,ci,d4,hci,hin⟩,_⟩:=hak;have oh:=ah hin;have HOWN:=ah hown;have sK:=ah hcls;have eX:=ah hbel;have jZ:=ah htk;have hic:i.count≤N∧i.count≤1000000:=by
      have h1:=f.adq (k+1);rw[htk,Fs.Bq]at h1;simp only[Fs.count]at h1;omega
     clear hin hown hcls hbel htk hdc hat hv2;go_wp2_with fail;have kZ:=dU.made wr 47 #[.int .u64 (t:Int),.int .i64 y,.int .u64 (n:Int),.string s,.slice Ai i.len ci];have eU:=ba (a:=wr) b0 (.cells #[.int .u64 (t:Int),.int .i64 y,.int .u64 (n:Int),.string s,.slice Ai i.len ci] 47);generalize wr.alloc (.cells #[.int .u64 (t:Int),.int .i64 y,.int .u64 (n:Int),.string s,.slice Ai i.len ci] 47)=W at kZ eU⊢;have HC:Hid (∀x:World,Below W.heap.size W x→Calls prog 65 #[.slice Ai i.len ci] x (P7 x i)):=fun x hx=>
      IH.out Ai ci i I x hic.1 ((eF.below (f:=i) (I:=I) (w:=wr) ⟨Ai,ci,rfl,hci,oh.out⟩ eU).below hx) hic.2
     have sO:=ah kZ;have lq:=ah eU;have hwz:=eX.out.size;have GK:=eU.size;have HOW:=ah (own_below HOWN.out eU);have e0:=kZ.cell 0;have e1:=kZ.cell 1;have e2:=kZ.cell 2;have e3:=kZ.cell 3;have e4:=kZ.cell 4;simp at e0 e1 e2 e3 e4;clear kZ eU d0 d1 d2 d3 d4
     go_region_held3 (fun w'=>w'.cell? ⟨wr.heap.size,0,none⟩=some (.int .u64 (t:Int))∧w'.cell? ⟨wr.heap.size,1,none⟩=some (.int .i64 y)∧w'.cell? ⟨wr.heap.size,2,none⟩=some (.int .u64 (n:Int))∧
      w'.cell? ⟨wr.heap.size,3,none⟩=some (.string s)∧w'.cell? ⟨wr.heap.size,4,none⟩=some (.slice Ai i.len ci)) (go_keep)
      (first
        |(go_at_call 65;refine(HC.out _ (bd b0)).mono ?_;rintro e' W1 ⟨A1,c1,rfl,hs1,hb1'⟩;have hbW1:Below W.heap.size W W1:=bb (bd b0) hb1';have xW:=sO.out.below hbW1 sO.out.lt;have e0':=xW.cell 0;have e1':=xW.cell 1;have e2':=xW.cell 2;have e3':=xW.cell 3;have e4':=xW.cell 4;simp at e0' e1' e2' e3' e4')
        |(refine step_append_lies _ (by rfl) _ _ _ (by rfl) w.heap.size 207 i0 _ 5 64 underlying66 hi0 hz0 hz1 hz2 rfl (by omega) u3 k xs (by rfl) ((own_below HOW.out hbW1).alloc _) ⟨W1.heap.size,0,none⟩ 1 1 [.int .u64 (t:Int),.int .i64 y,.int .u64 (n:Int),.string s,.slice A1 i.len c1] (by rfl) (by rfl) (World.news_of_block (cs:=#[.int .u64 (t:Int),.int .i64 y,.int .u64 (n:Int),.string s,.slice A1 i.len c1]) (t:=207) (fr:=(0,0)) (heap_alloc_new W1 _)) (by simp[Value.oneCell']) (by omega) (by unfold maxLen;omega) (by omega) (by have:=hbW1.size;simp;omega) (W1.heap.size+1) (by simp) ?_;intro g cap3 w3 hown3 hg3 iF hlt3;have jo:=ah hg3;have xM:=(((sO.out.below hbW1 sO.out.lt).more (.cells #[.int .u64 (t:Int),.int .i64 y,.int .u64 (n:Int),.string s,.slice A1 i.len c1] 207)).step hg3 (by intro e;have:=(HOWN.out.lt _ e.symm).2;omega));have g0:=xM.cell 0;have g1:=xM.cell 1;have g2:=xM.cell 2;have g3:=xM.cell 3;have g4:=xM.cell 4;simp at g0 g1 g2 g3 g4))
     go_wp2;go_roundw
     case rel=>
      have hbq:Below wr.heap.size wr (W1.alloc (.cells #[.int .u64 (t:Int),.int .i64 y,.int .u64 (n:Int),.string s,.slice A1 i.len c1] 207)):=ba (bb lq.out hbW1) _;have hs1':eF W1 (W.heap.size≤·) (.slice A1 i.len c1) i:=hs1;have JJ:=(hs1'.below (ba b0 (.cells #[.int .u64 (t:Int),.int .i64 y,.int .u64 (n:Int),.string s,.slice A1 i.len c1] 207))).imp (J:=fun k=>w.heap.size≤k∧u3.ownBlock≠some k) fun k (hk:W.heap.size≤k)=>⟨by omega,fun e=>by have:=(HOWN.out.lt k e).2;omega⟩;have hcq:=(sK.out.below hbq).app (show Cls _ (fun k=>w.heap.size≤k∧u3.ownBlock≠some k) [.int .u64 (t:Int),.int .i64 y,.int .u64 (n:Int),.string s,.slice A1 i.len c1] (.cons t y n s i .nil)from⟨rfl,rfl,rfl,rfl,JJ,trivial⟩);rw[← jZ.out]at hcq;refine⟨k+1,by omega,by go_num,_,hown3,Cls.grow (v:=u3) hcq jo.out (iF.imp id fun h=>by rw[h];simp),?_⟩
      exact(eX.out.trans (hbq.mono hwz)).trans (dX.grown (S:=fun k=>u3.ownBlock=some k) jo.out (fun k hk _=>hk) |>.iI (aI hwz hbq.size) fun k hk e=>by have:=(HOWN.out.lt k e).1;omega)
     case measure=>simp[intOf];omega
    ·obtain rfl:k=f.len:=by omega
     rw[f.Hy _ (au _)]at hcls;obtain⟨A1,c1,rfl,hs⟩:=Kv hown hcls fun k hk=>hk.1;have HE:=ah (And.intro hs hbel);clear hown hcls hs hbel H0;go_wp2_with fail;go_ret;exact⟨A1,c1,rfl,HE.out.1,HE.out.2⟩
end Go.Proofs.YtgidfnhfgiehjaaGreatDoor
namespace Go.Proofs.YtgidfnhfgiehjaaGreatDoor
open Go.PM Go.RowKit Go.Proofs.Tryz
set_option maxRecDepth 100000
set_option maxHeartbeats 4000000
def qB(y:Int)(n:Nat)(s:ByteArray)(len:Nat):Bool :=
 if y=0 then decide (s.size=0)&&decide (len=0)else if y=1 then decide (n=0)&&decide (len=0)else if y=2 then decide (n=0)&&decide (s.size=0)else false
theorem AA{s:ByteArray}(h:s.size=0):s=⟨#[]⟩:=ByteArray.ext (Array.eq_empty_of_size_eq_zero h)
theorem Hw{s:ByteArray}(h:s.size≠0):s.toList.isEmpty=false∧s.toList≠[]:=by
 have:s.toList≠[]:=fun e=>h (by rw[ByteArray.toList_eq]at e;have:=congrArg List.length e;simpa using this);exact⟨by simpa using this,this⟩
theorem ani(t:Nat)(y:Int)(n:Nat)(s:ByteArray)(A:Option Addr)(len c:Nat)(w:World)(hy:iK y)(hl:len≤9223372036854775807) :
 Calls prog 151 #[.agg #[.int .u64 (t:Int),.int .i64 y,.int .u64 (n:Int),.string s,.slice A len c]] w (aj w (.bool (qB y n s len))):=by
 unfold qB
 by_cases y0:y=0
 ·subst y0
  rw[aA rfl];by_cases hs:s.size=0
  ·obtain rfl:=AA hs
   by_cases h0:len=0
   ·subst h0
    go_enter func151,ntmps151;go_wp2;go_ret;exact⟨rfl,ba b0 _⟩
   have hd:decide (len=0)=false:=(by simp;exact h0);have hi:((len:Int)==0)=false:=(by rw[aB];omega);rw[hd];clear hd;go_enter func151,ntmps151;go_wp2;go_ret;exact⟨rfl,ba b0 _⟩
  obtain⟨e1,e2⟩:=Hw hs;rw[aO hs];go_enter func151,ntmps151;go_wp2;go_ret;exact⟨rfl,ba b0 _⟩
 ·rw[ay y0]
  by_cases y1:y=1
  ·subst y1
   rw[aA rfl];by_cases hn:n=0
   ·subst hn
    by_cases h0:len=0
    ·subst h0
     go_enter func151,ntmps151;go_wp2;go_ret;exact⟨rfl,ba b0 _⟩
    have hd:decide (len=0)=false:=(by simp;exact h0);have hi:((len:Int)==0)=false:=(by rw[aB];omega);rw[hd];clear hd;go_enter func151,ntmps151;go_wp2;go_ret;exact⟨rfl,ba b0 _⟩
   have hi:((n:Int)==0)=false:=(by rw[aB];omega);rw[aO hn];go_enter func151,ntmps151;go_wp2;go_ret;exact⟨rfl,ba b0 _⟩
  rw[ay y1];have i0:((y:Int)==0)=false:=by rw[aB];exact y0
  have i1:((y:Int)==1)=false:=by rw[aB];exact y1
  by_cases y2:y=2
  ·subst y2
   rw[aA rfl];clear y0 y1 i0 i1;by_cases hn:n=0
   ·subst hn
    by_cases hs:s.size=0
    ·obtain rfl:=AA hs
     go_enter func151,ntmps151;go_wp2;go_ret;exact⟨rfl,ba b0 _⟩
    obtain⟨e1,e2⟩:=Hw hs;rw[aO hs];go_enter func151,ntmps151;go_wp2;go_ret;exact⟨rfl,ba b0 _⟩
   have hi:((n:Int)==0)=false:=(by rw[aB];omega);rw[aO hn];go_enter func151,ntmps151;go_wp2;go_ret;exact⟨rfl,ba b0 _⟩
  rw[ay y2];have i2:((y:Int)==2)=false:=by rw[aB];exact y2
  clear y0 y1 y2;go_enter func151,ntmps151;go_wp2;go_ret;exact⟨rfl,ba b0 _⟩
def fM:Fs→Nat→Nat→Nat
 |.nil,_,_=>0
 |.cons t y n s i r,ahead,within=>
   if t=0∨4294967296<t then 18 else if t≤ahead then 7 else if qB y n s i.len=false then 8 else if y≠2 then fM r t within else if 8≤within then 9
   else if fM i 0 (within+1)≠0 then fM i 0 (within+1)else fM r t within
def mF(t:Nat)(y:Int)(n:Nat)(s:ByteArray):Prop:=In64 t∧iK y∧In64 n∧s.size≤9223372036854775807
theorem sH.kd{t:Nat}{y:Int}{n:Nat}{s:ByteArray}(h:sH t y n s):mF t y n s:=⟨h.1,by have:=h.2.1;unfold iK;omega,h.2.2.1,by have:=h.2.2.2;omega⟩
theorem afy(N:Nat):∀(A:Option Addr) (c:Nat) (f:Fs) (I:Nat→Prop) (within:Nat) (w:World),f.count≤N→eF w I (.slice A f.len c) f→f.All mF→f.count≤1000000→within≤8→
 Calls prog 94 #[.slice A f.len c,.int .i64 (within:Int)] w (aj w (.int .i64 (fM f 0 within:Int))):=by
 induction N with
 |zero=>
   intro A c f I within w hN hr hk h60 hw;have:f=.nil:=Fs.jr (by have:=f.kH;omega);subst this;go_enter func94,ntmps94;go_wp2_with fail;go_loopw [5,11] (fun _ kk wr=>kk=.int .i64 0∧wr=w) (fun _ _ _=>0)
   case atStart=>exact⟨rfl,rfl⟩
   case round=>
    obtain⟨rfl,rfl⟩:=hrel;go_wp2_with fail;go_ret;exact⟨rfl,b0⟩
 |succ N ih=>
   intro A c f I within w hN hr hk h60 hw;have IH:=ah ih;have HR:=ah hr;have HK:=ah hk;have hfl:=f.kH;generalize hRR:fM f 0 within=R;have H0:Hid (fM (f.drop 0) 0 within=R):=(by show _=_;rw[← hRR];cases f<;>rfl);clear hRR ih hr hk;go_enter func94,ntmps94;go_wp2_with fail;go_loopw [5,11] (fun aa kk wr=>∃k ahead:Nat,k≤f.len∧kk=.int .i64 (k:Int)∧aa=.int .u64 (ahead:Int)∧ahead≤4294967296∧Hid (fM (f.drop k) ahead within=R)∧Below w.heap.size w wr) (fun _ kk _=>f.len - (intOf kk).toNat)
   case atStart=>exact⟨0,0,by omega,rfl,rfl,by omega,H0,b0⟩
   case round=>
    obtain⟨k,ahead,hk,rfl,rfl,hah,hR',hbel⟩:=hrel;have eX:=ah hbel;have hR:=hR'.out;by_cases hlt:k<f.len
    ·obtain⟨t,y,n,s,i,hdc,_⟩:=f.drop_cons k hlt
     obtain⟨A0,c0,hv,hc0,hor⟩:=HR.out.below hbel;injection hv with hv1 hv2 hv3;subst hv1 hv3;rcases hor with h0|⟨b,o,rfl,yX,hbl,hat⟩
     ·omega
     have hak:=hat.drop k;have hkk:=HK.out.drop k;have hcc:=f.yP k;rw[hdc]at hak hkk hR hcc;obtain⟨d0,d1,d2,d3,⟨Ai,ci,d4,hin⟩,_⟩:=hak;obtain⟨⟨JV,UN,nM,hs63⟩,hki,_⟩:=hkk;have hic:i.count≤N∧i.count≤1000000∧i.len≤1000000:=by
      have:=i.kH;simp only[Fs.count]at hcc;omega
     have lF:Hid (∀x:World,Calls prog 151 #[.agg #[.int .u64 (t:Int),.int .i64 y,.int .u64 (n:Int),.string s,.slice Ai i.len ci]] x (aj x (.bool (qB y n s i.len)))):=fun x=>ani t y n s Ai i.len ci x UN (by omega);have oh:=ah hin;have zF:=ah hki;have aek:=ah JV;clear hdc hat hin hki hbel hv2 UN nM hR' JV hcc H0;rw[fM]at hR;by_cases ht0:t=0
     ·subst ht0
      rw[aA (.inl rfl)]at hR;subst hR;go_wp2_with(first|(go_at_call 151;refine(lF.out _).mono ?_;rintro e wt ⟨rfl,hbt⟩;have hm:=(dU.made wr 47 #[.int .u64 (t:Int),.int .i64 y,.int .u64 (n:Int),.string s,.slice Ai i.len ci]).below hbt (by simp);have q1:=hm.cell 1;have q4:=hm.cell 4;simp at q1 q4));go_ret;exact⟨rfl,eX.out.trans (by first|exact(bb (ba b0 _) hbt).mono eX.out.size|exact(ba b0 _:Below wr.heap.size wr _).mono eX.out.size)⟩
     by_cases ht1:4294967296<t
     ·have hti:((t:Int)==0)=false:=by rw[aB];omega
      rw[aA (.inr ht1)]at hR;subst hR;go_wp2_with(first|(go_at_call 151;refine(lF.out _).mono ?_;rintro e wt ⟨rfl,hbt⟩;have hm:=(dU.made wr 47 #[.int .u64 (t:Int),.int .i64 y,.int .u64 (n:Int),.string s,.slice Ai i.len ci]).below hbt (by simp);have q1:=hm.cell 1;have q4:=hm.cell 4;simp at q1 q4));go_ret;exact⟨rfl,eX.out.trans (by first|exact(bb (ba b0 _) hbt).mono eX.out.size|exact(ba b0 _:Below wr.heap.size wr _).mono eX.out.size)⟩
     rw[ay (by omega)]at hR;have hti:((t:Int)==0)=false:=(by rw[aB];omega);by_cases hta:t≤ahead
     ·rw[aA hta]at hR
      subst hR;go_wp2_with(first|(go_at_call 151;refine(lF.out _).mono ?_;rintro e wt ⟨rfl,hbt⟩;have hm:=(dU.made wr 47 #[.int .u64 (t:Int),.int .i64 y,.int .u64 (n:Int),.string s,.slice Ai i.len ci]).below hbt (by simp);have q1:=hm.cell 1;have q4:=hm.cell 4;simp at q1 q4));go_ret;exact⟨rfl,eX.out.trans (by first|exact(bb (ba b0 _) hbt).mono eX.out.size|exact(ba b0 _:Below wr.heap.size wr _).mono eX.out.size)⟩
     rw[ay hta]at hR;cases hty:qB y n s i.len with
     |false=>
       rw[hty]at lF hR;rw[aA rfl]at hR;clear hty;subst hR;go_wp2_with(first|(go_at_call 151;refine(lF.out _).mono ?_;rintro e wt ⟨rfl,hbt⟩;have hm:=(dU.made wr 47 #[.int .u64 (t:Int),.int .i64 y,.int .u64 (n:Int),.string s,.slice Ai i.len ci]).below hbt (by simp);have q1:=hm.cell 1;have q4:=hm.cell 4;simp at q1 q4));go_ret;exact⟨rfl,eX.out.trans (by first|exact(bb (ba b0 _) hbt).mono eX.out.size|exact(ba b0 _:Below wr.heap.size wr _).mono eX.out.size)⟩
     |true=>
       rw[hty]at lF hR;rw[ay (by simp)]at hR;clear hty;by_cases hy2:y=2
       ·subst hy2
        rw[ay (by simp)]at hR;by_cases hwi:8≤within
        ·rw[aA hwi]at hR
         subst hR;go_wp2_with(first|(go_at_call 151;refine(lF.out _).mono ?_;rintro e wt ⟨rfl,hbt⟩;have hm:=(dU.made wr 47 #[.int .u64 (t:Int),.int .i64 2,.int .u64 (n:Int),.string s,.slice Ai i.len ci]).below hbt (by simp);have q1:=hm.cell 1;have q4:=hm.cell 4;simp at q1 q4));go_ret;exact⟨rfl,eX.out.trans ((bb (ba b0 _) hbt).mono eX.out.size)⟩
        rw[ay hwi]at hR;have HSL:Hid (eF wr I (.slice Ai i.len ci) i):=⟨Ai,ci,rfl,oh.out⟩;generalize hE:fM i 0 (within+1)=E at hR;have HE:=ah hE;clear hE;by_cases he:E=0
        ·subst he
         rw[ay (by simp)]at hR;have HR2:=ah hR;clear hR;go_wp2_with(first|(go_at_call 151;refine(lF.out _).mono ?_;rintro e wt ⟨rfl,hbt⟩;have hm:=(dU.made wr 47 #[.int .u64 (t:Int),.int .i64 2,.int .u64 (n:Int),.string s,.slice Ai i.len ci]).below hbt (by simp);have q1:=hm.cell 1;have q4:=hm.cell 4;simp at q1 q4)|(go_at_call 94;refine(IH.out Ai ci i I (within+1) _ hic.1 (HSL.out.below (bb (ba b0 _) hbt)) zF.out hic.2.1 (by omega)).mono ?_;rw[HE.out];rintro e2 w2 ⟨rfl,hb2⟩));go_roundw
         case rel=>exact⟨k+1,t,by omega,by go_num,rfl,by omega,HR2,eX.out.trans ((bb (bb (ba b0 _) hbt) hb2).mono eX.out.size)⟩
         case measure=>simp[intOf];omega
        rw[aA he]at hR;have Uf:((E:Int) != 0)=true:=(by rw[aZ];omega);subst hR;go_wp2_with(first|(go_at_call 151;refine(lF.out _).mono ?_;rintro e wt ⟨rfl,hbt⟩;have hm:=(dU.made wr 47 #[.int .u64 (t:Int),.int .i64 2,.int .u64 (n:Int),.string s,.slice Ai i.len ci]).below hbt (by simp);have q1:=hm.cell 1;have q4:=hm.cell 4;simp at q1 q4)|(go_at_call 94;refine(IH.out Ai ci i I (within+1) _ hic.1 (HSL.out.below (bb (ba b0 _) hbt)) zF.out hic.2.1 (by omega)).mono ?_;rw[HE.out];rintro e2 w2 ⟨rfl,hb2⟩));go_ret;exact⟨rfl,eX.out.trans ((bb (bb (ba b0 _) hbt) hb2).mono eX.out.size)⟩
       rw[aA hy2]at hR;have hyi:(y != 2)=true:=(by rw[aZ];exact hy2);have HR2:=ah hR;clear hR hy2;go_wp2_with(first|(go_at_call 151;refine(lF.out _).mono ?_;rintro e wt ⟨rfl,hbt⟩;have hm:=(dU.made wr 47 #[.int .u64 (t:Int),.int .i64 y,.int .u64 (n:Int),.string s,.slice Ai i.len ci]).below hbt (by simp);have q1:=hm.cell 1;have q4:=hm.cell 4;simp at q1 q4));go_roundw
       case rel=>exact⟨k+1,t,by omega,by go_num,rfl,by omega,HR2,eX.out.trans ((bb (ba b0 _) hbt).mono eX.out.size)⟩
       case measure=>simp[intOf];omega
    ·obtain rfl:k=f.len:=by omega
     have hn:f.drop f.len=.nil:=Fs.jr (by rw[Fs.uJ];omega);rw[hn,fM]at hR;subst hR;clear hR' hbel H0;go_wp2_with fail;go_ret;exact⟨rfl,eX.out⟩
theorem Jg(v:Value)(f:Fs)(I:Nat→Prop)(w:World)(hr:eF w I v f)(hk:f.All mF)(h60:f.count≤1000000) :
 Calls prog 46 #[v] w (aj w (.int .i64 (fM f 0 0:Int))):=by
 obtain⟨A,c,rfl,hr'⟩:=hr
 have HC:=ah (afy f.count A c f I 0 w (au _) ⟨A,c,rfl,hr'⟩ hk h60 (by omega))
 clear hr' hk
 generalize fM f 0 0=E at HC⊢
 go_enter func46,ntmps46
 go_wp2_with(first|(go_at_call 94;refine HC.out.mono ?_;rintro e wt ⟨rfl,hbt⟩))
 go_ret
 exact⟨rfl,hbt⟩
