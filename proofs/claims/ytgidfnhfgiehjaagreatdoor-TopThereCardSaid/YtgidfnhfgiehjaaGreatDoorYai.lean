/-
  Parts of the proof. Conditions: as each names.
-/
import Derived.Test.YtgidfnhfgiehjaaGreatDoorYaf
import Derived.Deep.WholeRow
import Derived.Test.YtgidfnhfgiehjaaGreatDoorYag
import Derived.Shelf.SlicesE.Kit
namespace Go.Proofs.YtgidfnhfgiehjaaGreatDoor
open Go.PM Go.RowKit Go.Proofs.Tryz
set_option maxRecDepth 100000
set_option maxHeartbeats 4000000
def Rf(R:Nat)(l:List UInt8)(i r:Nat):Prop:=r=Go.PM.cover R (l.take i)∧r<4294967296
theorem Rf.step{R:Nat}{s:ByteArray}{i r:Nat}(h:Rf R s.data.toList i r)(hi:i<s.size):Rf R s.data.toList (i+1) (lG 4 (lG 4 (r ^^^ s[i].toNat))):=by
 obtain⟨e,hlt⟩:=h;refine⟨?_,?_⟩
 ·have hl:i<s.data.toList.length:=by simpa using hi
  have hg:s.data.toList[i]=s[i]:=by simp;rfl
  rw[← aT hl,RV,← e,hg];rfl
 exact DZ 4 (DZ 4 (Nat.xor_lt_two_pow (n:=32) hlt (by have:=s[i].toNat_lt;omega)))
def Rp(R:Nat)(l:List ByteArray)(k r:Nat):Prop:=r=Go.PM.cover R ((l.take k).flatMap fun x=>x.data.toList)∧r<4294967296
theorem Rp.step{R:Nat}{l:List ByteArray}{k r q:Nat}(h:Rp R l k r)(hk:k<l.length)(hq:Rf r l[k].data.toList l[k].size q):Rp R l (k+1) q:=by
 refine⟨?_,hq.2⟩;rw[← aT hk,List.flatMap_append,RV,← h.1];have e:=hq.1;rw[aU (by simp)]at e;simpa using e
theorem akn(n:Nat)(A:Option Addr)(cap:Nat)(l:List ByteArray)(w:World)(hn:n<4294967296)(hr:Rd w A (strs l))(hl:l.length≤9223372036854775807)(hs:∀x∈l,x.size≤9223372036854775807) :
 Calls prog 96 #[.int .u32 (n:Int),.slice A l.length cap] w fun e w'=>
  e=.returned (.int .u32 ((4294967295 ^^^ Go.PM.cover (4294967295 ^^^ n) (l.flatMap fun x=>x.data.toList):Nat):Int))∧Below w.heap.size w w':=by
 have hN:bits .xor .u32 IntKind.u32.max (n:Int)=((4294967295 ^^^ n:Nat):Int):=u32_xor_nat 4294967295 n (by omega) hn
 have hNl:4294967295 ^^^ n<4294967296:=Nat.xor_lt_two_pow (n:=32) (by omega) hn
 generalize 4294967295 ^^^ n=R at hN hNl⊢
 have XL:=ah hNl
 clear hNl
 go_enter func96,ntmps96
 go_wp2_with fail
 refine(amX _).mono ?_
 rintro e w1 ⟨rfl,hb1⟩
 have hst:=run_storeCells_new (P:=prog) w1 246 #[.int .u32 0,.int .u32 0,.int .u32 0,.int .u32 0,.int .u32 0,.int .u32 0,.int .u32 0,.int .u32 0,.int .u32 0,.int .u32 0,.int .u32 0,.int .u32 0,.int .u32 0,.int .u32 0,.int .u32 0,.int .u32 0] (tab 16) (by kernel_rfl) rfl (by simp[tab,PN,List.range,List.range.loop,Value.oneCell'])
 have hT:=dU.made w1 246 (tab 16)
 have hB:=ba hb1 (.cells (tab 16) 246)
 have HR:=ah (hr.below hB)
 have HT:=ah hT
 have HB:=ah hB
 clear hT hB hr hb1
 go_wp2
 refine Ws fun W hW=>?_
 rw[← hW]at HR HT HB
 clear hW hst
 go_loop [6,15] (fun rr kk=>∃k r:Nat,k≤l.length∧kk=.int .i64 (k:Int)∧rr=.int .u32 (r:Int)∧Rp R l k r) (fun _ k=>l.length - (intOf k).toNat)
 case atStart=>exact⟨0,R,by omega,rfl,rfl,rfl,XL.out⟩
 case round=>
  obtain⟨k,r,hk,rfl,rfl,uN⟩:=hrel;by_cases hkl:k<l.length
  ·obtain⟨b,off,rfl,hb,hc⟩:=HR.out.at_ (k:=k) (by rw[PG];exact hkl)
   rw[VW l k hkl]at hc;have hxs:=hs l[k] (aS hkl);have HST:Hid (∀q,Rf r l[k].data.toList l[k].size q→Rp R l (k+1) q):=fun q hq=>uN.step hkl hq;have HR0:Hid (Rf r l[k].data.toList 0 r):=⟨rfl,uN.2⟩;generalize l[k]=x at hc hxs HST HR0;clear uN;go_wp2;go_loop [6,21] (fun rr kk=>∃i q:Nat,i≤x.size∧kk=.int .i64 (i:Int)∧rr=.int .u32 (q:Int)∧Rf r x.data.toList i q) (fun _ k=>x.size - (intOf k).toNat)
   case atStart=>exact⟨0,r,by omega,rfl,rfl,HR0.out⟩
   case round=>
    obtain⟨i,q,hi,rfl,rfl,hrf⟩:=hrel;by_cases hil:i<x.size
    ·have hst:=hrf.step hil
     have hq:=hrf.2;have hxl:q ^^^ x[i].toNat<4294967296:=Nat.xor_lt_two_pow (n:=32) hq (by have:=x[i].toNat_lt;omega);have hx1:bits .xor .u32 (q:Int) ((x[i].toNat:Int)%4294967296)=((q ^^^ x[i].toNat:Nat):Int):=by
      rw[show(x[i].toNat:Int)%4294967296=(x[i].toNat:Int)by have:=x[i].toNat_lt;omega];exact u32_xor_nat _ _ hq (by have:=x[i].toNat_lt;omega)
     clear hrf;generalize q ^^^ x[i].toNat=X at hst hxl hx1;have ha1:bits .and .u32 (X:Int) 15=((X%16:Nat):Int):=(by rw[← nat_mask4];exact u32_and_nat X 15 hxl (by omega));have hyl:=DZ 4 hxl;have hy1:bits .xor .u32 ((X:Int) / 16) (lG 4 (X%16):Int)=(lG 4 X:Int):=by
      rw[show(X:Int) / 16=((X / 16:Nat):Int)by omega,u32_xor_nat _ _ (by omega) (DZ 4 (by omega)),Zh 4 X]
     have hd1:W.cell? ⟨w1.heap.size,X%16,none⟩=some (.int .u32 (lG 4 (X%16):Int)):=by
      rw[HT.out.cell,KG _ _ (by omega),aA (by omega)]
     have hm1:X%16<16:=(by omega);generalize lG 4 X=Y at hst hyl hy1;generalize lG 4 (X%16)=t1 at hy1 hd1;generalize X%16=m1 at ha1 hd1 hm1;have ha2:bits .and .u32 (Y:Int) 15=((Y%16:Nat):Int):=(by rw[← nat_mask4];exact u32_and_nat Y 15 hyl (by omega));have hy2:bits .xor .u32 ((Y:Int) / 16) (lG 4 (Y%16):Int)=(lG 4 Y:Int):=by
      rw[show(Y:Int) / 16=((Y / 16:Nat):Int)by omega,u32_xor_nat _ _ (by omega) (DZ 4 (by omega)),Zh 4 Y]
     have hd2:W.cell? ⟨w1.heap.size,Y%16,none⟩=some (.int .u32 (lG 4 (Y%16):Int)):=by
      rw[HT.out.cell,KG _ _ (by omega),aA (by omega)]
     have hm2:Y%16<16:=(by omega);generalize lG 4 Y=Z at hst hy2;generalize lG 4 (Y%16)=t2 at hy2 hd2;generalize Y%16=m2 at ha2 hd2 hm2;have aej:=ah hst;clear hst hq;have hTl:=HT.out.lt;go_wp2;go_round
     case rel=>exact⟨i+1,Z,by omega,by go_num,rfl,aej.out⟩
     case measure=>simp[intOf];omega
    obtain rfl:i=x.size:=(by omega);have hrn:=HST.out q hrf;have QL:=ah hrn;clear hrn hrf;go_wp2;go_round
    case rel=>exact⟨k+1,q,by omega,by go_num,rfl,QL.out⟩
    case measure=>simp[intOf];omega
  obtain rfl:k=l.length:=by omega
  have hrl:=uN.2;have hN2:bits .xor .u32 IntKind.u32.max (r:Int)=((4294967295 ^^^ r:Nat):Int):=u32_xor_nat 4294967295 r (by omega) hrl;have e:=uN.1;rw[aU (by simp)]at e;have HE:=ah e;clear e uN;go_wp2;go_ret;rw[← HE.out];exact⟨rfl,HB.out⟩
theorem afQ(A:Option Addr)(cap:Nat)(l:List ByteArray)(w:World)(hr:Rd w A (strs l))(hl:l.length≤9223372036854775807)(hs:∀x∈l,x.size≤9223372036854775807) :
 Calls prog 51 #[.slice A l.length cap] w (aj w (.int .u32 (nH (l.flatMap fun x=>x.data.toList):Int))):=by
 have H:=akn 0 A cap l w (by omega) hr hl hs
 rw[Nat.xor_zero]at H
 have HH:=ah H
 clear H
 go_enter func51,ntmps51
 go_wp2_with fail
 refine HH.out.mono ?_
 rintro e w1 ⟨rfl,hb1⟩
 go_wp2
 go_ret
 exact⟨rfl,hb1⟩
theorem VX(s:ByteArray)(b:Nat)(w:World)(hk:dU w b 9 #[.string s])(hs:s.size≤9223372036854775807) :
 Calls prog 51 #[.slice (some ⟨b,0,none⟩) 1 1] w (aj w (.int .u32 (nH s.data.toList:Int))):=by
 have:=afQ (some ⟨b,0,none⟩) 1 [s] w (.inr ⟨_,_,rfl,hk.lt,fun j u hj=>by
  rw[aX,hk.cell j];simpa[strs]using hj⟩) (by simp) (by simpa using hs)
 simpa using this
theorem check_any(s q:ByteArray)(w:World)(hs:s.size≤9223372036854775807)(hq:q.size=4) :
 Calls prog 73 #[.string s,.string q] w (aj w (.bool (decide (sU q.data.toList=nH s.data.toList)))):=by
 have hG:∀x:World,Calls prog 121 #[.string q] x (aj x (.tuple #[.int .u32 (sU q.data.toList:Int),.bool true])):=fun x=>aft q x hq
 have hS:∀x:World,Calls prog 51 #[.slice (some ⟨x.heap.size,0,none⟩) 1 1] (x.alloc (.cells #[.string s] 9)) fun e w'=>e=.returned (.int .u32 (nH s.data.toList:Int))∧Below (x.alloc (.cells #[.string s] 9)).heap.size (x.alloc (.cells #[.string s] 9)) w':=fun x=>VX s _ _ (dU.made _ _ _) hs
 generalize sU q.data.toList=G at hG⊢
 generalize nH s.data.toList=C at hS⊢
 have HG:=ah hG
 have HS:=ah hS
 have hgc:((G:Int)==(C:Int))=decide (G=C):=by rw[Bool.eq_iff_iff];simp;omega
 clear hG hS
 go_enter func73,ntmps73
 go_wp2_with fail
 refine(HG.out _).mono ?_
 rintro e w1 ⟨rfl,hb1⟩
 go_wp2_with fail
 refine(HS.out _).mono ?_
 rintro e w2 ⟨rfl,hb2⟩
 go_wp2
 go_ret
 exact⟨rfl,bb (ba hb1 _) hb2⟩
theorem aaJ(n:Nat)(w:World)(h:n≤65536) :
 Calls prog 74 #[.int .i64 (n:Int)] w (aj w (.int .i64 (qg n:Int))):=by
 have h10:=iJ (n:=n) (by omega)
 have hf:((qg n:Nat):Int)=2+(fH n:Int)+(n:Int)+4:=by unfold qg;omega
 have HF:=ah hf
 clear hf
 go_enter func74,ntmps74
 go_wp2_with fail
 refine(size_any n _ (by unfold In64;omega)).mono ?_
 rintro e w1 ⟨rfl,rfl⟩
 go_wp2
 go_ret
 rw[HF.out]
 exact⟨rfl,b0⟩
theorem wrap_any(p:ByteArray)(w:World)(h:p.size≤65536) :
 Calls prog 16 #[.string p] w (aj w (.tuple #[.string (txt (oP p.data.toList)),.int .i64 0])):=by
 have h10:=iJ (n:=p.size) (by omega)
 have hvs:(txt (dY p.size)).size=fH p.size:=by rw[gI,fO]
 have hP:∀x:World,Calls prog 50 #[.int .u32 (nH p.data.toList:Int)] x (aj x (.string (txt (oG (nH p.data.toList))))):=fun x=>afM _ x (Zj _)
 have hS:∀x:World,Calls prog 51 #[.slice (some ⟨x.heap.size,0,none⟩) 1 1] (x.alloc (.cells #[.string p] 9)) fun e w'=>e=.returned (.int .u32 (nH p.data.toList:Int))∧Below (x.alloc (.cells #[.string p] 9)).heap.size (x.alloc (.cells #[.string p] 9)) w':=fun x=>VX p _ _ (dU.made _ _ _) (by omega)
 have hcs:(txt (oG (nH p.data.toList))).size=4:=rfl
 have hf:txt (oP p.data.toList)=ByteArray.mk #[81,70]++txt (dY p.size)++p++txt (oG (nH p.data.toList)):=by
  apply ByteArray.ext;apply Array.toList_inj.1;simp only[ByteArray.data_append,Array.toList_append,iD,oP,fK]
 rw[hf]
 generalize nH p.data.toList=C at hP hS hcs⊢
 generalize txt (oG C)=Q at hP hcs⊢
 have HP:=ah hP
 have HS:=ah hS
 clear hP hS hf
 have hV:∀x:World,Calls prog 35 #[.int .u64 (p.size:Int)] x (aj x (.string (txt (dY p.size)))):=fun x=>put_any _ x (by unfold In64;omega)
 generalize txt (dY p.size)=V at hV hvs⊢
 have HV:=ah hV
 clear hV
 go_enter func16,ntmps16
 go_wp2_with fail
 refine(HV.out _).mono ?_
 rintro e w1 ⟨rfl,hb1⟩
 go_wp2_with fail
 refine(HS.out _).mono ?_
 rintro e w2 ⟨rfl,hb2⟩
 go_wp2_with fail
 refine(HP.out _).mono ?_
 rintro e w3 ⟨rfl,hb3⟩
 go_wp2
 go_ret2
 exact⟨rfl,bb (bb (ba hb1 _) hb2) hb3⟩
def Mk(l:List UInt8)(i:Nat):Prop:=i=0∨(i=1∧1≤l.length∧l.getD 0 0=81)∨(i=2∧jF l=0)
theorem ajj(s:ByteArray)(w:World)(hs:s.size≤9223372036854775807) :
 Calls prog 72 #[.string s] w (aj w (.int .i64 (jF s.data.toList:Int))):=by
 have hk0:((ByteArray.mk #[81,70])[0]'(by decide)).toNat=81:=rfl
 have hk1:((ByteArray.mk #[81,70])[1]'(by decide)).toNat=70:=rfl
 go_enter func72,ntmps72
 go_wp2
 go_loopw [4] (fun k wr=>∃i:Nat,k=.int .i64 (i:Int)∧Mk s.data.toList i∧Below w.heap.size w wr) (fun k _=>2 - (intOf k).toNat)
 case atStart=>exact⟨0,rfl,.inl rfl,b0⟩
 case round=>
  obtain⟨i,rfl,hm,hb⟩:=hrel;have HB:=ah hb;clear hb;rcases hm with rfl|⟨rfl,h1,h0⟩|⟨rfl,h2⟩
  ·by_cases hz:s.size=0
   ·have hz':((0:Int)==(s.size:Int))=true:=by rw[bF];omega
    have hfm:jF s.data.toList=1:=(by unfold jF;rw[aA (by rw[fK];exact hz)]);clear hz;go_wp2;go_ret;rw[hfm];exact⟨rfl,HB.out⟩
   have hp:0<s.size:=(by omega);have hz':((0:Int)==(s.size:Int))=false:=(by rw[aB];omega);have hg:=getD_at s 0 hp;by_cases h8:s[0].toNat=81
   ·have hn:((s[0].toNat:Int) != 81)=false:=by rw[bne_eq_false_iff_eq];omega
    have hmk:Mk s.data.toList 1:=.inr (.inl ⟨rfl,by rw[fK];omega,by rw[hg];exact UInt8.toNat_inj.1 (by rw[h8];rfl)⟩);have HM:=ah hmk;clear hmk hg;go_wp2;go_quiet(fail);go_wp2;go_roundw
    case rel=>exact⟨1,by go_num,HM.out,bn HB.out _⟩
    case measure=>simp[intOf]
   have hn:((s[0].toNat:Int) != 81)=true:=(by rw[aZ];omega);have hfm:jF s.data.toList=5:=by
    unfold jF;rw[ay (by rw[fK];exact hz),aA (by rw[hg];intro e;exact h8 (by rw[e];rfl))]
   have HF:=ah hfm;clear hfm hg;go_wp2;go_quiet(fail);go_wp2;go_ret;rw[HF.out];exact⟨rfl,bn HB.out _⟩
  ·rw[fK]at h1
   by_cases hz:s.size=1
   ·have hfm:jF s.data.toList=1:=by
     unfold jF;rw[ay (by rw[fK];omega),ay (by rw[h0];simp),aA (by rw[fK];exact hz)]
    have HF:=ah hfm;have hz':((1:Int)==(s.size:Int))=true:=(by rw[bF];omega);clear hfm h0 hz;go_wp2;go_ret;rw[HF.out];exact⟨rfl,HB.out⟩
   have hp:1<s.size:=(by omega);have hz':((1:Int)==(s.size:Int))=false:=(by rw[aB];omega);have hg:=getD_at s 1 hp;by_cases h8:s[1].toNat=70
   ·have hn:((s[1].toNat:Int) != 70)=false:=by rw[bne_eq_false_iff_eq];omega
    have hmk:Mk s.data.toList 2:=.inr (.inr ⟨rfl,by
     unfold jF;rw[ay (by rw[fK];omega),ay (by rw[h0];simp),ay (by rw[fK];exact hz),ay (by rw[hg];intro e;exact e (UInt8.toNat_inj.1 (by rw[h8];rfl)))]⟩)
    have HM:=ah hmk;clear hmk hg h0 h1 hz;go_wp2;go_quiet(fail);go_wp2;go_roundw
    case rel=>exact⟨2,by go_num,HM.out,bn HB.out _⟩
    case measure=>simp[intOf]
   have hn:((s[1].toNat:Int) != 70)=true:=(by rw[aZ];omega);have hfm:jF s.data.toList=5:=by
    unfold jF;rw[ay (by rw[fK];omega),ay (by rw[h0];simp),ay (by rw[fK];exact hz),aA (by rw[hg];intro e;exact h8 (by rw[e];rfl))]
   have HF:=ah hfm;have hp2:(1:Int)<(s.size:Int):=(by omega);have hp3:s.size≠0:=(by omega);clear hfm hg h0 h1 hz;go_wp2;go_quiet(fail);go_wp2;go_ret;rw[HF.out];exact⟨rfl,bn HB.out _⟩
  have HF:=ah h2;clear h2;go_wp2;go_ret;rw[HF.out];exact⟨rfl,HB.out⟩
theorem aaD{l:List UInt8}(h:jF l≠0):gq l=([],0,jF l):=by unfold gq;rw[aA h]
theorem aaC{l:List UInt8}(h:jF l=0):gq l=xO l:=by unfold gq;rw[ay (by omega)]
theorem ahd{l:List UInt8}(h:jF l=0):2≤l.length:=by
 rcases Tf l with⟨_,r,rfl⟩|⟨h1,_⟩|h1
 ·simp
 ·omega
 omega
theorem anO{l:List UInt8}(h:(dQ l).2.2=0):(dQ l).2.1=fH (dQ l).1:=by
 obtain⟨_,k2,_,_,k5⟩:=nZ h;rw[← fO,k5,bD];omega
theorem aah(l:List UInt8)(n k g:Nat)(hV:dQ (l.drop 2)=(n,k,g)):xO l=
 if g≠0 then([],0,g)else if 65536<n then([],0,4)else if(l.drop (2+k)).length<n+4 then([],0,1)
 else if sU (((l.drop (2+k)).drop n).take 4)≠nH ((l.drop (2+k)).take n)then([],0,6)else((l.drop (2+k)).take n,qg n,0):=by
 unfold xO
 simp only[hV]
theorem parse_any(s:ByteArray)(w:World)(hs:s.size≤9223372036854775807) :
 Calls prog 29 #[.string s] w fun e w'=>
  e=.returned (.tuple #[.string (txt (gq s.data.toList).1),.int .i64 ((gq s.data.toList).2.1:Int),.int .i64 ((gq s.data.toList).2.2:Int)])∧Below w.heap.size w w':=by
 have HM:Hid (∀x:World,Calls prog 72 #[.string s] x (aj x (.int .i64 (jF s.data.toList:Int)))):=fun x=>ajj s x hs
 by_cases hm:jF s.data.toList=0
 ·rw[aaC hm]
  rw[hm]at HM;have h2:=ahd hm;rw[fK]at h2;generalize hV:dQ (s.data.toList.drop 2)=V;obtain⟨n,k,g⟩:=V;have eU:=aah _ n k g hV;have HG:Hid (∀x:World,Calls prog 36 #[.string (s.extract 2 s.size)] x (aj x (.tuple #[.int .u64 (n:Int),.int .i64 (k:Int),.int .i64 (g:Int)]))):=fun x=>by
   have:=get_any (s.extract 2 s.size) x (by simp;omega);rw[BG,hV]at this;exact this
  by_cases hg:g=0
  ·subst hg
   have hok:=nZ (s:=s.data.toList.drop 2) (by rw[hV]);have hvp:=anO (l:=s.data.toList.drop 2) (by rw[hV]);rw[hV]at hok hvp;obtain⟨k1,k2,k3,k4,_⟩:=hok;simp only at k1 k2 k3 k4 hvp;rw[aN,fK]at k2;rw[ay (by omega)]at eU;clear hV hm;by_cases hn:65536<n
   ·rw[aA hn]at eU
    rw[eU];clear eU hvp;go_enter func29,ntmps29;go_wp2_with fail;refine(HM.out _).mono ?_;rintro e w1 ⟨rfl,hb1⟩;go_wp2_with fail;refine(HG.out _).mono ?_;rintro e w2 ⟨rfl,hb2⟩;go_wp2;go_ret3
    exact⟨rfl,bb hb1 hb2⟩
   rw[ay hn]at eU;have hbl:(s.data.toList.drop (2+k)).length=s.size - (2+k):=(by rw[aN,fK]);have hks:2+k≤s.size:=(by omega);clear k2 k3 k4;by_cases hsh:s.size - (2+k)<n+4
   ·rw[aA (by rw[hbl];exact hsh)]at eU
    rw[eU];clear eU hvp hbl;go_enter func29,ntmps29;go_wp2_with fail;refine(HM.out _).mono ?_;rintro e w1 ⟨rfl,hb1⟩;go_wp2_with fail;refine(HG.out _).mono ?_;rintro e w2 ⟨rfl,hb2⟩;go_wp2;go_ret3
    exact⟨rfl,bb hb1 hb2⟩
   rw[ay (by rw[hbl];exact hsh)]at eU;have hP:((s.extract (2+k) s.size).extract 0 n).data.toList=(s.data.toList.drop (2+k)).take n:=(by rw[ext_list,BG];simp);have hQ:((s.extract (2+k) s.size).extract n (n+4)).data.toList=((s.data.toList.drop (2+k)).drop n).take 4:=(by rw[ext_list,BG];simp);rw[← hP,← hQ]at eU;have Ol:((s.extract (2+k) s.size).extract n (n+4)).size=4:=(by simp;omega);have hps:((s.extract (2+k) s.size).extract 0 n).size≤65536:=(by simp;omega);have hC:∀x:World,Calls prog 73 #[.string ((s.extract (2+k) s.size).extract 0 n),.string ((s.extract (2+k) s.size).extract n (n+4))] x (aj x (.bool (decide (sU ((s.extract (2+k) s.size).extract n (n+4)).data.toList=nH ((s.extract (2+k) s.size).extract 0 n).data.toList)))):=fun x=>check_any _ _ x (by omega) Ol;have HC:=ah hC
   have jA:Hid (∀x:World,Calls prog 74 #[.int .i64 (n:Int)] x (aj x (.int .i64 (qg n:Int)))):=fun x=>aaJ n x (by omega);clear hC hP hQ hvp hbl Ol hps;by_cases hck:sU ((s.extract (2+k) s.size).extract n (n+4)).data.toList=nH ((s.extract (2+k) s.size).extract 0 n).data.toList
   ·rw[ay (by simp only[ne_eq,Decidable.not_not];exact hck)]at eU
    rw[eU];rw[bH hck]at HC;have HX:=ah (Ci ((s.extract (2+k) s.size).extract 0 n));clear eU hck;go_enter func29,ntmps29;go_wp2_with fail;refine(HM.out _).mono ?_;rintro e w1 ⟨rfl,hb1⟩;go_wp2_with fail;refine(HG.out _).mono ?_;rintro e w2 ⟨rfl,hb2⟩;go_wp2_with fail;refine(HC.out _).mono ?_;rintro e w3 ⟨rfl,hb3⟩;go_wp2_with fail;refine(jA.out _).mono ?_;rintro e w4 ⟨rfl,hb4⟩;go_wp2;go_ret3
    rw[HX.out];exact⟨rfl,bb (bb (bb hb1 hb2) hb3) hb4⟩
   rw[aA hck]at eU;rw[eU];rw[aO hck]at HC;clear eU hck;go_enter func29,ntmps29;go_wp2_with fail;refine(HM.out _).mono ?_;rintro e w1 ⟨rfl,hb1⟩;go_wp2_with fail;refine(HG.out _).mono ?_;rintro e w2 ⟨rfl,hb2⟩;go_wp2_with fail;refine(HC.out _).mono ?_;rintro e w3 ⟨rfl,hb3⟩;go_wp2;go_ret3
   exact⟨rfl,bb (bb hb1 hb2) hb3⟩
  rw[aA hg]at eU;rw[eU];have hgb:((g:Int) != 0)=true:=by rw[aZ];omega
  clear eU hV hm hg;go_enter func29,ntmps29;go_wp2_with fail;refine(HM.out _).mono ?_;rintro e w1 ⟨rfl,hb1⟩;go_wp2_with fail;refine(HG.out _).mono ?_;rintro e w2 ⟨rfl,hb2⟩;go_wp2;go_ret3
  exact⟨rfl,bb hb1 hb2⟩
 ·rw[aaD hm]
  generalize jF s.data.toList=m at hm HM;have hmb:((m:Int) != 0)=true:=by rw[aZ];omega
  clear hm;go_enter func29,ntmps29;go_wp2_with fail;refine(HM.out _).mono ?_;rintro e w1 ⟨rfl,hb1⟩;go_wp2;go_ret3
  exact⟨rfl,hb1⟩
theorem VU{a b:ByteArray}(h:a=b):(a.toList==b.toList)=true:=by rw[h];simp
theorem VT{a b:ByteArray}(h:a≠b):(a.toList==b.toList)=false:=by
 rw[aB,ByteArray.toList_eq,ByteArray.toList_eq];intro e;exact h (ByteArray.ext (Array.toList_inj.1 e))
theorem OH:(prog.info? 9).map (fun i=>(i.zero,i.size,i.bytes))=some (some (.string ByteArray.empty),1,16):=by kernel_rfl
def uZ(S done:List ByteArray)(c:Nat)(R:List UInt8):Prop:=(if(fall R).2=0 then(done++(fall R).1.map txt,0)else([],(fall R).2))=(S,c)
theorem Ns(R:List UInt8):fall R=if R.length=0 then([],0)else if(gq R).2.2=0 then
 (if(fall (R.drop (gq R).2.1)).2=0 then((gq R).1::(fall (R.drop (gq R).2.1)).1,0)else([],(fall (R.drop (gq R).2.1)).2))else([],(gq R).2.2):=by
 rw[fall]
 split
 ·rfl
 ·split<;>rfl
theorem uZ.start(l:List UInt8):uZ ((fall l).1.map txt) [] (fall l).2 l:=by
 unfold uZ;split
 ·rename_i h;rw[h];rfl
 rename_i h;have:(fall l).1=[]:=by
  rw[Ns]at h⊢;split
  ·rfl
  rename_i h1;rw[ay h1]at h;split
  ·rename_i h2;rw[aA h2]at h
   split
   ·rename_i h3;rw[aA h3]at h;simp at h
   rfl
  rfl
 rw[this];rfl
theorem uZ.stop{S done:List ByteArray}{c:Nat}(h:uZ S done c []):S=done∧c=0:=by
 unfold uZ at h;rw[Ns]at h;simp at h;exact⟨h.1.symm,h.2.symm⟩
theorem uZ.err{S done:List ByteArray}{c:Nat}{R:List UInt8}(h:uZ S done c R)(hR:R.length≠0)(hv:(gq R).2.2≠0):S=[]∧c=(gq R).2.2:=by
 unfold uZ at h;rw[Ns,ay hR,ay hv]at h;simp[hv]at h;exact⟨h.1,h.2.symm⟩
theorem uZ.next{S done:List ByteArray}{c:Nat}{R:List UInt8}(h:uZ S done c R)(hR:R.length≠0)(hv:(gq R).2.2=0):uZ S (done++[txt (gq R).1]) c (R.drop (gq R).2.1):=by
 unfold uZ at h⊢;rw[Ns,ay hR,aA hv]at h;rw[← h];split<;>simp
theorem agx(A1 A2:Option Addr)(c1 c2:Nat)(xs:List ByteArray)(w:World)(h1:Rd w A1 (strs xs))(h2:Rd w A2 (strs xs))(hl:xs.length≤1000000) :
 Calls prog 18 #[.slice A1 xs.length c1,.slice A2 xs.length c2] w (aj w (.bool true)):=by
 go_enter func18,ntmps18
 go_wp2
 go_loopw [13] (fun k wr=>∃i:Nat,i≤xs.length∧k=.int .i64 (i:Int)∧Below w.heap.size w wr) (fun k _=>xs.length - (intOf k).toNat)
 case atStart=>exact⟨0,by omega,rfl,b0⟩
 case round=>
  obtain⟨i,hi,rfl,hbel⟩:=hrel;by_cases hlt:i<xs.length
  ·obtain⟨d1,o1,rfl,_,e1⟩:=(h1.below hbel).at_ (k:=i) (by rw[PG];exact hlt)
   obtain⟨d2,o2,rfl,_,e2⟩:=(h2.below hbel).at_ (k:=i) (by rw[PG];exact hlt);rw[VW xs i hlt]at e1 e2;generalize xs[i]=X at e1 e2;have HB:=ah hbel;have H1:=ah h1;have H2:=ah h2;clear hbel h1 h2;go_wp2;go_quiet(fail);go_wp2;go_roundw
   case rel=>exact⟨i+1,by omega,by go_num,bn HB.out _⟩
   case measure=>simp[intOf];omega
  have HB:=ah hbel;clear hbel h1 h2;go_wp2;go_ret;exact⟨rfl,HB.out⟩
theorem ZQ(x y x' y':ByteArray)(w:World):(binOp .neq 132 (.agg #[.string x,.string y]) (.agg #[.string x',.string y'])).run prog w=.ok (.bool (!decide (x=x'∧y=y'))) w:=by
 have u9:=underlying9;have a9:=isAgg9;have z9:=sizeOf9;have hS:prog.underlying 132=some (.struct (prog.fieldsOf 132)):=by kernel_rfl
 have hp:prog.stoodInHeld 132=false:=by kernel_rfl
 have e1:(x.data=x'.data)=(x=x'):=propext ⟨ByteArray.ext,congrArg _⟩;have e2:(y.data=y'.data)=(y=y'):=propext ⟨ByteArray.ext,congrArg _⟩;rw[run_neq_struct,show(10000:Nat)=9999+1 from rfl,run_equalIn_agg w 9999 _ _ _ hS hp];simp only[Program.fieldsOf,underlying132];go_simp;by_cases h1:x=x'<;>by_cases h2:y=y'<;>simp[h1,h2,ByteArray.toList_eq,e1,e2]
theorem ZP:prog.eqGuardType prog.depth 132=false:=by kernel_rfl
theorem VF(x y x' y':ByteArray)(w:World):(binOp .eql 129 (.agg #[.string x,.string y]) (.agg #[.string x',.string y'])).run prog w=.ok (.bool (decide (x=x'∧y=y'))) w:=by
 have u9:=underlying9;have a9:=isAgg9;have z9:=sizeOf9;have hS:prog.underlying 129=some (.struct (prog.fieldsOf 129)):=by kernel_rfl
 have hp:prog.stoodInHeld 129=false:=by kernel_rfl
 have e1:(x.data=x'.data)=(x=x'):=propext ⟨ByteArray.ext,congrArg _⟩;have e2:(y.data=y'.data)=(y=y'):=propext ⟨ByteArray.ext,congrArg _⟩;rw[run_eql_struct,show(10000:Nat)=9999+1 from rfl,run_equalIn_agg w 9999 _ _ _ hS hp];simp only[Program.fieldsOf,underlying129];go_simp;by_cases h1:x=x'<;>by_cases h2:y=y'<;>simp[h1,h2,ByteArray.toList_eq,e1,e2]
theorem alu(x y x' y':ByteArray)(w:World):(binOp .neq 129 (.agg #[.string x,.string y]) (.agg #[.string x',.string y'])).run prog w=.ok (.bool (!decide (x=x'∧y=y'))) w:=by
 have u9:=underlying9;have a9:=isAgg9;have z9:=sizeOf9;have hS:prog.underlying 129=some (.struct (prog.fieldsOf 129)):=by kernel_rfl
 have hp:prog.stoodInHeld 129=false:=by kernel_rfl
 have e1:(x.data=x'.data)=(x=x'):=propext ⟨ByteArray.ext,congrArg _⟩;have e2:(y.data=y'.data)=(y=y'):=propext ⟨ByteArray.ext,congrArg _⟩;rw[run_neq_struct,show(10000:Nat)=9999+1 from rfl,run_equalIn_agg w 9999 _ _ _ hS hp];simp only[Program.fieldsOf,underlying129];go_simp;by_cases h1:x=x'<;>by_cases h2:y=y'<;>simp[h1,h2,ByteArray.toList_eq,e1,e2]
theorem als:prog.eqGuardType prog.depth 129=false:=by kernel_rfl
