/-
  Parts of the proof. Conditions: as each names.
-/
import Derived.Test.YtgidfnhfgiehjaaGreatDoorYai
import Derived.Test.YtgidfnhfgiehjaaGreatDoorYaj
import Derived.Laws.AppendOwnNone
import Derived.Test.YtgidfnhfgiehjaaGreatDoorYad
import Derived.Lib.Bits
import Derived.Test.YtgidfnhfgiehjaaGreatDoorYah
import Derived.Test.YtgidfnhfgiehjaaGreatDoorRows
import Derived.PinnedBridge
import Derived.Lib.LaidU8T
import Derived.Deep.DeepWitnessRowRef
namespace Go.Proofs.YtgidfnhfgiehjaaGreatDoor
open Go.PM Go.RowKit Go.Proofs.Tryz
set_option maxRecDepth 100000
set_option maxHeartbeats 4000000
theorem aeN(w:World) :
 Calls prog 324 #[] w (aj w (.bool true)):=by
 go_enter func324,ntmps324
 go_wp2_with fail
 refine(ae6 _).mono ?_
 rintro e w1 ⟨rfl,hb1⟩
 go_wp2_with fail
 refine(VX _ _ _ (dU.made _ _ _) (by decide)).mono ?_
 rintro e w2 ⟨rfl,hb2⟩
 rw[show nH (ByteArray.mk #[49,50,51,52,53,54,55,56,57]).data.toList=3421780262 by decide +kernel]
 go_wp2
 go_ret
 exact⟨rfl,bb (ba hb1 _) hb2⟩
theorem ae7(w:World):Calls prog 323 #[] w (aj w (.bool true)):=by
 go_enter func323,ntmps323;go_wp2_with(go_at_call 324;refine(aeN _).mono ?_;rintro e w' ⟨rfl,hb⟩);go_ret;exact⟨rfl,hb⟩
theorem aeO(w:World) :
 Calls prog 322 #[] w (aj w (.bool true)):=by
 go_enter func322,ntmps322
 go_wp2_with fail
 refine(wrap_any _ _ (by decide)).mono ?_
 rintro e w1 ⟨rfl,hb1⟩
 rw[show txt (oP (ByteArray.mk #[]).data.toList)=ByteArray.mk #[81,70,0,0,0,0,0]by decide +kernel]
 go_wp2_with fail
 refine(ae7 _).mono ?_
 rintro e w2 ⟨rfl,hb2⟩
 go_wp2
 go_ret
 exact⟨rfl,bb hb1 hb2⟩
theorem ae8(w:World):Calls prog 321 #[] w (aj w (.bool true)):=by
 go_enter func321,ntmps321;go_wp2_with(go_at_call 322;refine(aeO _).mono ?_;rintro e w' ⟨rfl,hb⟩);go_ret;exact⟨rfl,hb⟩
def Cs(n x z:Nat):Prop:=z+fH x=qg n+1∧x≤65536
theorem Cs.start(n:Nat)(h:n≤65536):Cs n n (7+n):=by unfold Cs qg;omega
theorem Cs.next{n x z:Nat}(h:Cs n x z)(hx:127<x):Cs n (x / 128) (z+1):=by
 obtain⟨h1,h2⟩:=h;rw[fH,ay (by omega)]at h1;exact⟨by omega,by omega⟩
theorem Cs.stop{n x z:Nat}(h:Cs n x z)(hx:¬127<x):z=qg n:=by
 obtain⟨h1,_⟩:=h;rw[fH,aA (by omega)]at h1;omega

theorem amJ{l:List UInt8}(h:(gq l).2.2=1)(h2:2≤l.length):((dQ (l.drop 2)).2.2=1∧wP l=0)∨((dQ (l.drop 2)).2.2=0∧(dQ (l.drop 2)).1≤65536∧wP l=qg (dQ (l.drop 2)).1):=by
 have hm:jF l=0:=by
  by_cases hm:jF l=0
  ·exact hm
  rw[aaD hm]at h;rcases Tf l with⟨h1,_⟩|⟨_,h1⟩|h1
  ·exact h1
  ·omega
  simp only at h;omega
 rw[aaC hm]at h;unfold wP;rw[ay (by omega)];generalize hV:dQ (l.drop 2)=V at *;obtain⟨n,k,g⟩:=V;rw[aah l n k g hV]at h;simp only;by_cases hg:g=0
 ·subst hg
  rw[ay (by simp)]at h
  right
  by_cases hn:65536<n
  ·rw[aA hn]at h;simp at h
  exact⟨rfl,by omega,by simp⟩
 rw[aA hg]at h
 left
 exact⟨h,by rw[ay hg]⟩
theorem anX(s:ByteArray)(w:World)(hs:s.size≤1000000)(hp:(gq s.data.toList).2.2=1) :
 Calls prog 153 #[.string s] w (aj w (.int .i64 (wP s.data.toList:Int))):=by
 by_cases h2:s.size<2
 ·have hn:wP s.data.toList=0:=by unfold wP;rw[aA (by rw[fK];exact h2)]
  rw[hn];clear hn hp;go_enter func153,ntmps153;go_wp2;go_loop [4] (fun k=>k=.int .i64 2) (fun _=>0)
  case atStart=>rfl
  case round=>
   subst hrel;go_wp2;go_ret;exact⟨rfl,b0⟩
 have hsc:=amJ hp (by rw[fK];omega)
 have hl2:(s.data.toList.drop 2).length=s.size - 2:=by rw[aN,fK]
 generalize hV:dQ (s.data.toList.drop 2)=V at hsc
 obtain⟨n,k,g⟩:=V
 simp only at hsc
 generalize wP s.data.toList=N at hsc⊢
 have Bf:=ah hsc
 have HV:=ah hV
 clear hsc hV hp
 go_enter func153,ntmps153
 go_wp2
 go_loop [3,4] (fun nn kk=>∃i acc:Nat,i≤10∧i≤s.size - 2∧kk=.int .i64 ((i:Int)+2)∧nn=.int .u64 (acc:Int)∧Gt (s.data.toList.drop 2) i acc) (fun _ k=>s.size - (intOf k).toNat)
 case atStart=>exact⟨0,0,by omega,by omega,rfl,rfl,by unfold In64;omega,fun _=>⟨by decide,rfl⟩,fun h=>by omega⟩
 case round=>
  obtain⟨i,acc,hi,his,rfl,rfl,hg⟩:=hrel;have HG:=ah hg;clear hg;have JG:i<10:=by
   by_cases e:i=10
   ·have h3:=HG.out.2.2 e
    rw[HV.out]at h3;injection h3 with _ h3;injection h3 with _ h3;rcases Bf.out with⟨h,_⟩|⟨h,_⟩<;>omega
   omega
  by_cases hlt:i+2<s.size
  ·have em:=mask127 s[i+2]
   obtain⟨X,hX,wQ,Jv⟩:=acz acc s[i+2].toNat i HG.out.1;have HX:=ah (And.intro wQ Jv);have hd:(s.data.toList.drop 2).drop i=s[i+2]::(s.data.toList.drop 2).drop (i+1):=by
    rw[cZ,cZ,Nat.add_comm 2 i,drop_at s (i+2) hlt];congr 2;omega
   have HD:=ah hd;clear wQ Jv hd;by_cases h1:128≤s[i+2].toNat
   ·have hn:=HG.out.next JG HD.out rfl h1 HX.out.1 HX.out.2
    have QD:=ah hn;clear hn;go_wp2;go_round
    case rel=>exact⟨i+1,X,by omega,by omega,by go_num,rfl,QD.out⟩
    case measure=>simp[intOf];omega
   have hst:=HG.out.stop JG HD.out h1;rw[HV.out]at hst;have hnX:n=X∧g=0:=by
    by_cases h9:i=9∧1<s[i+2].toNat
    ·rw[aA h9]at hst
     injection hst with _ h3;injection h3 with _ h3;rcases Bf.out with⟨h,_⟩|⟨h,_⟩<;>omega
    rw[ay h9]at hst;by_cases h0:0<i∧s[i+2].toNat=0
    ·rw[aA h0]at hst
     injection hst with _ h3;injection h3 with _ h3;rcases Bf.out with⟨h,_⟩|⟨h,_⟩<;>omega
    rw[ay h0]at hst;injection hst with h1' h3;injection h3 with _ h3;refine⟨?_,h3⟩;rw[HX.out.2 (HG.out.2.1 JG).1 JG (fun h=>by omega),Nat.mod_eq_of_lt (by omega)];exact h1'
   obtain⟨rfl,hg0⟩:=hnX;have hnn:n≤65536∧N=qg n:=by
    rcases Bf.out with⟨h,_⟩|⟨_,h,h'⟩
    ·omega
    exact⟨h,h'⟩
   obtain⟨hnl,rfl⟩:=hnn;clear hst;go_wp2_with fail;refine(aaJ n _ hnl).mono ?_;rintro e w1 ⟨rfl,hb1⟩;go_wp2;go_ret;exact⟨rfl,hb1⟩
  have hN:N=0:=by
   have h4:=(HG.out.2.1 JG).2;rw[HV.out,show List.drop i (List.drop 2 s.data.toList)=[]from List.drop_eq_nil_of_le (by rw[hl2];omega),pV,ay (by omega)]at h4;injection h4 with _ h3;injection h3 with _ h3;rcases Bf.out with⟨_,h⟩|⟨h,_⟩
   ·exact h
   omega
  subst hN;go_wp2;go_ret;exact⟨rfl,b0⟩
def qN(w:World)(d:Nat)(v:Value)(rest:List UInt8)(need err count:Nat):Prop :=
 dU w d 178 #[v,.int .i64 (need:Int),.int .i64 (err:Int),.int .i64 (count:Int)]∧Buf w 5 v rest∧foot v≠some d
theorem qN.fE{S:Nat→Prop}{w w':World}{d:Nat}{v:Value}{rest:List UInt8}{need err count:Nat}(h:qN w d v rest need err count)(hg:dX S w w')(hd:¬S d)(hf:∀g,foot v=some g→¬S g):qN w' d v rest need err count :=
 ⟨h.1.fE hg hd,h.2.1.fE hg hf,h.2.2⟩
theorem qN.below{w w':World}{d:Nat}{v:Value}{rest:List UInt8}{need err count:Nat}(h:qN w d v rest need err count)(hb:Below w.heap.size w w'):qN w' d v rest need err count :=
 h.fE (S:=fun _=>False) (dX.below hb) id fun _ _=>id
theorem new_any(w:World) :
 Calls prog 52 #[] w fun e w'=>∃d,e=.returned (.pointer (some ⟨d,0,none⟩))∧w.heap.size≤d∧qN w' d (.slice none 0 0) [] 0 0 0∧Below w.heap.size w w':=by
 go_enter func52,ntmps52
 go_wp2
 go_ret
 exact⟨_,rfl,au _,⟨dU.made _ _ _,Buf.nil _ _,by simp[foot]⟩,ba b0 _⟩
theorem SI(d:Nat)(v:Value)(R:List UInt8)(need err count:Nat)(w:World)(h:qN w d v R need err count) :
 Calls prog 55 #[.pointer (some ⟨d,0,none⟩)] w (aj w (.int .i64 (err:Int))):=by
 obtain⟨hd,_,_⟩:=h
 have c2:=hd.cell 2
 simp at c2
 clear hd
 go_enter func55,ntmps55
 go_wp2
 go_ret
 exact⟨rfl,b0⟩
theorem anS(d:Nat)(v:Value)(R:List UInt8)(need err count:Nat)(w:World)(h:qN w d v R need err count) :
 Calls prog 56 #[.pointer (some ⟨d,0,none⟩)] w (aj w (.int .i64 (R.length:Int))):=by
 obtain⟨hd,hb,_⟩:=h
 obtain⟨A,c,rfl⟩:=hb.len
 have c2:=hd.cell 0
 simp at c2
 clear hd hb
 go_enter func56,ntmps56
 go_wp2
 go_ret
 exact⟨rfl,b0⟩
def zy(S done:List ByteArray)(E:Nat)(Rest:List UInt8)(t:List UInt8):Prop:=S=done++(fZ t).1.map txt∧E=(fZ t).2.1∧Rest=(fZ t).2.2
theorem zy.next{S done:List ByteArray}{E:Nat}{Rest t:List UInt8}(h:zy S done E Rest t)(h0:(gq t).2.2=0):zy S (done++[txt (gq t).1]) E Rest (t.drop (gq t).2.1):=by
 obtain⟨h1,h2,h3⟩:=h;rw[Gx h0]at h1 h2 h3;exact⟨by rw[h1];simp,h2,h3⟩
theorem zy.short{S done:List ByteArray}{E:Nat}{Rest t:List UInt8}(h:zy S done E Rest t)(h0:(gq t).2.2=1):S=done∧E=0∧Rest=t:=by
 obtain⟨h1,h2,h3⟩:=h;rw[BH h0]at h1 h2 h3;exact⟨by simpa using h1,h2,h3⟩
theorem zy.bad{S done:List ByteArray}{E:Nat}{Rest t:List UInt8}(h:zy S done E Rest t)(h0:(gq t).2.2≠0)(h1':(gq t).2.2≠1):S=done∧E=(gq t).2.2∧Rest=[]:=by
 obtain⟨h1,h2,h3⟩:=h;rw[Gw h0 h1']at h1 h2 h3;exact⟨by simpa using h1,h2,h3⟩
def adY(w:World)(d:Nat)(S:List ByteArray)(Rest:List UInt8)(E count:Nat)(e:Ending)(w':World):Prop :=
 ∃r v',e=.returned r∧w'.ownsRow w.heap.size 9 1 r S.length (strs S)∧dX (·=d) w w'∧qN w' d v' Rest (if E=0 then wP Rest else 0) E (count+S.length)∧∀g,foot v'=some g→w.heap.size≤g
theorem af5(d:Nat)(v:Value)(R:List UInt8)(need count:Nat)(w:World)(h:qN w d v R need 0 count)(hR:R.length≤1000000)(hcn:count≤4000000000000000000) :
 Calls prog 97 #[.pointer (some ⟨d,0,none⟩)] w (adY w d ((fZ R).1.map txt) (fZ R).2.2 (fZ R).2.1 count):=by
 have hst:zy ((fZ R).1.map txt) [] (fZ R).2.1 (fZ R).2.2 R:=⟨rfl,rfl,rfl⟩
 generalize(fZ R).1.map txt=S at hst⊢
 generalize(fZ R).2.1=E at hst⊢
 generalize(fZ R).2.2=Rest at hst⊢
 have HST:=ah hst
 clear hst
 obtain⟨hd,hb,hv⟩:=h
 have hcv:=hb.back (P:=prog) 42 9 underlying42 underlying5 underlying9
 obtain⟨A,c,rfl⟩:=hb.len
 have c0:=hd.cell 0
 simp at c0
 have hdl:=hd.lt
 have HD:=ah hd
 obtain⟨i0,hi0,hz0,hz1,hz2⟩:=info_parts OH
 clear hd hb hv
 go_enter func97,ntmps97
 go_wp2
 go_loopw [3,4] (fun v sl wr=>∃(t:ByteArray) (done:List ByteArray),sl=.string t∧zy S done E Rest t.data.toList∧done.length+t.size≤R.length∧wr.ownsRow w.heap.size 9 1 v done.length (strs done)∧
  dU wr d 178 #[.slice A R.length c,.int .i64 (need:Int),.int .i64 ((0:Nat):Int),.int .i64 ((count+done.length:Nat):Int)]∧dX (·=d) w wr) (fun _ sl _=>strLen sl)
 case atStart=>exact⟨txt R,[],rfl,HST.out,by simp[gI],World.ownsRow_nil _ _ _ _,HD.out,dX.refl _ _⟩
 case round=>
  obtain⟨t,done,rfl,hfo,hlen,hown,hd,kV⟩:=hrel;have HF:=ah hfo;have HO:=ah hown;have HD2:=ah hd;have HW:=ah kV;clear hfo hown hd kV;go_wp2_with fail;refine(parse_any t _ (by omega)).mono ?_;rintro e w1 ⟨rfl,hb1⟩;have hnx:=fun h=>HF.out.next h;have hsh:=fun h=>HF.out.short h;have hbd:=fun h h'=>HF.out.bad h h';have hok:=fun h=>Gy (s:=t.data.toList) h;generalize hV:gq t.data.toList=V at hnx hsh hbd hok;obtain⟨q,k,g⟩:=V;simp only at hnx hsh hbd hok;have hd1:=HD2.out.below hb1 HD2.out.lt;have aou:=hd1.lt;have hs1:=aI HW.out.size hb1.size;have e0:=hd1.cell 0;have e1:=hd1.cell 1;have e2:=hd1.cell 2;have e3:=hd1.cell 3;have f0:=hd1.free 0;have f1:=hd1.free 1;have f2:=hd1.free 2;have f3:=hd1.free 3;simp at e0 e1 e2 e3;have HD3:=ah hd1;have rP:=ah (own_below HO.out hb1);have HW3:=ah (HW.out.bel hb1);clear hd1 hb1
  have kP:=ah hnx;have HSH:=ah hsh;have wY:=ah hbd;have lT:=ah hok;have HV:=ah hV;clear hnx hsh hbd hok hV;by_cases h1:g=1
  ·subst h1
   obtain⟨rfl,rfl,rfl⟩:=HSH.out rfl;have hcv2:=run_bytes_of_string (P:=prog) w1 9 42 5 t underlying9 underlying42 underlying5;have hge:=grownCap_ge w1 t.size 0 5;generalize grownCap w1 t.size 0 5=cap at hcv2 hge;go_wp2_with fail
   have hwq:dU ((w1.setCell ⟨d,0,none⟩ (.slice (some ⟨w1.heap.size,0,none⟩) t.size cap)).alloc (.cells (bytesRow t cap) 5 ((bytesRow t cap).size,(bytesRow t cap).size+1))).drew d 178
    #[.slice (some ⟨w1.heap.size,0,none⟩) t.size cap,.int .i64 (need:Int),.int .i64 ((0:Nat):Int),.int .i64 ((count+S.length:Nat):Int)]:=(((HD3.out.put 0 _).more _).dr)
   have hbq:Buf ((w1.setCell ⟨d,0,none⟩ (.slice (some ⟨w1.heap.size,0,none⟩) t.size cap)).alloc (.cells (bytesRow t cap) 5 ((bytesRow t cap).size,(bytesRow t cap).size+1))).drew 5 (.slice (some ⟨w1.heap.size,0,none⟩) t.size cap) t.data.toList :=
    Buf.aeI (by have:=heap_alloc_new (w1.setCell ⟨d,0,none⟩ (.slice (some ⟨w1.heap.size,0,none⟩) t.size cap)) (.cells (bytesRow t cap) 5 ((bytesRow t cap).size,(bytesRow t cap).size+1));rwa [show(w1.setCell ⟨d,0,none⟩ (.slice (some ⟨w1.heap.size,0,none⟩) t.size cap)).heap.size=w1.heap.size by simp[World.setCell]]at this) hge
   have hgw:dX (fun k=>k=d) w1 ((w1.setCell ⟨d,0,none⟩ (.slice (some ⟨w1.heap.size,0,none⟩) t.size cap)).alloc (.cells (bytesRow t cap) 5 ((bytesRow t cap).size,(bytesRow t cap).size+1))).drew:=((((dX.refl (fun k=>k=d) w1).put (p:=⟨d,0,none⟩) (fun _=>rfl) _).more _).dr);generalize((w1.setCell ⟨d,0,none⟩ (.slice (some ⟨w1.heap.size,0,none⟩) t.size cap)).alloc (.cells (bytesRow t cap) 5 ((bytesRow t cap).size,(bytesRow t cap).size+1))).drew=W at hwq hbq hgw⊢;refine(anX t W (by omega) (by rw[HV.out])).mono ?_;rintro e w2 ⟨rfl,hb2⟩;have UH:=hwq.below hb2 hwq.lt;have g1:=UH.cell 1;have k1:=UH.free 1;simp at g1;go_wp2_with fail;go_ret;have hT:dX (·=d) w1 (w2.setCell ⟨d,1,none⟩ (.int .i64 (wP t.data.toList:Int))):=(hgw.bel hb2).put (p:=⟨d,1,none⟩) (fun _=>rfl) _
   have Uh:∀g,foot (.slice (some ⟨w1.heap.size,0,none⟩) t.size cap)=some g→g=w1.heap.size:=fun g hg=>by
    simp only[foot]at hg;split at hg
    ·cases hg
    injection hg with hg;exact hg.symm
   refine⟨_,_,rfl,?_,?_,⟨UH.put 1 _,?_,?_⟩,?_⟩
   ·exact tK rP.out hT fun g hg e=>by have:=(rP.out.lt g hg).1;omega
   ·exact HW3.out.trans hT fun _ _ e=>e
   ·exact(hbq.below hb2).fE ((dX.refl (fun k=>k=d) _).put (p:=⟨d,1,none⟩) (fun _=>rfl) _) fun g hg e=>by have:=Uh g hg;omega
   ·intro e;have:=Uh d e;omega
   intro g hg;have:=Uh g hg;omega
  by_cases h0:g=0
  ·subst h0
   have aef:=ah (kP.out rfl);obtain⟨k1,k2,j1,j2,j3⟩:=lT.out rfl;rw[fK]at k2;clear j1 j2 j3 e0 e1 e2 e3 f0 f1 f2 f3;have hown:=rP.out
   go_wp2_with(at_builtin;go_must(refine wpList_append_own _ rfl _ _ 50 rfl w.heap.size 9 i0 (.string ByteArray.empty) 1 16 underlying50 hi0 hz0 hz1 hz2 rfl (by decide) _ _ _ rfl (hown.alloc _) ⟨w1.heap.size,0,none⟩ 1 1 [.string (txt q)] rfl rfl (Ku _ _ _) (Vp _) (by unfold maxLen;omega) (by omega) (by simp;omega) ?_);intro v1 w2 hown2 hg2 _;have hTa:dX (·=d) w w2:=(HW3.out.more _).trans (dX.grown (S:=fun g=>u3.ownBlock=some g) hg2 (fun g hg _=>hg)) (fun g _ hg=>by have:=(rP.out.lt g hg).1;omega);have hd2:=(HD3.out.more (.cells #[.string (txt q)] 9)).step hg2 (by intro e;have:=(rP.out.lt d e.symm).1;omega);have e3:=hd2.cell 3;have f3:=hd2.free 3;simp at e3;have FU:=ah hTa;have HD4:=ah hd2;have FM:=ah hown2;clear hTa hd2 hown2 hg2 hown);go_roundw
   case rel=>
    have hT:dX (fun k=>k=d) w2 (w2.setCell ⟨d,3,none⟩ (.int .i64 ((count:Int)+(done.length:Int)+1))):=(dX.refl (fun k=>k=d) w2).put (p:=⟨d,3,none⟩) (fun _=>rfl) _;refine⟨_,done++[txt q],rfl,by rw[BG];exact aef.out,?_,?_,?_,FU.out.trans hT fun _ _ e=>e⟩
    ·simp
     omega
    ·refine tK (v:=v1) ?_ hT fun g hg e=>?_
     ·simpa[strs]using FM.out
     have:=(FM.out.lt g hg).1;omega
    have:=HD4.out.put 3 (.int .i64 ((count:Int)+(done.length:Int)+1));simp at this⊢;rw[Int.add_assoc]at this;exact this
   case measure=>
    simp[strLen];omega
  obtain⟨rfl,rfl,rfl⟩:=wY.out h0 h1;have n1:((E:Int)==1)=false:=by rw[aB];omega
  have n0:((E:Int) != 0)=true:=by rw[aZ];omega
  go_wp2_with fail;go_ret;have hT:dX (·=d) w1 (((w1.setCell ⟨d,0,none⟩ (.slice none 0 0)).setCell ⟨d,1,none⟩ (.int .i64 0)).setCell ⟨d,2,none⟩ (.int .i64 (E:Int))):=(((dX.refl (fun k=>k=d) w1).put (p:=⟨d,0,none⟩) (fun _=>rfl) _).put (p:=⟨d,1,none⟩) (fun _=>rfl) _).put (p:=⟨d,2,none⟩) (fun _=>rfl) _;exact⟨_,_,rfl,tK rP.out hT fun g hg e=>by have:=(rP.out.lt g hg).1;omega,HW3.out.trans hT fun _ _ e=>e,⟨by rw[ay h0];exact((HD3.out.put 0 _).put 1 _).put 2 _,Buf.nil _ _,by simp[foot]⟩,fun g hg=>by simp[foot]at hg⟩
theorem akr{w:World}{base:Nat}{e:TypeId}{n:Nat}{v:Value}{xs:List Value}(h:w.ownsRow base e 1 v n xs):(v=.slice none 0 0∧n=0∧xs=[])∨
 ∃g cap,v=.slice (some ⟨g,0,none⟩) n cap∧base≤g∧∀j u,xs[j]?=some u→w.cell? ((⟨g,0,none⟩:Addr).add j)=some u:=by
 rcases h.2 with⟨rfl,rfl⟩|⟨g,cap,cur,rfl,hb,hg,hn,_⟩
 ·refine .inl ⟨rfl,rfl,?_⟩
  have:=h.1;simpa using this
 ·exact .inr ⟨g,cap,rfl,hb,h.cells (g:=g) rfl⟩
theorem amV(l:List ByteArray):∀u∈strs l,u.oneCell'=true:=by
 intro u hu;obtain⟨x,_,rfl⟩:=dL.1 hu;rfl
def WB(w:World)(d:Nat)(v:Value)(count:Nat)(x:List (List UInt8)×Nat×List UInt8)(en:Ending)(w':World):Prop :=
 ∃r v' need',en=.returned r∧w'.ownsRow w.heap.size 9 1 r x.1.length (strs (x.1.map txt))∧dX (fun k=>k=d∨foot v=some k) w w'∧qN w' d v' x.2.2 need' x.2.1 (count+x.1.length)∧St x.2.2 need' x.2.1∧
  (foot v'=foot v∨∀g,foot v'=some g→w.heap.size≤g)
def zx(w:World)(d:Nat)(v:Value)(count:Nat)(x:List (List UInt8)×Nat×List UInt8)(r:Value)(w':World):Prop :=
 ∃v' need',w'.ownsRow w.heap.size 9 1 r x.1.length (strs (x.1.map txt))∧dX (fun k=>k=d∨foot v=some k) w w'∧qN w' d v' x.2.2 need' x.2.1 (count+x.1.length)∧St x.2.2 need' x.2.1∧
  (foot v'=foot v∨∀g,foot v'=some g→w.heap.size≤g)
theorem zx.end_{w:World}{d:Nat}{v:Value}{count:Nat}{x:List (List UInt8)×Nat×List UInt8}{r:Value}{w':World}(h:zx w d v count x r w'):WB w d v count x (.returned r) w':=by
 obtain⟨v',need',h1,h2,h3,h4,h5⟩:=h;exact⟨r,v',need',rfl,h1,h2,h3,h4,h5⟩
theorem ag4{e:Nat}{R t:List UInt8}:(lI e R t).1.length+(lI e R t).2.2.length≤R.length+t.length:=by
 unfold lI;split
 ·have:=aaA (R++t)
  rw[aC]at this;exact this
 simp
theorem ag6(d:Nat)(v:Value)(R:List UInt8)(need e count:Nat)(A:Option Addr)(cap:Nat)(l:List ByteArray)(w:World)(h:qN w d v R need e count)(hst:St R need e)(hr:Rd w A (strs l))
 (hA:∀b off,A=some ⟨b,off,none⟩→b≠d∧foot v≠some b) (hn:R.length+(flat l).length≤1000000) (hl:l.length≤9223372036854775807) (hcn:count≤3000000000000000000) :
 Calls prog 53 #[.pointer (some ⟨d,0,none⟩),.slice A l.length cap] w (WB w d v count (lI e R (flat l))):=by
 have HN:∀k,(lI e R (flat (l.take k))).1.length+(lI e R (flat (l.take k))).2.2.length≤R.length+(flat (l.take k)).length:=fun k=>ag4
 have iq:∀k,(flat (l.take k)).length≤(flat l).length:=ahc l
 have HR:=ah hr
 have H0:Hid (zx w d v count (lI e R []) (.slice none 0 0) w):=by
  show zx _ _ _ _ _ _ _;rw[ag5 hst];exact⟨v,need,World.ownsRow_nil _ _ _ _,dX.refl _ _,h,hst,.inl rfl⟩
 have HA:=ah hA
 have HF:=ah (fun g (hg:foot v=some g)=>h.2.1.aho hg)
 have hdw:=h.1.lt
 have jh:=ah (And.intro HN iq)
 obtain⟨i0,hi0,hz0,hz1,hz2⟩:=info_parts OH
 obtain⟨i1,hi1,hy0,hy1,hy2⟩:=info_parts (show(prog.info? 5).map (fun i=>(i.zero,i.size,i.bytes))=some (some (.int .u8 0),1,1)by kernel_rfl)
 clear h hst hr hA HN iq
 go_enter func53,ntmps53
 go_wp2
 go_loopw [5,12] (fun sl kk wr=>∃k:Nat,k≤l.length∧kk=.int .i64 (k:Int)∧zx w d v count (lI e R (flat (l.take k))) sl wr) (fun _ kk _=>l.length - (intOf kk).toNat)
 case atStart=>exact⟨0,by omega,rfl,H0.out⟩
 case round=>
  obtain⟨k,hk,rfl,hat⟩:=hrel;by_cases hlt:k<l.length
  ·have hmo:=aal e R (flat (l.take k)) l[k].data.toList
   rw[← aaw hlt]at hmo;have wH:=ah hlt;have hl1:=jh.out.1 (k+1);have hl2:=jh.out.2 (k+1);have hl3:=jh.out.1 k;have hl4:=jh.out.2 k;have hl5:(flat (l.take k)).length+l[k].size≤(flat l).length:=(by rw[aaw hlt,aC,fK]at hl2;exact hl2);have gB:Hid ((lI e R (flat (l.take k))).2.1≠0→lI e R (flat l)=lI e R (flat (l.take k))):=fun hne=>by
    have:=aal e R (flat (l.take k)) (flat (l.drop k));rw[ay hne]at this;rw[← this];unfold flat
    rw[← List.flatMap_append,dG]
   have kP:Hid (∀x,lI e R (flat (l.take (k+1)))=x→∀sl wr,zx w d v count x sl wr→∃k':Nat,k'≤l.length∧Value.int .i64 ((k:Int)+1)=.int .i64 (k':Int)∧zx w d v count (lI e R (flat (l.take k'))) sl wr) :=
    fun x hx sl wr hf=>⟨k+1,by have:=wH.out;omega,by go_num,hx▸hf⟩
   have ahU:∃b off,A=some ⟨b,off,none⟩∧wr.cell? ⟨b,off+k,none⟩=some (.string l[k]):=by
    obtain⟨v1,Hf,_,ht,_⟩:=hat
    obtain⟨b,off,iL,hb,hc⟩:=(HR.out.fE ht (fun b off e=>by have:=HA.out b off e;rintro(h|h);exact this.1 h;exact this.2 h)).at_ (k:=k) (by rw[PG];exact hlt);rw[VW l k hlt]at hc;exact⟨b,off,iL,hc⟩
   obtain⟨b,off,rfl,hc⟩:=ahU;generalize l[k]=p at *;generalize lI e R (flat (l.take (k+1)))=X1 at *;generalize lI e R (flat (l.take k))=X0 at *;obtain⟨v1,Hf,hown,kV,hdf,hst,hfo⟩:=hat
   obtain⟨done,e1,R1⟩:=X0;simp only at hown hdf hst hl3 hmo gB;clear hl1 hl2 jh;have hd:=hdf.1;have hdl:=hd.lt;have e2:=hd.cell 2;have e0:=hd.cell 0;simp at e2 e0;have HD:=ah hdf;have HOWN:=ah hown;have HT:=ah kV;have HST:=ah hst;have rH:=ah hfo;have XB:=ah hmo;clear hdf hown kV hst hfo hd hmo;by_cases he:e1=0
   ·subst he
    obtain⟨v2,w2,hrun,hb2,ht2,hf2⟩:=YX (P:=prog) HD.out.2.1 p 42 9 42 i1 underlying42 underlying9 hi1 hy0 hy1 hy2 (by omega);have hd2:=HD.out.1.fE ht2 HD.out.2.2;have aot:=hd2.lt;have f0:=hd2.free 0;have g0:=hd2.cell 0;simp at g0;have HD2:=ah hd2;have hw2:=ht2.size;have hNN:(R1++p.data.toList).length=R1.length+p.size:=(by rw[aC,fK]);obtain⟨A2,c2,hv2⟩:=hb2.len;rw[hNN]at hv2;subst hv2;have hfd:foot (.slice A2 (R1.length+p.size) c2)≠some d:=hb2.acp hd2 (by decide);have hTs:dX (fun k=>k=d∨foot v1=some k) wr (w2.setCell ⟨d,0,none⟩ (.slice A2 (R1.length+p.size) c2)):=(ht2.imp (S':=fun k=>k=d∨foot v1=some k) (fun _ _ h=>.inr h)).put (p:=⟨d,0,none⟩) (fun _=>.inl rfl) _;have hdW:qN (w2.setCell ⟨d,0,none⟩ (.slice A2 (R1.length+p.size) c2)) d (.slice A2 (R1.length+p.size) c2) (R1++p.data.toList) Hf 0 (count+done.length) :=
     ⟨hd2.put 0 _,hb2.fE ((dX.refl (fun k=>k=d) w2).put (p:=⟨d,0,none⟩) (fun _=>rfl) _) (fun g hg e=>hfd (e▸hg)),hfd⟩
    have aa4:foot (.slice A2 (R1.length+p.size) c2)=foot v∨∀g,foot (.slice A2 (R1.length+p.size) c2)=some g→w.heap.size≤g:=by
     rcases hf2 with h|h
     ·rw[h];exact rH.out
     exact .inr fun g hg=>aI HT.out.size (h g hg)
    have hoW:=tK HOWN.out hTs fun g hg e=>by
     rcases e with e|e
     ·have:=(HOWN.out.lt g hg).1;omega
     exact HD.out.2.1.acr HOWN.out (by decide) g hg e
    have hTW:=HT.out.trans hTs (S:=fun k=>k=d∨foot v=some k) fun g hg e=>by
     rcases e with e|e
     ·exact .inl e
     rcases rH.out with h|h
     ·exact .inr (h▸e)
     have:=h g e;omega
    have lC:=ah hrun;have jh:=ah hNN;clear hrun hb2 hf2 ht2 hd2 hfd hTs hNN;have Qj:=ah hdW;have ad5:=ah aa4;have HOW:=ah hoW;have QX:=ah hTW;clear hdW aa4 hoW hTW;go_wp2_with(at_builtin;go_must(refine wpList_append_run rfl _ _ 42 9 rfl _ _ _ rfl rfl lC.out ?_));generalize w2.setCell ⟨d,0,none⟩ (.slice A2 (R1.length+p.size) c2)=W at *;have hd:=Qj.out.1;have c0:=hd.cell 0;have c1:=hd.cell 1;simp at c0 c1;clear hd e0 e2 f0 g0;by_cases hlen:R1.length+p.size<Hf
    ·have hk:=(HST.out.keep (p:=p.data.toList) (by rw[jh.out];exact hlen))
     have hm:=XB.out;rw[aA trivial,hk.2,bQ]at hm;have HM:=ah hm;have HK:=ah hk.1;clear hk hm;go_quiet(fail);go_wp2;go_roundw
     case rel=>exact kP.out _ HM.out _ _ ⟨_,Hf,HOW.out,QX.out.xK _,Qj.out,HK.out,ad5.out⟩
     case measure=>simp[intOf];omega
    have hm:=XB.out;rw[aA trivial]at hm;have HM:=ah hm;clear hm;have uq:Hid ((R1++p.data.toList).length≤1000000):=(by show _≤_;rw[jh.out];omega);have hws:=QX.out.size;go_quiet(fail);go_wp2_with fail;refine(af5 d _ (R1++p.data.toList) Hf (count+done.length) _ (show qN (W.drewN nq) _ _ _ _ _ _ from Qj.out) uq.out (by omega)).mono ?_;rintro e' w3 ⟨r,v3,rfl,hor,ht3,NY,hfr⟩;have hsl:=aaA (R1++p.data.toList);rw[jh.out]at hsl;have hfin:∀r' w4,w4.ownsRow w.heap.size 9 1 r' (done.length+(fZ (R1++p.data.toList)).1.length) (strs (done.map txt)++strs ((fZ (R1++p.data.toList)).1.map txt))→w3.grownBy w4 u5.ownBlock→zx w d v count X1 r' w4:=fun r' w4 ho4 hg4=>by
     have hou:=tK (w:=W.drewN nq) (S:=fun k=>k=d) HOW.out ht3 fun g hg e=>(by have:=(HOW.out.lt g hg).1;omega);rw[HM.out];refine⟨v3,_,?_,((QX.out.xK nq).trans ht3 fun g _ h=>.inl h).trans (dX.grown (S:=fun g=>u5.ownBlock=some g) hg4 fun g hg _=>hg) fun g hlt hg=>?_,?_,St.fZ (R1++p.data.toList),.inr fun g hg=>aI hws (hfr g hg)⟩
     ·simp only[aC,dB]
      rw[show strs (done.map txt++(fZ (R1++p.data.toList)).1.map txt)=strs (done.map txt)++strs ((fZ (R1++p.data.toList)).1.map txt)by simp[strs]];exact ho4
     ·have:=(HOW.out.lt g hg).1;omega
     have hc:count+done.length+((fZ (R1++p.data.toList)).1.map txt).length=count+(done++(fZ (R1++p.data.toList)).1).length:=(by simp[Nat.add_assoc]);rw[hc]at NY;exact NY.fE (dX.grown (S:=fun g=>u5.ownBlock=some g) hg4 fun g hg _=>hg) (fun hg=>by have:=(HOW.out.lt d hg).1;omega) fun g hg e=>NY.2.1.acr hou (by decide) g e hg
    have hou:=tK (w:=W.drewN nq) (S:=fun k=>k=d) HOW.out ht3 fun g hg e=>(by have:=(HOW.out.lt g hg).1;omega);have hw3:=ht3.size;have hsl2:((fZ (R1++p.data.toList)).1.map txt).length=(fZ (R1++p.data.toList)).1.length:=aY _;rw[hsl2]at hor;have Xd:=ah hfin;have QG:=ah hou;clear hfin hou ht3 NY hfr hsl2;generalize(fZ (R1++p.data.toList)).1=L at *;rcases akr hor with⟨rfl,hn0,hxs⟩|⟨g,cp,rfl,hgb,hsrc⟩
    ·have Yy:=ah (And.intro hn0 hxs)
     clear hn0 hxs hor;go_wp2_with(at_builtin;go_must(refine wpList_append_own_none rfl _ _ 50 rfl w.heap.size 9 i0 1 underlying50 hi0 _ _ _ rfl QG.out rfl ?_));go_roundw
     case rel=>exact kP.out _ rfl _ _ (Xd.out _ _ (by rw[Yy.out.1,Yy.out.2,bQ];exact QG.out) (NK _ _))
     case measure=>simp[intOf];omega
    have QF:=ah hor;have aei:=ah hsrc;clear hor hsrc;have aiB:w.heap.size≤w3.heap.size:=aI hws hw3;go_wp2_with(at_builtin;go_must(refine wpList_append_own _ rfl _ _ 50 rfl w.heap.size 9 i0 (.string ByteArray.empty) 1 16 underlying50 hi0 hz0 hz1 hz2 rfl (by decide) _ _ _ rfl QG.out ⟨g,0,none⟩ L.length cp (strs (L.map txt)) rfl QF.out.1 aei.out (amV _) (by unfold maxLen;omega) (by omega) aiB ?_);intro v4 w4 hown4 hg4 _;have FM:=ah hown4;have rJ:=ah hg4;clear hown4 hg4);go_roundw
    case rel=>exact kP.out _ rfl _ _ (Xd.out _ _ FM.out rJ.out)
    case measure=>simp[intOf];omega
   have n0:((e1:Int) != 0)=true:=(by rw[aZ];omega);have HE:=gB.out he;have HE2:=ah HE;clear HE;go_wp2;go_ret;rw[HE2.out];exact zx.end_ ⟨v1,Hf,HOWN.out,HT.out,HD.out,HST.out,rH.out⟩
  obtain rfl:k=l.length:=by omega
  rw[List.take_length]at hat
  have HAT:=ah hat
  clear hat jh;go_wp2;go_ret;exact HAT.out.end_

def Fd(B:Nat)(w:World)(d:Nat)(v:Value)(R:List UInt8)(need e count:Nat):Prop:=qN w d v R need e count∧St R need e∧B≤d∧∀g,foot v=some g→B≤g
theorem Fd.below{B:Nat}{w w':World}{d:Nat}{v:Value}{R:List UInt8}{need e count:Nat}(h:Fd B w d v R need e count)(hb:Below w.heap.size w w'):Fd B w' d v R need e count :=
 ⟨h.1.below hb,h.2⟩
def WA(B:Nat)(w:World)(d:Nat)(v:Value)(count:Nat)(x:List (List UInt8)×Nat×List UInt8)(en:Ending)(w':World):Prop :=
 ∃r v' need',en=.returned r∧w'.ownsRow w.heap.size 9 1 r x.1.length (strs (x.1.map txt))∧dX (fun k=>k=d∨foot v=some k) w w'∧Below B w w'∧Fd B w' d v' x.2.2 need' x.2.1 (count+x.1.length)∧
  (foot v'=foot v∨∀g,foot v'=some g→w.heap.size≤g)
theorem aan(B d:Nat)(v:Value)(R:List UInt8)(need e count:Nat)(A:Option Addr)(cap:Nat)(l:List ByteArray)(w:World)(h:Fd B w d v R need e count)(hB:B≤w.heap.size)(hr:Rd w A (strs l))
 (hA:∀b off,A=some ⟨b,off,none⟩→b≠d∧foot v≠some b) (hn:R.length+(flat l).length≤1000000) (hl:l.length≤9223372036854775807) (hcn:count≤3000000000000000000) :
 Calls prog 53 #[.pointer (some ⟨d,0,none⟩),.slice A l.length cap] w (WA B w d v count (lI e R (flat l))):=by
 obtain⟨h,hst,hd,hf⟩:=h
 refine(ag6 d v R need e count A cap l w h hst hr hA hn hl hcn).mono ?_
 rintro en w' ⟨r,v',need',he,ho,ht,hd',hst',hf'⟩
 refine⟨r,v',need',he,ho,ht,ht.iI hB fun g hg e=>?_,⟨hd',hst',hd,fun g hg=>?_⟩,hf'⟩
 ·rcases e with e|e
  ·omega
  have:=hf g e;omega
 ·rcases hf' with h|h
  ·exact hf g (h▸hg)
  exact aI hB (h g hg)
theorem aao(B d:Nat)(v:Value)(R:List UInt8)(need e count:Nat)(x:ByteArray)(g:Nat)(w:World)(h:Fd B w d v R need e count)(hB:B≤w.heap.size)(hg:dU w g 9 #[.string x])
 (hn:R.length+x.size≤1000000) (hcn:count≤3000000000000000000) :
 Calls prog 53 #[.pointer (some ⟨d,0,none⟩),.slice (some ⟨g,0,none⟩) 1 1] w (WA B w d v count (lI e R x.data.toList)):=by
 have:=aan B d v R need e count (some ⟨g,0,none⟩) 1 [x] w h hB (.inr ⟨g,0,rfl,hg.lt,fun j u hj=>?_⟩) (fun b off e=>?_) (by simpa[flat]using hn) (by simp) hcn
 ·simpa[flat]using this
 ·match j,hj with
  |0,hj=>rw[hg.cell];simpa[strs]using hj
 ·injection e with e
  injection e with e _;subst e;exact⟨hg.apart h.1.1 (by decide),h.1.2.1.acp hg (by decide)⟩
theorem acs(w:World) :
 Calls prog 52 #[] w fun e w'=>∃d,e=.returned (.pointer (some ⟨d,0,none⟩))∧w.heap.size≤d∧Fd w.heap.size w' d (.slice none 0 0) [] 0 0 0∧Below w.heap.size w w' :=
 (new_any w).mono fun e w' ⟨d,he,hd,hD,hb⟩=>⟨d,he,hd,⟨hD,St.new,hd,fun g hg=>by simp[foot]at hg⟩,hb⟩
theorem ahh:fZ [81]=([],0,[81]):=BH (by decide)
theorem ahi:fZ [81,71]=([],5,[]):=Gw (by decide) (by decide)
theorem aeP(w:World) :
 Calls prog 320 #[] w (aj w (.bool true)):=by
 go_enter func320,ntmps320
 go_wp2_with fail
 refine(acs _).mono ?_
 rintro e w1 ⟨d,rfl,hd1,hD1,hb1⟩
 have HD1:=ah hD1
 have HB1:=ah hb1
 have hs1:=hb1.size
 clear hD1 hb1
 go_wp2_with fail
 have hm:=dU.made w1 9 #[.string ⟨#[81]⟩]
 have eU:=ba (a:=w1) b0 (.cells #[.string ⟨#[81]⟩] 9)
 generalize w1.alloc (.cells #[.string ⟨#[81]⟩] 9)=W at hm eU⊢
 have hs2:=aI hs1 eU.size
 refine(aao w.heap.size d _ [] 0 0 0 _ _ W (HD1.out.below eU) hs2 hm (by decide) (by decide)).mono ?_
 rw[show lI 0 [] (ByteArray.data ⟨#[81]⟩).toList=([],0,[81])by rw[aam];exact ahh]
 rintro e w2 ⟨r,v2,ao9,rfl,_,_,hb2,hd2,_⟩
 have HD2:=ah hd2
 have HB2:=ah ((HB1.out.trans (eU.mono hs1)).trans hb2)
 clear hd2 hb2 eU hm
 go_wp2_with fail
 refine(SI d _ _ _ _ _ _ HD2.out.1).mono ?_
 rintro e w3 ⟨rfl,hb3⟩
 have HD3:=ah (HD2.out.below hb3)
 have HB3:=ah (bb HB2.out hb3)
 have hs3:=HB3.out.size
 clear hb3
 go_wp2_with fail
 have hm:=dU.made w3 9 #[.string ⟨#[71]⟩]
 have eU:=ba (a:=w3) b0 (.cells #[.string ⟨#[71]⟩] 9)
 generalize w3.alloc (.cells #[.string ⟨#[71]⟩] 9)=W at hm eU⊢
 have hs4:=aI hs3 eU.size
 refine(aao w.heap.size d _ [81] _ 0 _ _ _ W (HD3.out.below eU) hs4 hm (by decide) (by decide)).mono ?_
 rw[show lI 0 [81] (ByteArray.data ⟨#[71]⟩).toList=([],5,[])by unfold lI;rw[aA rfl];exact ahi]
 rintro e w4 ⟨r,v4,apa,rfl,_,_,hb4,hd4,_⟩
 have HD4:=ah hd4
 have HB4:=ah ((HB3.out.trans (eU.mono hs3)).trans hb4)
 clear hd4 hb4 eU hm
 go_wp2_with fail
 refine(ae8 _).mono ?_
 rintro e w5 ⟨rfl,hb5⟩
 have HD5:=ah (HD4.out.below hb5)
 have gY:=ah (bb HB4.out hb5)
 clear hb5
 go_wp2_with fail
 refine(SI d _ _ _ _ _ _ HD5.out.1).mono ?_
 rintro e w6 ⟨rfl,hb6⟩
 have iE:=ah (bb gY.out hb6)
 clear hb6
 go_wp2
 go_ret
 exact⟨rfl,iE.out⟩
theorem ae9(w:World):Calls prog 319 #[] w (aj w (.bool true)):=by
 go_enter func319,ntmps319;go_wp2_with(go_at_call 320;refine(aeP _).mono ?_;rintro e w' ⟨rfl,hb⟩);go_ret;exact⟨rfl,hb⟩
def Tabs(w:World):Prop:=Lib.Utf8Tabs (lays196_ren.g 3) (lays196_ren.g 4) w
theorem Tabs.below{w w':World}(h:Tabs w)(hb:Below w.heap.size w w'):Tabs w':=by
 refine⟨fun c hc=>?_,fun i hi=>?_⟩
 ·have:=h.1 c hc
  exact(hb.cell (p:=⟨_,c,none⟩) (World.block_lt_of_cell? w _ this)).trans this
 have h1:=(h.2 i hi).1;have h2:=(h.2 i hi).2;exact⟨(hb.cell (p:=⟨_,2*i,none⟩) (World.block_lt_of_cell? w _ h1)).trans h1,(hb.cell (p:=⟨_,2*i+1,none⟩) (World.block_lt_of_cell? w _ h2)).trans h2⟩
theorem TB(s:ByteArray)(w:World)(hs:s.size≤9223372036854775807)(hT:Tabs w) :
 Calls prog 178 #[.string s] w (aj w (.bool (jE s.data.toList))):=by
 have HV:Hid (Calls prog 216 #[.string s] w (aj w (.bool (jE s.data.toList)))):=by
  show Calls _ _ _ _ _;have:=Any.utf8_ValidString lays196 s w hs hT;rw[anE]at this;exact this
 generalize jE s.data.toList=g at HV⊢
 clear hT
 go_enter func178,ntmps178
 go_wp2_with fail
 refine HV.out.mono ?_
 rintro e w1 ⟨rfl,hb⟩
 go_wp2
 go_ret
 exact⟨rfl,hb⟩
def jJ(l:List UInt8)(least most:Int):Int:=if(l.length:Int)<least∨most<l.length then 13 else if jE l then 0 else 11
theorem PV(s:ByteArray)(least most:Int)(w:World)(hs:s.size≤9223372036854775807)(hT:Tabs w) :
 Calls prog 141 #[.string s,.int .i64 least,.int .i64 most] w (aj w (.int .i64 (jJ s.data.toList least most))):=by
 unfold jJ
 rw[fK]
 have HG:Hid (Calls prog 178 #[.string s] w (aj w (.bool (jE s.data.toList)))):=TB s w hs hT
 clear hT
 by_cases h1:(s.size:Int)<least
 ·rw[aA (.inl h1)]
  go_enter func141,ntmps141;go_wp2;go_ret;exact⟨rfl,b0⟩
 ·by_cases h2:most<(s.size:Int)
  ·rw[aA (.inr h2)]
   go_enter func141,ntmps141;go_wp2;go_ret;exact⟨rfl,b0⟩
  rw[ay (by omega)];cases hg:jE s.data.toList with
  |true=>
    rw[hg]at HG;clear hg;go_enter func141,ntmps141;go_wp2_with fail;refine HG.out.mono ?_;rintro e w1 ⟨rfl,hb⟩;go_wp2;go_ret;exact⟨rfl,hb⟩
  |false=>
    rw[hg]at HG;clear hg;go_enter func141,ntmps141;go_wp2_with fail;refine HG.out.mono ?_;rintro e w1 ⟨rfl,hb⟩;go_wp2;go_ret;exact⟨rfl,hb⟩
/-! ### The document's answer -/
def ub:Nat→Nat
 |1=>31
 |2=>2047
 |3=>131071
 |_=>8388607
theorem anl{k m d:Nat}(h1:1≤k)(h2:k<4)(hm:m≤ub k)(hd:d<64):64*m+d≤ub (k+1):=by
 match k,h1,h2,hm with
 |1,_,_,hm=>simp[ub]at hm⊢;omega
 |2,_,_,hm=>simp[ub]at hm⊢;omega
 |3,_,_,hm=>simp[ub]at hm⊢;omega
theorem V8(k:Nat):ub k≤8388607:=by
 unfold ub;split<;>omega
def Ua(l:List UInt8)(size n0 k m:Nat):Prop:=1≤k∧k≤size∧m≤ub k∧jg m (size - k) (l.drop k)=jg n0 (size - 1) (l.drop 1)
theorem Ua.no{l:List UInt8}{size n0 k m:Nat}(h:Ua l size n0 k m)(hk:k<size)(hl:k<l.length)(hc:kX l[k]=false):jg n0 (size - 1) (l.drop 1)=none:=by
 rw[← h.2.2.2,show size - k=(size - k - 1)+1 by omega,bI hl,jg,ay (by rw[hc];simp)]
theorem Ua.next{l:List UInt8}{size n0 k m:Nat}(h:Ua l size n0 k m)(hs:size≤4)(hk:k<size)(hl:k<l.length)(hc:kX l[k]=true):Ua l size n0 (k+1) (64*m+(l[k].toNat - 128)):=by
 refine⟨by omega,by omega,anl h.1 (by omega) h.2.2.1 ?_,?_⟩
 ·unfold kX at hc
  simp at hc;omega
 rw[← h.2.2.2,show size - k=(size - k - 1)+1 by omega,bI hl,jg,aA hc,show size - (k+1)=size - k - 1 by omega]
theorem Ua.end_{l:List UInt8}{size n0 m:Nat}(h:Ua l size n0 size m):jg n0 (size - 1) (l.drop 1)=some m:=by
 rw[← h.2.2.2,Nat.sub_self];cases l.drop size<;>rfl
end Go.Proofs.YtgidfnhfgiehjaaGreatDoor
section
namespace Go.PM
open Go.RowKit Go.ChangeShapes Go.WideShapes Go.Deep
section
variable {H:Type} {enc:TypeId×Value→H} {P:Program} {w:World} {spare:Nat→Bool} {held:Bool}
theorem akf{t e:TypeId}{a:Option Addr}{len cap:Nat}{d:DataW H}{ps:List MemPlace}(ht:P.underlying t=some (.slice e))(hpos:0<P.cellsOf e)
 (h:DataW.Trod enc P w 0 spare held t (.slice a len cap) d ps) :
 len≤cap∧cap≤maxLen∧(len=0∨∃b off,a=some ⟨b,off,none⟩∧b<w.heap.size∧∀i,i<len→∃(cs:List Value) (D:DataW H) (Pl:List MemPlace) (n:Nat),cs.length=P.cellsOf e∧
  (∀j,j<P.cellsOf e→w.cell? ⟨b,off+i*P.cellsOf e+j,none⟩=cs[j]?)∧DataW.trod enc P w 0 spare held n e cs=some (D,Pl)):=by
 obtain⟨fuel,hf⟩:=h
 rcases open_slice ht hf with⟨hcs,_⟩|⟨x,ln,c,m,n,D,Pl,hcs,_,hl,hm,hmm,_,hall⟩
 ·simp[Value.cells]at hcs
  obtain⟨rfl,rfl,rfl⟩:=hcs;exact⟨by omega,by unfold maxLen;omega,.inl rfl⟩
 ·simp[Value.cells]at hcs
  obtain⟨rfl,rfl,rfl⟩:=hcs;have hlm:len≤m:=by rw[hmm];split<;>omega
  refine⟨hl,hm,?_⟩;by_cases hz:len=0
  ·exact .inl hz
  right
  obtain⟨b,off,spot⟩:=x;have hs:spot=none:=by
   obtain⟨cs,h1,_⟩:=hall 0 (by omega);obtain⟨_,hlen,hcell⟩:=World.cells?_some h1;have h0:=hcell 0 hpos;rw[aP (by omega)]at h0;simpa[Addr.add]using World.cell?_spot h0
  subst hs;have ha:∀j,(⟨b,off,none⟩:Addr).add j=⟨b,off+j,none⟩:=fun j=>by unfold Addr.add;split<;>simp_all
  have hb':∀q j,(⟨b,q,none⟩:Addr).add j=⟨b,q+j,none⟩:=fun q j=>by unfold Addr.add;split<;>simp_all
  have each:∀i,i<len→∃(cs:List Value) (D:DataW H) (Pl:List MemPlace) (n:Nat),cs.length=P.cellsOf e∧
   (∀j,j<P.cellsOf e→w.cell? ⟨b,off+i*P.cellsOf e+j,none⟩=cs[j]?)∧DataW.trod enc P w 0 spare held n e cs=some (D,Pl):=fun i hi=>by
   obtain⟨cs,h1,h2⟩:=hall i (by omega)
   obtain⟨_,hlen,hcell⟩:=World.cells?_some h1
   refine⟨cs,_,_,_,hlen,fun j hj=>?_,h2⟩
   have:=hcell j hj
   rwa [ha,hb']at this
  refine⟨b,off,rfl,?_,each⟩;obtain⟨cs,_,_,_,hlen,hcell,_⟩:=each 0 (by omega);have h0:=hcell 0 hpos;rw[aP (by omega)]at h0;exact World.block_lt_of_cell? w _ h0
theorem amW{e:TypeId}{f0 f1 f2 f3 f4:Field}{cs:List Value}{D:DataW H}{Pl:List MemPlace}{n:Nat}(he:P.underlying e=some (.struct #[f0,f1,f2,f3,f4]))(ce:P.cellsOf e=5)
 (o:f0.offset=0∧f1.offset=1∧f2.offset=2∧f3.offset=3∧f4.offset=4) (c:P.cellsOf f0.type=1∧P.cellsOf f1.type=1∧P.cellsOf f2.type=1∧P.cellsOf f3.type=1∧P.cellsOf f4.type=1)
 (h:DataW.trod enc P w 0 spare held n e cs=some (D,Pl)) :
 ∃(v0 v1 v2 v3 v4:Value) (k:Nat) (y0 y1 y2 y3 y4:DataW H×List MemPlace),cs=[v0,v1,v2,v3,v4]∧DataW.trod enc P w 0 spare held k f0.type [v0]=some y0∧DataW.trod enc P w 0 spare held k f1.type [v1]=some y1∧
  DataW.trod enc P w 0 spare held k f2.type [v2]=some y2∧DataW.trod enc P w 0 spare held k f3.type [v3]=some y3∧DataW.trod enc P w 0 spare held k f4.type [v4]=some y4:=by
 obtain⟨o0,o1,o2,o3,o4⟩:=o
 obtain⟨c0,c1,c2,c3,c4⟩:=c
 obtain⟨xs,k,_,_,hlen,hxl,hf⟩:=DataW.trod_struct he h
 rw[ce]at hlen
 match xs,hxl,cs,hlen with
 |[y0,y1,y2,y3,y4],_,[v0,v1,v2,v3,v4],_=>
   have g0:=hf 0 f0 rfl;have g1:=hf 1 f1 rfl;have g2:=hf 2 f2 rfl;have g3:=hf 3 f3 rfl;have g4:=hf 4 f4 rfl;simp[o0,o1,o2,o3,o4,c0,c1,c2,c3,c4]at g0 g1 g2 g3 g4;exact⟨v0,v1,v2,v3,v4,k,y0,y1,y2,y3,y4,rfl,g0,g1,g2,g3,g4⟩
instance:Inhabited One:=⟨⟨0,0,0,0,ByteArray.empty⟩⟩
theorem aki{t e:TypeId}{f0 f1 f2 f3 f4:Field}{a:Option Addr}{len cap:Nat}{d:DataW H}{ps:List MemPlace}(ht:P.underlying t=some (.slice e))(he:P.underlying e=some (.struct #[f0,f1,f2,f3,f4]))(ce:P.cellsOf e=5)
 (o:f0.offset=0∧f1.offset=1∧f2.offset=2∧f3.offset=3∧f4.offset=4) (c:P.cellsOf f0.type=1∧P.cellsOf f1.type=1∧P.cellsOf f2.type=1∧P.cellsOf f3.type=1∧P.cellsOf f4.type=1)
 (t0:P.underlying f0.type=some (.int .u8)) (t1:P.underlying f1.type=some (.int .u64)) (t2:P.underlying f2.type=some (.int .i8)) (t3:P.underlying f3.type=some (.int .u64)) (t4:P.underlying f4.type=some .string)
 (h:DataW.Trod enc P w 0 spare held t (.slice a len cap) d ps) :
 ∃l:List One,l.length=len∧nD w.heap.size w a l∧(∀x∈l,x.ok)∧len≤cap∧cap≤maxLen:=by
 obtain⟨hl,hm,hor⟩:=akf ht (by rw[ce];decide) h
 rcases hor with rfl|⟨b,off,rfl,hb,hall⟩
 ·exact⟨[],rfl,.inl rfl,by simp,hl,hm⟩
 rw[ce]at hall
 have each:∀i,i<len→∃x:One,x.ok∧w.cell? ⟨b,off+i*5,none⟩=some (.int .u8 (x.deep:Int))∧w.cell? ⟨b,off+i*5+1,none⟩=some (.int .u64 (x.tag:Int))∧w.cell? ⟨b,off+i*5+2,none⟩=some (.int .i8 x.ty)∧
  w.cell? ⟨b,off+i*5+3,none⟩=some (.int .u64 (x.num:Int))∧w.cell? ⟨b,off+i*5+4,none⟩=some (.string x.text):=by
  intro i hi
  obtain⟨cs,D,Pl,n,hlen,hcell,htr⟩:=hall i hi
  obtain⟨v0,v1,v2,v3,v4,k,y0,y1,y2,y3,y4,rfl,g0,g1,g2,g3,g4⟩:=amW he ce o c htr
  obtain⟨N0,h0,_,q0⟩:=DataW.trod_int t0 g0
  obtain⟨N1,h1,_,q1⟩:=DataW.trod_int t1 g1
  obtain⟨N2,h2,_,q2⟩:=DataW.trod_int t2 g2
  obtain⟨N3,h3,_,q3⟩:=DataW.trod_int t3 g3
  obtain⟨s,h4,_,q4⟩:=DataW.trod_string t4 g4
  simp only[List.cons.injEq,and_true]at h0 h1 h2 h3 h4
  subst h0 h1 h2 h3 h4
  have b0:=bounds_u8 q0
  have b1:=bounds_u64 q1
  have b2:=bounds_i8 q2
  have b3:=bounds_u64 q3
  obtain⟨n0,rfl⟩:=bM b0.1
  obtain⟨n1,rfl⟩:=bM b1.1
  obtain⟨n3,rfl⟩:=bM b3.1
  refine⟨⟨n0,n1,N2,n3,s⟩,⟨by show n0<256;omega,by show n1<_;omega,b2,by show n3<_;omega,by unfold maxLen at q4;exact q4⟩,?_,?_,?_,?_,?_⟩
  ·exact hcell 0 (by omega)
  ·exact hcell 1 (by omega)
  ·exact hcell 2 (by omega)
  ·exact hcell 3 (by omega)
  ·exact hcell 4 (by omega)
 obtain⟨q,hq⟩:=choose_lt each
 refine⟨(List.range len).map q,by simp,.inr ⟨b,off,rfl,hb,au _,fun j x hj=>?_⟩,fun x hx=>?_,hl,hm⟩
 ·rw[List.getElem?_map]at hj
  have hjl:j<len:=by
   by_cases h:j<len
   ·exact h
   rw[List.getElem?_eq_none (by simp;omega)]at hj;simp at hj
  rw[List.getElem?_range hjl]at hj;simp at hj;have:=hq j hjl;rw[← hj];exact this.2
 ·obtain⟨i,hi,rfl⟩:=dL.1 hx
  exact(hq i (List.mem_range.1 hi)).1
end
end Go.PM
end
namespace Go.Proofs.YtgidfnhfgiehjaaGreatDoor
open Go.Lib Go.Proofs.Tryz
set_option maxRecDepth 100000
theorem aes:(Rows.laid_unicode_utf8_acceptRanges:DataW Unit)=Lib.acceptData:=by kernel_rfl
theorem tabs_of_laid {W : World} (h : laidMetH Tryz.prog [("unicode/utf8.acceptRanges", Rows.laid_unicode_utf8_acceptRanges), ("unicode/utf8.first", Rows.laid_unicode_utf8_first)] W) : Tabs W := by
 have h4:=Lib.laidMet.reads h (.head _);have h3:=Lib.laidMet.reads h (.tail _ (.head _));rw[aes]at h4;rw[show Rows.laid_unicode_utf8_first=Lib.firstData from Pinned.utf8First_eq]at h3;exact utf8Tabs_of_readsT (U8Types.of196 lays196) ⟨by kernel_rfl,by kernel_rfl,by kernel_rfl,by kernel_rfl,by kernel_rfl,by kernel_rfl,by kernel_rfl⟩ h3 h4
noncomputable def laidWorld(os:Os):World :=
 let w0:=World.holding prog os ⟨#[],#[],[]⟩
 let put (h:Array Obj) (g:Nat) (cs:Array Value):Array Obj:=h.modify g fun
  |.cells _ t frozen=>.cells cs t frozen
  |o=>o
 let h1:=put w0.heap (lays196_ren.g 3) (Lib.firstTab.map fun z=>Value.int .u8 z).toArray
 let h2:=put h1 (lays196_ren.g 4) ((List.range 16).flatMap fun i=>[Value.int .u8 (Lib.accLo i),Value.int .u8 (Lib.accHi i)]).toArray
 { w0 with heap:=h2 }
theorem laid_met (os : Os) (args : Array Value) : laidMet Tryz.prog [("unicode/utf8.acceptRanges", Rows.laid_unicode_utf8_acceptRanges), ("unicode/utf8.first", Rows.laid_unicode_utf8_first)] ((laidWorld os).forCall (fun _ _ => 0) ⟨#[], args, []⟩).memory :=
 (LaidIn.of_run (l := [("unicode/utf8.acceptRanges", Rows.laid_unicode_utf8_acceptRanges), ("unicode/utf8.first", Rows.laid_unicode_utf8_first)]) [Tryz.lays196_ren.g 4, Tryz.lays196_ren.g 3] 8 (by kernel_rfl) (by kernel_rfl) (by kernel_rfl) (by kernel_rfl)).met
theorem own:ownKnob prog.godebug=none:=by kernel_rfl
theorem laidOut:laidOutB prog=true:=by kernel_rfl
