/-
  Parts of the proof. Conditions: as each names.
-/
import Derived.Test.YtgidfnhfgiehjaaGreatDoorYbc
import Derived.Test.YtgidfnhfgiehjaaGreatDoorYbb
import Derived.Test.YtgidfnhfgiehjaaGreatDoorYbd
namespace Go.Proofs.YtgidfnhfgiehjaaGreatDoor
open Go.PM Go.RowKit Go.Proofs.Tryz
set_option maxRecDepth 100000
set_option maxHeartbeats 4000000
attribute [local go_sem ↓] Go.wp_at_zero Go.wp_at_succ
theorem acZ(r:Rv)(I:Nat→Prop)(w:World)(h:gJ w I r)(hz:lg r.d)(hl:r.d.length≤9223372036854775807) :
 Calls prog 162 #[.agg #[.slice r.A r.d.length r.c,.int .u64 (r.n:Int)]] w (aj w (.int .i64 (kJ dV r.rw))):=by
 have hb0:=ba (a:=w) b0 (.cells #[.slice r.A r.d.length r.c,.int .u64 (r.n:Int)] 212)
 have HC:=ah (acP r.A r.c r.d _ (h.2.rd.below hb0) hz hl)
 have HX:=ah (dU.made w 212 #[.slice r.A r.d.length r.c,.int .u64 (r.n:Int)])
 have HB:=ah hb0
 unfold kJ Rv.rw
 simp only
 clear h hz hb0
 obtain⟨d,A,c,n⟩:=r
 simp only at *
 generalize iZ dV d=E at *
 by_cases hE:E=0
 ·subst hE
  rw[ay (by simp)];by_cases hn:n=0
  ·subst hn
   rw[aA rfl];go_enter func162,ntmps162;go_wp2_with fail;refine HC.out.mono ?_;rintro e w1 ⟨rfl,hb1⟩;have c1:=(HX.out.below hb1 HX.out.lt).cell 1;simp at c1;have HB1:=ah (bb HB.out hb1);clear hb1 HC;go_wp2_with fail;go_ret;exact⟨rfl,HB1.out⟩
  rw[ay hn];have hni:((n:Int)==0)=false:=by rw[aB];omega
  clear hn;go_enter func162,ntmps162;go_wp2_with fail;refine HC.out.mono ?_;rintro e w1 ⟨rfl,hb1⟩;have c1:=(HX.out.below hb1 HX.out.lt).cell 1;simp at c1;have HB1:=ah (bb HB.out hb1);clear hb1 HC;go_wp2_with fail;go_ret;exact⟨rfl,HB1.out⟩
 ·rw[aA hE]
  have hEi:(E==0)=false:=by rw[aB];exact hE
  clear hE;go_enter func162,ntmps162;go_wp2_with fail;refine HC.out.mono ?_;rintro e w1 ⟨rfl,hb1⟩;have c1:=(HX.out.below hb1 HX.out.lt).cell 1;simp at c1;have HB1:=ah (bb HB.out hb1);clear hb1 HC;go_wp2_with fail;go_ret;exact⟨rfl,HB1.out⟩
def Rt(l:List Rv)(k:Nat):Prop:=∀j (h:j<l.length),j<k→iZ dV l[j].d=0
theorem ac1(A:Option Addr)(c:Nat)(l:List Rv)(I:Nat→Prop)(w:World)(hr:Rd w A (gZ l))(ho:∀r∈l,gJ w I r)(hz:∀r∈l,lg r.d∧r.d.length≤9223372036854775807)(hl:l.length≤9223372036854775807) :
 Calls prog 110 #[.slice A l.length c] w (aj w (.int .i64 (jv dV (l.map Rv.rw)))):=by
 have HR:=ah hr
 have HO:=ah ho
 have HZ:=ah hz
 clear hr ho hz
 by_cases h256:256<l.length
 ·have uM:(256:Int)<(l.length:Int):=by omega
  unfold jv;rw[aY,aA h256];go_enter func110,ntmps110;go_wp2_with fail;go_ret;exact⟨rfl,b0⟩
 ·have uM:¬(256:Int)<(l.length:Int):=by omega
  unfold jv;rw[aY,ay h256];have H0:Hid (kW dV none (l.map Rv.rw)=kW dV (pkt l 0) ((l.drop 0).map Rv.rw)):=rfl;have xC:Hid (Rt l 0):=fun j _ h=>aJ h (by omega);generalize kW dV none (l.map Rv.rw)=F at H0⊢;go_enter func110,ntmps110;go_wp2_with fail;go_loopg [10] l.length (fun gk ki wr=>∃(k:Nat),k≤l.length∧l.length - k≤gk∧ki=.int .i64 (k:Int)∧Hid (Rt l k)∧Hid (F=kW dV (pkt l k) ((l.drop k).map Rv.rw))∧Hid (Below w.heap.size w wr))
  case atStart=>exact⟨0,aW _,by omega,rfl,xC,H0,b0⟩
  case round=>
   obtain⟨k,hk,hgk,rfl,Dt,HF,jd⟩:=hrel;by_cases hlt:k<l.length
   ·obtain⟨b,off,hA,hbl,c0,c1⟩:=(HR.out.below jd.out).row hlt
    have hf:=HF.out;rw[bI hlt,dK,kW]at hf;have hps:=Kw l k hlt;have hro:=(HO.out _ (aS hlt)).below jd.out;obtain⟨hz0,hz1⟩:=HZ.out _ (aS hlt);have xG:Hid (iZ dV l[k].d=0→Rt l (k+1)):=fun h j hj hjk=>by
     rcases Nat.lt_or_ge j k with h2|h2
     ·exact Dt.out j hj h2
     obtain rfl:j=k:=(by omega);exact h
    subst hA;by_cases hk0:k=0
    ·have hki:decide ((0:Int)<(k:Int))=false:=aO (by omega)
     have hkn:decide (0<k)=false:=aO (by omega);generalize l[k]=r at *;have jw:=ah (acZ r I _ hro hz0 hz1);change F=if kJ dV r.rw≠0 then kJ dV r.rw else if nV (pkt l k) (eG r.d)≠0 then nV (pkt l k) (eG r.d)else kW dV (some (eG r.d)) ((l.drop (k+1)).map Rv.rw)at hf
     rw[← hps,show pkt l k=none by rw[hk0,Pg]]at hf;have hml:kJ dV r.rw=0→iZ dV r.d=0:=fun h=>Hu h;have jT:=ah hf;have rM:=ah hml;clear hf hro hz0 hz1 hml HF H0 xC hk0 hps;generalize kJ dV r.rw=E at *;by_cases hE:E=0
     ·subst hE
      have hf:=jT.out;rw[ay (by simp)]at hf;have HF2:Hid (F=kW dV (pkt l (k+1)) ((l.drop (k+1)).map Rv.rw)):=by
       show _=_;rw[hf];exact ay (by simp[nV])
      have QJ:=ah (xG.out (rM.out rfl));clear hf jT rM Dt xG;go_wp2_with fail;refine jw.out.mono ?_;rintro e w2 ⟨rfl,hb2⟩;have HB2:=ah (bb jd.out hb2);have BK:=hb2;clear jw;go_wp2_with fail;refine kM (by kernel_rfl) (by kernel_rfl) ?_;repeat(first|go_big_quiet_skip|(go_big_quiet_want;go_big_quiet_op;first|go_big_quiet_on|(apply Exists.intro;refine⟨fun nq=>?_,?_⟩;(fail);go_big_quiet_on)))
      refine wpQuiet_nil ?_;intro wq hnq;obtain⟨nq,rfl⟩:=hnq;have hq:=nq.bel;generalize nq.wld=wq at hq⊢;clear nq;have HB3:=ah (bb HB2.out hq);clear hq hb2 BK HB2;go_wp2_with fail;refine kM (by kernel_rfl) (by kernel_rfl) ?_;repeat(first|go_big_quiet_skip|(go_big_quiet_want;go_big_quiet_op;first|go_big_quiet_on|(apply Exists.intro;refine⟨fun nq=>?_,?_⟩;(fail);go_big_quiet_on)))
      refine wpQuiet_nil ?_;intro wq hnq;obtain⟨nq,rfl⟩:=hnq;have hq:=nq.bel;generalize nq.wld=wq at hq⊢;clear nq;have HB4:=ah (bb HB3.out hq);clear hq HB3;go_wp2_with fail;go_roundg (l.length - (k+1))
      case measure=>omega
      case rel=>exact⟨k+1,by omega,au _,by go_num,QJ,HF2,HB4⟩
     have yU:(E==0)=false:=(by rw[aB];exact hE);have TF:(E != 0)=true:=(by rw[aZ];exact hE);have hf:=jT.out;rw[aA hE]at hf;have HF2:=ah hf;clear hf jT rM Dt xG hE;go_wp2_with fail;refine jw.out.mono ?_;rintro e w2 ⟨rfl,hb2⟩;have HB2:=ah (bb jd.out hb2);have BK:=hb2;clear jw;go_wp2_with fail;refine kM (by kernel_rfl) (by kernel_rfl) ?_;repeat(first|go_big_quiet_skip|(go_big_quiet_want;go_big_quiet_op;first|go_big_quiet_on|(apply Exists.intro;refine⟨fun nq=>?_,?_⟩;(fail);go_big_quiet_on)))
     refine wpQuiet_nil ?_;intro wq hnq;obtain⟨nq,rfl⟩:=hnq;have hq:=nq.bel;generalize nq.wld=wq at hq⊢;clear nq;have HB3:=ah (bb HB2.out hq);clear hq hb2 BK HB2;go_wp2_with fail;refine kM (by kernel_rfl) (by kernel_rfl) ?_;repeat(first|go_big_quiet_skip|(go_big_quiet_want;go_big_quiet_op;first|go_big_quiet_on|(apply Exists.intro;refine⟨fun nq=>?_,?_⟩;(fail);go_big_quiet_on)))
     refine wpQuiet_nil ?_;intro wq hnq;obtain⟨nq,rfl⟩:=hnq;have hq:=nq.bel;generalize nq.wld=wq at hq⊢;clear nq;have HB4:=ah (bb HB3.out hq);clear hq HB3;go_wp2_with fail;go_ret;rw[HF2.out];exact⟨rfl,HB4.out⟩
    obtain⟨k',rfl⟩:∃k',k=k'+1:=⟨k - 1,by omega⟩;have hki:decide ((0:Int)<(k':Int)+1)=true:=bH (by omega);have hkn:decide (0<k'+1)=true:=bH (by omega);have hw1:IntKind.i64.wrap ((k':Int)+1 - 1)=(k':Int):=(by rw[IntKind.wrap_i64];omega);have hlt':k'<l.length:=(by omega);have hpm:=Dt.out k' hlt' (by omega);have abv:=Kw l k' hlt';have HRW:Hid (∀x,Below w.heap.size w x→x.cell? ⟨b,off+k'*2,none⟩=some (.slice l[k'].A l[k'].d.length l[k'].c)∧x.cell? ⟨b,off+(k'+1)*2,none⟩=some (.slice l[k'+1].A l[k'+1].d.length l[k'+1].c)):=fun x hx=>by
     obtain⟨b',o',e',_,q0,_⟩:=(HR.out.below hx).row hlt';obtain⟨b2,o2,e2,_,q2,_⟩:=(HR.out.below hx).row hlt;injection e' with e';injection e' with e3 e4;injection e2 with e2;injection e2 with e5 e6;subst e3 e4 e5 e6;exact⟨q0,q2⟩
    have yB:Hid (∀x,Below w.heap.size w x→Calls prog 118 #[.slice l[k'].A l[k'].d.length l[k'].c] x (aj x (.string (txt (eG l[k'].d))))):=fun x hx=>Kz _ _ _ x ((HO.out _ (aS hlt')).2.rd.below hx) (uH hpm).1;have HKB:Hid (iZ dV l[k'+1].d=0→∀x,Below w.heap.size w x→Calls prog 118 #[.slice l[k'+1].A l[k'+1].d.length l[k'+1].c] x (aj x (.string (txt (eG l[k'+1].d))))):=fun h x hx=>Kz _ _ _ x ((HO.out _ (aS hlt)).2.rd.below hx) (uH h).1;have ail:=Nj hpm;have jw:=ah (acZ l[k'+1] I _ hro hz0 hz1)
    change F=if kJ dV l[k'+1].rw≠0 then kJ dV l[k'+1].rw else if nV (pkt l (k'+1)) (eG l[k'+1].d)≠0 then nV (pkt l (k'+1)) (eG l[k'+1].d)else kW dV (some (eG l[k'+1].d)) ((l.drop (k'+1+1)).map Rv.rw)at hf
    rw[← hps,abv]at hf;have hml:kJ dV l[k'+1].rw=0→iZ dV l[k'+1].d=0:=fun h=>Hu h;generalize l[k'+1]=r at *;generalize l[k']=r' at *;have jT:=ah hf;have rM:=ah hml;clear hf hro hz0 hz1 hml HF H0 xC hk0 hps abv hpm;generalize kJ dV r.rw=E at *;by_cases hE:E=0
    ·subst hE
     have hf:=jT.out;rw[ay (by simp)]at hf;change F=if nI (eG r'.d) (eG r.d)≠0 then nI (eG r'.d) (eG r.d)else _ at hf
     have HF2:=ah hf;have QJ:=ah (xG.out (rM.out rfl));have HKB2:=ah (HKB.out (rM.out rfl));have Xz:Hid (∀x:World,Calls prog 163 #[.string (txt (eG r'.d)),.string (txt (eG r.d))] x (aj x (.bool (decide (Lib.compareBytes (eG r'.d) (eG r.d)<0))))):=fun x=>by
      have:=alB (txt (eG r'.d)) (txt (eG r.d)) x (by rw[gI];omega);rw[iD,iD]at this;exact this
     have hbe:((txt (eG r'.d)).toList==(txt (eG r.d)).toList)=decide (eG r'.d=eG r.d):=by
      rw[ByteArray.toList_eq,ByteArray.toList_eq,Bool.eq_iff_iff];simp[txt]
     clear hf jT rM Dt xG HKB ail;generalize Value.slice r'.A r'.d.length r'.c=vA at *;generalize Value.slice r.A r.d.length r.c=vB at *;generalize eG r'.d=KA at *;generalize eG r.d=KB at *;have Ld:Hid (nI KA KB=if KB=KA then 14 else if Lib.compareBytes KB KA<0 then 7 else 0):=rfl;go_wp2_with fail;refine jw.out.mono ?_;rintro e w2 ⟨rfl,hb2⟩;have HB2:=ah (bb jd.out hb2);have BK:=hb2;clear jw;have m0:∀n:fV w2,n.wld.cell? ⟨b,off+k'*2,none⟩=some vA:=fun n=>(HRW.out _ (bb HB2.out n.bel)).1;have m1:∀n:fV w2,n.wld.cell? ⟨b,off+(k'+1)*2,none⟩=some vB:=fun n=>(HRW.out _ (bb HB2.out n.bel)).2;have Dj:Hid (∀n:fV w2,Calls prog 118 #[vA] n.wld (aj n.wld (.string (txt KA)))):=fun n=>yB.out _ (bb HB2.out n.bel)
     have HKB3:Hid (∀n:fV w2,Calls prog 118 #[vB] n.wld (aj n.wld (.string (txt KB)))):=fun n=>HKB2.out _ (bb HB2.out n.bel);by_cases hab:KA=KB
     ·have ahP:((txt KA).toList==(txt KB).toList)=true:=by rw[hbe];exact bH hab
      have hf:=HF2.out;rw[Ld.out,aA hab.symm,aA (by decide)]at hf;have HF3:=ah hf;clear hf HF2 Ld hbe hab;go_wp2_with fail;refine kM (by kernel_rfl) (by kernel_rfl) ?_;repeat(first|go_big_quiet_skip|(go_big_quiet_want;go_big_quiet_op;first|go_big_quiet_on|(apply Exists.intro;refine⟨fun nq=>?_,?_⟩;(go_at_call 118;first|with_reducible exact jW (Dj.out _)|with_reducible exact jW (HKB3.out _));go_big_quiet_on)))
      refine wpQuiet_nil ?_;intro wq hnq;obtain⟨nq,rfl⟩:=hnq;have hq:=nq.bel;generalize nq.wld=wq at hq⊢;clear nq;have HB3:=ah (bb HB2.out hq);clear hq hb2 BK HB2 m0 m1;go_wp2_with fail;refine kM (by kernel_rfl) (by kernel_rfl) ?_;repeat(first|go_big_quiet_skip|(go_big_quiet_want;go_big_quiet_op;first|go_big_quiet_on|(apply Exists.intro;refine⟨fun nq=>?_,?_⟩;(fail);go_big_quiet_on)))
      refine wpQuiet_nil ?_;intro wq hnq;obtain⟨nq,rfl⟩:=hnq;have hq:=nq.bel;generalize nq.wld=wq at hq⊢;clear nq;have HB4:=ah (bb HB3.out hq);clear hq HB3;go_wp2_with fail;go_ret;rw[HF3.out];exact⟨rfl,HB4.out⟩
     have ahP:((txt KA).toList==(txt KB).toList)=false:=(by rw[hbe];exact aO hab);have hdv:=Ld.out;rw[ay (fun e=>hab e.symm)]at hdv;have Le:=ah hdv;have HF3:=HF2;clear hdv HF2 Ld hbe;go_wp2_with fail;refine kM (by kernel_rfl) (by kernel_rfl) ?_;repeat(first|go_big_quiet_skip|(go_big_quiet_want;go_big_quiet_op;first|go_big_quiet_on|(apply Exists.intro;refine⟨fun nq=>?_,?_⟩;(go_at_call 118;first|with_reducible exact jW (Dj.out _)|with_reducible exact jW (HKB3.out _));go_big_quiet_on)))
     refine wpQuiet_nil ?_;intro wq hnq;obtain⟨nq,rfl⟩:=hnq;have hq:=nq.bel;generalize nq.wld=wq at hq⊢;clear nq;have HB3:=ah (bb HB2.out hq);have m0:∀n:fV wq,n.wld.cell? ⟨b,off+k'*2,none⟩=some vA:=fun n=>(HRW.out _ (bb HB3.out n.bel)).1;have m1:∀n:fV wq,n.wld.cell? ⟨b,off+(k'+1)*2,none⟩=some vB:=fun n=>(HRW.out _ (bb HB3.out n.bel)).2;have Xu:Hid (∀n:fV wq,Calls prog 118 #[vA] n.wld (aj n.wld (.string (txt KA)))):=fun n=>yB.out _ (bb HB3.out n.bel);have HKB4:Hid (∀n:fV wq,Calls prog 118 #[vB] n.wld (aj n.wld (.string (txt KB)))):=fun n=>HKB2.out _ (bb HB3.out n.bel)
     have Lr:Hid (∀n:fV wq,Calls prog 163 #[.string (txt KA),.string (txt KB)] n.wld (aj n.wld (.bool (decide (Lib.compareBytes KA KB<0))))):=fun n=>Xz.out _;have hcm:=Bz KA KB;have hne:Lib.compareBytes KA KB≠0:=fun e=>hab ((wO _ _).1 e);clear hq hb2 BK HB2 Dj HKB3 Xz yB HKB2;by_cases hls:Lib.compareBytes KA KB<0
     ·have hd:=bH hls
      rw[hd]at Lr;have hf:=HF3.out;rw[Le.out,ay (show¬Lib.compareBytes KB KA<0 by omega),ay (by simp)]at hf;have og:=ah hf;clear hf HF3 Le hcm hne hls hd hab;go_wp2_with fail;refine kM (by kernel_rfl) (by kernel_rfl) ?_;repeat(first|go_big_quiet_skip|(go_big_quiet_want;go_big_quiet_op;first|go_big_quiet_on|(apply Exists.intro;refine⟨fun nq=>?_,?_⟩;(first|(go_at_call 118;first|with_reducible exact jW (Xu.out _)|with_reducible exact jW (HKB4.out _))|(go_at_call 163;exact jW (Lr.out _)));go_big_quiet_on)))
      refine wpQuiet_nil ?_;intro wq hnq;obtain⟨nq,rfl⟩:=hnq;have hq:=nq.bel;generalize nq.wld=wq at hq⊢;clear nq;have HB4:=ah (bb HB3.out hq);clear hq HB3 m0 m1;go_wp2_with fail;go_roundg (l.length - (k'+1+1))
      case measure=>omega
      case rel=>exact⟨k'+1+1,by omega,au _,by go_num,QJ,og,HB4⟩
     have hd:=aO hls;rw[hd]at Lr;have hf:=HF3.out;rw[Le.out,aA (show Lib.compareBytes KB KA<0 by omega),aA (by decide)]at hf;have og:=ah hf;clear hf HF3 Le hcm hne hls hd hab;go_wp2_with fail;refine kM (by kernel_rfl) (by kernel_rfl) ?_;repeat(first|go_big_quiet_skip|(go_big_quiet_want;go_big_quiet_op;first|go_big_quiet_on|(apply Exists.intro;refine⟨fun nq=>?_,?_⟩;(first|(go_at_call 118;first|with_reducible exact jW (Xu.out _)|with_reducible exact jW (HKB4.out _))|(go_at_call 163;exact jW (Lr.out _)));go_big_quiet_on)))
     refine wpQuiet_nil ?_;intro wq hnq;obtain⟨nq,rfl⟩:=hnq;have hq:=nq.bel;generalize nq.wld=wq at hq⊢;clear nq;have HB4:=ah (bb HB3.out hq);clear hq HB3 m0 m1;go_wp2_with fail;go_ret;rw[og.out];exact⟨rfl,HB4.out⟩
    have yU:(E==0)=false:=(by rw[aB];exact hE);have TF:(E != 0)=true:=(by rw[aZ];exact hE);have hf:=jT.out;rw[aA hE]at hf;have HF2:=ah hf;clear hf jT rM Dt xG hE yB HKB;go_wp2_with fail;refine jw.out.mono ?_;rintro e w2 ⟨rfl,hb2⟩;have HB2:=ah (bb jd.out hb2);have BK:=hb2;clear jw;go_wp2_with fail;refine kM (by kernel_rfl) (by kernel_rfl) ?_;repeat(first|go_big_quiet_skip|(go_big_quiet_want;go_big_quiet_op;first|go_big_quiet_on|(apply Exists.intro;refine⟨fun nq=>?_,?_⟩;(fail);go_big_quiet_on)))
    refine wpQuiet_nil ?_;intro wq hnq;obtain⟨nq,rfl⟩:=hnq;have hq:=nq.bel;generalize nq.wld=wq at hq⊢;clear nq;have HB3:=ah (bb HB2.out hq);clear hq hb2 BK HB2;go_wp2_with fail;refine kM (by kernel_rfl) (by kernel_rfl) ?_;repeat(first|go_big_quiet_skip|(go_big_quiet_want;go_big_quiet_op;first|go_big_quiet_on|(apply Exists.intro;refine⟨fun nq=>?_,?_⟩;(fail);go_big_quiet_on)))
    refine wpQuiet_nil ?_;intro wq hnq;obtain⟨nq,rfl⟩:=hnq;have hq:=nq.bel;generalize nq.wld=wq at hq⊢;clear nq;have HB4:=ah (bb HB3.out hq);clear hq HB3;go_wp2_with fail;go_ret;rw[HF2.out];exact⟨rfl,HB4.out⟩
   obtain rfl:k=l.length:=(by omega);have hf:=HF.out;rw[dF (au _)]at hf;have HF2:Hid (F=0):=hf;clear hf HF H0 Dt xC;go_wp2_with fail;go_ret;rw[HF2.out];exact⟨rfl,jd.out⟩
theorem alk(a b:ByteArray)(w:World)(ha:a.size≤9223372036854775806)(_:b.size≤9223372036854775806) :
 Calls prog 230 #[.string a,.string b] w (aj w (.int .i64 (iw a.data.toList b.data.toList:Int))):=by
 have H0:Hid (iw a.data.toList b.data.toList=0+iw (a.data.toList.drop 0) (b.data.toList.drop 0)):=by
  show _=_;rw[dD,dD,aX]
 generalize iw a.data.toList b.data.toList=F at H0⊢
 go_enter func230,ntmps230
 go_wp2_with fail
 go_loopg [5] a.size (fun gk vi wr=>∃i:Nat,i≤a.size∧i≤b.size∧a.size - i≤gk∧vi=.int .i64 (i:Int)∧Below w.heap.size w wr∧Hid (F=i+iw (a.data.toList.drop i) (b.data.toList.drop i)))
 case atStart=>exact⟨0,aW _,aW _,by omega,rfl,b0,H0⟩
 case round=>
  obtain⟨i,hia,hib,hgk,rfl,hbw,HI⟩:=hrel;have HB:=ah hbw;clear hbw H0;by_cases h1:i<a.size
  ·have j1:decide ((i:Int)<(a.size:Int))=true:=bH (by omega)
   have j1':(i:Int)<(a.size:Int):=(by omega);by_cases h2:i<b.size
   ·have j2:decide ((i:Int)<(b.size:Int))=true:=bH (by omega)
    have j2':(i:Int)<(b.size:Int):=(by omega);have hi:=HI.out;rw[drop_at a i h1,drop_at b i h2,iw]at hi;by_cases he:a[i]=b[i]
    ·rw[aA he]at hi
     have HN:Hid (F=(i+1)+iw (a.data.toList.drop (i+1)) (b.data.toList.drop (i+1))):=by
      show _=_;omega
     have hne:(((a[i]).toNat:Int) != ((b[i]).toNat:Int))=false:=(by rw[he];simp);clear hi HI he;go_wp2_with fail;go_quiet(fail);go_wp2_with fail;go_roundg (a.size - (i+1))
     case measure=>omega
     case rel=>exact⟨i+1,by omega,by omega,au _,by go_num,bn HB.out _,HN⟩
    rw[ay he]at hi;have hF:F=i:=(by omega);subst hF;have hne0:(a[F]).toNat≠(b[F]).toNat:=fun e=>he (UInt8.toNat_inj.1 e);have hne:(((a[F]).toNat:Int) != ((b[F]).toNat:Int))=true:=(by rw[aZ];omega);clear hi HI he hne0;go_wp2_with fail;go_quiet(fail);go_wp2_with fail;go_ret;exact⟨rfl,bn HB.out _⟩
   have j2:decide ((i:Int)<(b.size:Int))=false:=aO (by omega);have hi:=HI.out;rw[drop_end b i (by omega),acE]at hi;have hF:F=i:=(by omega);subst hF;have hmn:min (a.size:Int) (b.size:Int)=(F:Int):=(by omega);clear hi HI;go_wp2_with fail;go_ret;exact⟨rfl,HB.out⟩
  have j1:decide ((i:Int)<(a.size:Int))=false:=aO (by omega);have hi:=HI.out;rw[drop_end a i (by omega),O8]at hi;have hF:F=i:=by omega
  subst hF;have hmn:min (a.size:Int) (b.size:Int)=(F:Int):=by omega
  clear hi HI;go_wp2_with fail;go_ret;exact⟨rfl,HB.out⟩
theorem al0(a s:ByteArray)(w:World)(ha:a.size≤1000000)(hs:s.size≤1000000) :
 Calls prog 208 #[.string a,.string s] w (aj w (.string (txt (je a.data.toList s.data.toList)))):=by
 have HC:=ah (alk a s w (by omega) (by omega))
 have hle:=(Hl a.data.toList s.data.toList).2
 rw[fK]at hle
 obtain⟨k,hk⟩:∃k,k=iw a.data.toList s.data.toList:=⟨_,rfl⟩
 obtain⟨n,hn⟩:∃n,n=s.size - k:=⟨_,rfl⟩
 rw[← hk]at hle HC
 have H1:Hid (∀x:World,Calls prog 70 #[.int .u64 (k:Int)] x (aj x (.string (txt (dY k))))):=fun x=>uV k x (by unfold In64;omega)
 have H2:Hid (∀x:World,Calls prog 70 #[.int .u64 (n:Int)] x (aj x (.string (txt (dY n))))):=fun x=>uV n x (by unfold In64;omega)
 have HE:Hid ((txt (dY k)++txt (dY n))++s.extract k s.size=txt (je a.data.toList s.data.toList)):=by
  refine vX ?_;rw[wL,wL,iD,iD,PM.BG,je,fK,← hk,← hn];simp
 have wk:IntKind.u64.wrap (k:Int)=(k:Int):=by rw[IntKind.wrap_u64];omega
 have wn:IntKind.u64.wrap (n:Int)=(n:Int):=by rw[IntKind.wrap_u64];omega
 have hsub:(s.size:Int) - (k:Int)=(n:Int):=by omega
 have hk0:(0:Int)≤(k:Int):=by omega
 have hks:(k:Int)≤(s.size:Int):=by omega
 have hP:(txt (dY k)).size≤10:=by rw[gI,fO];exact iJ (by omega)
 have hQ:(txt (dY n)).size≤10:=by rw[gI,fO];exact iJ (by omega)
 have hR:(s.extract k s.size).size≤1000000:=by rw[ByteArray.size_extract];omega
 generalize txt (dY k)=P at *
 generalize txt (dY n)=Q at *
 generalize hX:s.extract k s.size=X at *
 have hr1:∀x:World,(Op.stringOp .add P Q).run prog x=.ok (.string (P++Q)) x:=fun x=>run_string_add_sum x P Q (by omega)
 have hr2:∀x:World,(Op.stringOp .add (P++Q) X).run prog x=.ok (.string (P++Q++X)) x:=fun x=>run_string_add_sum x _ _ (by rw[ByteArray.size_append];omega)
 clear hk hn hP hQ hR hle
 go_enter func208,ntmps208
 go_wp2_with fail
 refine HC.out.mono ?_
 rintro e w1 ⟨rfl,hb1⟩
 have HB1:=ah hb1
 clear hb1 HC
 have H1n:Hid (∀m:fV w1,Calls prog 70 #[.int .u64 (k:Int)] m.wld (aj m.wld (.string P))):=fun m=>H1.out _
 have Ih:Hid (∀m:fV w1,Calls prog 70 #[.int .u64 (n:Int)] m.wld (aj m.wld (.string Q))):=fun m=>H2.out _
 go_wp2_with fail
 refine kM (by kernel_rfl) (by kernel_rfl) ?_
 repeat(first|go_big_quiet_skip|(go_big_quiet_want;go_big_quiet_op;first|go_big_quiet_on|(apply Exists.intro;refine⟨fun nq=>?_,?_⟩;((first|(go_at_call 70;with_reducible show Calls _ _ #[.int .u64 (k:Int)] _ _;exact jW (H1n.out _))|(go_at_call 70;exact jW (Ih.out _))));go_big_quiet_on)))
 refine wpQuiet_nil ?_
 intro wq hnq
 obtain⟨nq,rfl⟩:=hnq
 have hq:=nq.bel
 generalize nq.wld=wq at hq⊢
 clear nq
 have HB2:=ah (bb HB1.out hq)
 clear hq H1n Ih
 go_wp2_with fail
 go_ret
 exact⟨by rw[← HE.out];rfl,HB2.out⟩
theorem amf(A:Option Addr)(c:Nat)(l:List Rv)(I:Nat→Prop)(w:World)(hr:Rd w A (gZ l))(ho:∀r∈l,gJ w I r)(hn:∀r∈l,r.n<18446744073709551616)(hc:jv dV (l.map Rv.rw)=0) :
 Calls prog 166 #[.slice A l.length c] w (aj w (.string (txt (lQ (l.map Rv.rw))))):=by
 have HR:=ah hr
 have HO:=ah ho
 have HN:=ah hn
 obtain⟨h1,h2⟩:=Ce hc
 rw[aY]at h1
 have HA:Hid (∀r∈l,um r.d∧(eG r.d).length≤10000):=fun r hr=>by
  have h3:=Hu (V7 _ _ h2 r.rw (dL.2 ⟨r,hr,rfl⟩));exact⟨(uH h3).1,Zr h3⟩
 have wl:IntKind.u64.wrap (l.length:Int)=(l.length:Int):=by rw[IntKind.wrap_u64];omega
 have HV:Hid (∀x:World,Calls prog 70 #[.int .u64 (l.length:Int)] x (aj x (.string (txt (dY l.length))))):=fun x=>uV l.length x (by unfold In64;omega)
 have CZ:Hid (lQ (l.map Rv.rw)=dY l.length++jS ((pkt l 0).getD []) ((l.drop 0).map Rv.rw)):=by
  show _=_;unfold lQ;rw[aY];rfl
 have TK:(lQ (l.map Rv.rw)).length≤10000000:=by
  have:=Vx (l.map Rv.rw) [] fun r hr=>by
   obtain⟨q,hq,rfl⟩:=dL.1 hr;exact⟨(HA.out q hq).2,HN.out q hq⟩
  have h3:=iJ (n:=l.length) (by omega);rw[aY]at this;unfold lQ;rw[aC,aY,fO];omega
 clear hr ho hn hc h2
 generalize lQ (l.map Rv.rw)=F at *
 go_enter func166,ntmps166
 go_wp2_with fail
 refine(HV.out _).mono ?_
 rintro e w1 ⟨rfl,hb1⟩
 have HB1:=ah hb1
 clear hb1 HV
 go_wp2_with fail
 go_loopg [3,13] l.length (fun gk av ki wr=>∃(k:Nat) (S:List UInt8),k≤l.length∧l.length - k≤gk∧ki=.int .i64 (k:Int)∧av=.string (txt S)∧Hid (F=S++jS ((pkt l k).getD []) ((l.drop k).map Rv.rw))∧Hid (Below w.heap.size w wr))
 case atStart=>exact⟨0,_,aW _,by omega,rfl,rfl,CZ,HB1⟩
 case round=>
  obtain⟨k,S,hk,hgk,rfl,rfl,hF,HB⟩:=hrel;by_cases hlt:k<l.length
  ·obtain⟨b,off,rfl,hblt,c0,c1⟩:=(HR.out.below HB.out).row hlt
   obtain⟨z0,z1⟩:=HA.out _ (aS hlt);have zn:=HN.out _ (aS hlt);have hro:=(HO.out _ (aS hlt)).2.rd;have hps:=Kw l k hlt;have hf:=hF.out;rw[bI hlt,dK,jS]at hf;have Ir:Hid (k≠0→∃vp KP,(pkt l k).getD []=KP∧KP.length≤10000∧∀x,Below w.heap.size w x→x.cell? ⟨b,off+(k - 1)*2,none⟩=some vp∧Calls prog 118 #[vp] x (aj x (.string (txt KP)))):=fun h=>by
    have hl':k - 1<l.length:=(by omega);obtain⟨y0,y1⟩:=HA.out _ (aS hl');refine⟨.slice l[k - 1].A l[k - 1].d.length l[k - 1].c,eG l[k - 1].d,?_,y1,fun x hx=>?_⟩
    ·have:=Kw l (k - 1) hl'
     rw[show k - 1+1=k by omega]at this;rw[this];rfl
    obtain⟨b',o',e',_,q0,_⟩:=(HR.out.below hx).row hl';injection e' with e';injection e' with e3 e4;subst e3 e4;exact⟨q0,Kz _ _ _ x ((HO.out _ (aS hl')).2.rd.below hx) y0⟩
   have qp:Hid (∀x,Below w.heap.size w x→Calls prog 118 #[.slice l[k].A l[k].d.length l[k].c] x (aj x (.string (txt (eG l[k].d))))):=fun x hx=>Kz _ _ _ x (hro.below hx) z0;generalize l[k]=r at *;obtain⟨rd,rA,rc,rn⟩:=r;simp only at c0 c1 z0 z1 zn hro;change F=S++(je ((pkt l k).getD []) (eG rd)++(dY rn++jS (eG rd) ((l.drop (k+1)).map Rv.rw)))at hf;have hKl:((pkt l k).getD []).length≤10000:=by
    by_cases h:k=0
    ·rw[h,Pg];exact aW _
    obtain⟨vp,KP,e1,e2,_⟩:=Ir.out h;rw[e1];exact e2
   obtain⟨K,hK⟩:∃K,K=(pkt l k).getD []:=⟨_,rfl⟩;rw[← hK]at hf hKl Ir;have LJ:Hid (∀x:World,Calls prog 208 #[.string (txt K),.string (txt (eG rd))] x (aj x (.string (txt (je K (eG rd)))))):=fun x=>by
    have:=al0 (txt K) (txt (eG rd)) x (by rw[gI];omega) (by rw[gI];omega)
    rwa [iD,iD]at this
   have xG:Hid (∀x:World,Calls prog 70 #[.int .u64 (rn:Int)] x (aj x (.string (txt (dY rn))))):=fun x=>uV rn x (by unfold In64;omega);have hp1:(je K (eG rd)).length≤10020:=(by have:=Vy K (eG rd) (by omega);omega);have hp2:(dY rn).length≤10:=(by rw[fO];exact iJ (by omega));have hS:S.length≤10000000:=(by rw[hf,aC]at TK;omega);have wF:Hid (F=(S++je K (eG rd)++dY rn)++jS ((pkt l (k+1)).getD []) ((l.drop (k+1)).map Rv.rw)):=by
    show _=_;rw[hps,hf];simp
   have hr1:∀x:World,(Op.stringOp .add (txt S) (txt (je K (eG rd)))).run prog x=.ok (.string (txt (S++je K (eG rd)))) x:=fun x=>by
    rw[show txt (S++je K (eG rd))=txt S++txt (je K (eG rd))by apply ByteArray.ext;simp[txt,ByteArray.data_append]];exact run_string_add_sum x _ _ (by rw[gI,gI];omega)
   have hr2:∀x:World,(Op.stringOp .add (txt (S++je K (eG rd))) (txt (dY rn))).run prog x=.ok (.string (txt (S++je K (eG rd)++dY rn))) x:=fun x=>by
    rw[show txt (S++je K (eG rd)++dY rn)=txt (S++je K (eG rd))++txt (dY rn)by apply ByteArray.ext;simp[txt,ByteArray.data_append]];exact run_string_add_sum x _ _ (by rw[gI,gI,aC];omega)
   have eU:=ba (a:=wr) b0 (.cells #[.slice rA rd.length rc,.int .u64 (rn:Int)] 212);have wC:=ah (bb HB.out eU);have HX:=ah (dU.made wr 212 #[.slice rA rd.length rc,.int .u64 (rn:Int)]);clear hf hF CZ eU hro hps z0 z1 zn hp1 hp2 hS;obtain⟨S2,hS2⟩:∃S2,S2=S++je K (eG rd)++dY rn:=⟨_,rfl⟩;rw[← hS2]at wF hr2;clear hS2;generalize txt (S++je K (eG rd))=X1 at *;generalize txt (je K (eG rd))=P1 at *;generalize txt (dY rn)=P2 at *;generalize txt (eG rd)=KB at *;generalize rd.length=rl at *;by_cases hk0:k=0
   ·have hki:decide ((0:Int)<(k:Int))=false:=aO (by omega)
    have hkn:decide (0<k)=false:=aO (by omega);rw[hk0,Pg]at hK;clear Ir hk0;subst hK;go_wp2_with fail;obtain⟨wc,hwc⟩:∃wc,wc=wr.alloc (.cells #[.slice rA rl rc,.int .u64 (rn:Int)] 212):=⟨_,rfl⟩;have CP:Hid (Below w.heap.size w wc):=(by rw[hwc];exact wC.out);have xI:Hid (dU wc wr.heap.size 212 #[.slice rA rl rc,.int .u64 (rn:Int)]):=(by rw[hwc];exact HX.out);rw[← hwc];clear hwc HX wC HB;have m0:∀n:fV wc,n.wld.cell? ⟨wr.heap.size,0,none⟩=some (.slice rA rl rc):=fun n=>(xI.out.below n.bel xI.out.lt).cell 0;have m1:∀n:fV wc,n.wld.cell? ⟨wr.heap.size,1,none⟩=some (.int .u64 (rn:Int)):=fun n=>(xI.out.below n.bel xI.out.lt).cell 1;have Iu:Hid (∀n:fV wc,Calls prog 118 #[.slice rA rl rc] n.wld (aj n.wld (.string KB))):=fun n=>qp.out _ (bb CP.out n.bel)
    have vk:Hid (∀n:fV wc,Calls prog 208 #[.string (⟨#[]⟩),.string KB] n.wld (aj n.wld (.string P1))):=fun n=>LJ.out _;have HP2:Hid (∀n:fV wc,Calls prog 70 #[.int .u64 (rn:Int)] n.wld (aj n.wld (.string P2))):=fun n=>xG.out _;clear qp LJ xG;refine kM (by kernel_rfl) (by kernel_rfl) ?_;repeat(first|go_big_quiet_skip|(go_big_quiet_want;go_big_quiet_op;first|go_big_quiet_on|(apply Exists.intro;refine⟨fun nq=>?_,?_⟩;(first|(go_at_call 118;exact jW (Iu.out _))|(go_at_call 208;exact jW (vk.out _))|(go_at_call 70;exact jW (HP2.out _)));go_big_quiet_on)))
    refine wpQuiet_nil ?_;intro wq hnq;obtain⟨nq,rfl⟩:=hnq;have hq:=nq.bel;generalize nq.wld=wq at hq⊢;clear nq;have yw:=ah (bb CP.out hq);clear hq m0 m1 Iu vk HP2 xI CP hr1 hr2;go_wp2_with fail;go_roundg (l.length - (k+1))
    case measure=>omega
    case rel=>exact⟨k+1,S2,by omega,au _,by go_num,rfl,wF,yw⟩
   obtain⟨k',rfl⟩:∃k',k=k'+1:=⟨k - 1,by omega⟩;have hki:decide ((0:Int)<(k':Int)+1)=true:=bH (by omega);have hkn:decide (0<k'+1)=true:=bH (by omega);have hw1:IntKind.i64.wrap ((k':Int)+1 - 1)=(k':Int):=(by rw[IntKind.wrap_i64];omega);have hlt':k'<l.length:=(by omega);obtain⟨vp,KP,hKP,_,yJ⟩:=Ir.out (by omega);subst hKP;have Yf:Hid (∀x,Below w.heap.size w x→Calls prog 118 #[vp] x (aj x (.string (txt K)))):=fun x hx=>(yJ x hx).2;have cp:(wr.alloc (.cells #[.slice rA rl rc,.int .u64 (rn:Int)] 212)).cell? ⟨b,off+k'*2,none⟩=some vp:=(yJ _ wC.out).1;have cpr:wr.cell? ⟨b,off+k'*2,none⟩=some vp:=(yJ _ HB.out).1;clear Ir yJ hk0 hK;go_wp2_with fail;refine(Yf.out _ wC.out).mono ?_;rintro e wc ⟨rfl,hbc⟩;have CP:=ah (bb wC.out hbc);have xI:=ah (HX.out.below hbc HX.out.lt)
   clear hbc HX wC HB Yf cp cpr;go_wp2_with fail;have m0:∀n:fV wc,n.wld.cell? ⟨wr.heap.size,0,none⟩=some (.slice rA rl rc):=fun n=>(xI.out.below n.bel xI.out.lt).cell 0;have m1:∀n:fV wc,n.wld.cell? ⟨wr.heap.size,1,none⟩=some (.int .u64 (rn:Int)):=fun n=>(xI.out.below n.bel xI.out.lt).cell 1;have Iu:Hid (∀n:fV wc,Calls prog 118 #[.slice rA rl rc] n.wld (aj n.wld (.string KB))):=fun n=>qp.out _ (bb CP.out n.bel);have vk:Hid (∀n:fV wc,Calls prog 208 #[.string (txt K),.string KB] n.wld (aj n.wld (.string P1))):=fun n=>LJ.out _;have HP2:Hid (∀n:fV wc,Calls prog 70 #[.int .u64 (rn:Int)] n.wld (aj n.wld (.string P2))):=fun n=>xG.out _;clear qp LJ xG
   refine kM (by kernel_rfl) (by kernel_rfl) ?_;repeat(first|go_big_quiet_skip|(go_big_quiet_want;go_big_quiet_op;first|go_big_quiet_on|(apply Exists.intro;refine⟨fun nq=>?_,?_⟩;(first|(go_at_call 118;exact jW (Iu.out _))|(go_at_call 208;exact jW (vk.out _))|(go_at_call 70;exact jW (HP2.out _)));go_big_quiet_on)))
   refine wpQuiet_nil ?_;intro wq hnq;obtain⟨nq,rfl⟩:=hnq;have hq:=nq.bel;generalize nq.wld=wq at hq⊢;clear nq;have yw:=ah (bb CP.out hq);clear hq m0 m1 Iu vk HP2 xI CP hr1 hr2;go_wp2_with fail;go_roundg (l.length - (k'+1+1))
   case measure=>omega
   case rel=>exact⟨k'+1+1,S2,by omega,au _,by go_num,rfl,wF,yw⟩
  obtain rfl:k=l.length:=by omega
  have hf:=hF.out;rw[dF (au _)]at hf;have HS:Hid (F=S):=by
   show _=_;rw[hf];simp[jS]
  clear hf hF CZ;go_wp2_with fail;go_ret;rw[HS.out];exact⟨rfl,HB.out⟩
theorem al1(A:Option Addr)(c:Nat)(l:List Rv)(I:Nat→Prop)(w:World)(hr:Rd w A (gZ l))(ho:∀r∈l,gJ w I r)(hz:∀r∈l,lg r.d∧r.d.length≤9223372036854775807)(hn:∀r∈l,r.n<18446744073709551616)(hl:l.length≤9223372036854775807) :
 Calls prog 119 #[.slice A l.length c] w (aj w (.tuple #[.string (txt (oV dV (l.map Rv.rw)).1),.int .i64 (oV dV (l.map Rv.rw)).2])):=by
 have HC:=ah (ac1 A c l I w hr ho hz hl)
 have HT:Hid (jv dV (l.map Rv.rw)=0→∀x,Below w.heap.size w x→Calls prog 166 #[.slice A l.length c] x (aj x (.string (txt (lQ (l.map Rv.rw)))))):=fun h x hx=>amf A c l I x (hr.below hx) (fun r hr=>(ho r hr).below hx) hn h
 have HP:Hid (oV dV (l.map Rv.rw)=if jv dV (l.map Rv.rw)≠0 then([],jv dV (l.map Rv.rw))else(lQ (l.map Rv.rw),0)):=rfl
 generalize oV dV (l.map Rv.rw)=X at *
 generalize jv dV (l.map Rv.rw)=E at *
 generalize lQ (l.map Rv.rw)=F at *
 clear hr ho hz hn
 by_cases hE:E=0
 ·subst hE
  have hx:=HP.out;rw[ay (by simp)]at hx;have HT2:=ah (HT.out rfl);clear HP HT;subst hx;go_enter func119,ntmps119;go_wp2_with fail;refine HC.out.mono ?_;rintro e w1 ⟨rfl,hb1⟩;have HB1:=ah hb1;clear hb1 HC;go_wp2_with fail;refine(HT2.out _ HB1.out).mono ?_;rintro e w2 ⟨rfl,hb2⟩;have HB2:=ah (bb HB1.out hb2);clear hb2 HT2 HB1;go_wp2_with fail;go_ret2;exact⟨rfl,HB2.out⟩
 ·have hx:=HP.out
  rw[aA hE]at hx;have TF:(E != 0)=true:=by rw[aZ];exact hE
  clear HP HT hE;subst hx;go_enter func119,ntmps119;go_wp2_with fail;refine HC.out.mono ?_;rintro e w1 ⟨rfl,hb1⟩;have HB1:=ah hb1;clear hb1 HC;go_wp2_with fail;go_ret2;exact⟨rfl,HB1.out⟩
