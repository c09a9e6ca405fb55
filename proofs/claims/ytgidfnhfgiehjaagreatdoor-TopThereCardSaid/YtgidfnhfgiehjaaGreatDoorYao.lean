/-
  Parts of the proof. Conditions: as each names.
-/
import Derived.Test.YtgidfnhfgiehjaaGreatDoorYal
namespace Go.Proofs.YtgidfnhfgiehjaaGreatDoor
open Go.PM Go.RowKit Go.Proofs.Tryz
set_option maxRecDepth 100000
set_option maxHeartbeats 4000000
theorem ai7(s:ByteArray)(h:0<s.size):s.data.toList=s[0]::s.data.toList.drop 1:=by
 have:=bI (l:=s.data.toList) (i:=0) (by rw[fK];exact h);rw[dD]at this;exact this
theorem get_at(s:ByteArray)(k:Nat)(_:k<s.size)(h':k<s.data.toList.length):s.data.toList[k]=s[k]:=by simp;rfl
theorem alx(s:ByteArray)(w:World)(hs:s.size≤9223372036854775807) :
 Calls prog 206 #[.string s] w (aj w (.int .i64 (kK s.data.toList:Int))):=by
 by_cases h0:s.size=0
 ·have hl:s.data.toList=[]:=aV (by rw[fK];exact h0)
  rw[hl,adD];clear hl;go_enter func206,ntmps206;go_wp2;go_ret;exact⟨rfl,b0⟩
 ·have hpos:0<s.size:=by omega
  have hcons:=ai7 s hpos;have ha:=s[0].toNat_lt;clear h0;by_cases h128:s[0].toNat<128
  ·rw[hcons,V9 h128]
   clear hcons;go_enter func206,ntmps206;go_wp2;go_ret;exact⟨rfl,b0⟩
  by_cases aog:s[0].toNat<192
  ·have hcl:nY s[0].toNat=none:=by unfold nY;rw[ay (by omega),ay (by omega),ay (by omega)]
   rw[hcons,EY h128,hcl];clear hcons hcl;go_enter func206,ntmps206;go_wp2;go_ret;exact⟨rfl,b0⟩
  by_cases aoh:s[0].toNat<224
  ·have hcl:nY s[0].toNat=some (2,s[0].toNat - 192,128):=by unfold nY;rw[aA (by omega)]
   have hF:kK s.data.toList=match jg (s[0].toNat - 192) (2 - 1) (s.data.toList.drop 1)with
    |none=>0
    |some n=>if lY n 128 then 0 else 2:=by
    rw[hcons,EY h128,hcl,List.drop_succ_cons,dD]
    rfl
   rw[hF];clear hF hcl hcons;by_cases hlen:s.size<2
   ·have hn:jg (s[0].toNat - 192) (2 - 1) (s.data.toList.drop 1)=none:=by
     cases hu:jg (s[0].toNat - 192) (2 - 1) (s.data.toList.drop 1)with
     |none=>rfl
     |some m=>
       have:=KL _ _ _ _ hu;rw[aN,fK]at this;omega
    rw[hn];clear hn;go_enter func206,ntmps206;go_wp2;go_ret;exact⟨rfl,b0⟩
   ·have H0:Hid (Ua s.data.toList 2 (s[0].toNat - 192) 1 (s[0].toNat - 192)):=⟨by omega,by omega,by simp[ub];omega,rfl⟩
    have hsub:((s[0].toNat - 192:Nat):Int)=(s[0].toNat:Int) - 192:=(by omega);generalize hN:s[0].toNat - 192=n0 at H0 hsub⊢;have HN:=ah hN;clear hN;have IQ:=ah hsub;clear hsub
    generalize hR:(match jg n0 (2 - 1) (s.data.toList.drop 1)with
     |none=>0
     |some n=>if lY n 128 then 0 else 2)=R
    have HR:=ah hR;clear hR;have d1:decide ((s[0].toNat:Int)<128)=false:=(by simp;omega);have d2:decide ((s[0].toNat:Int)<224)=true:=(by simp;omega);have d3:decide ((s[0].toNat:Int)<240)=true:=(by simp;omega);have d4:decide ((s[0].toNat:Int)<248)=true:=(by simp;omega);have d5:decide ((s.size:Int)<2)=false:=(by simp;omega);go_enter func206,ntmps206;go_wp2;go_loop [5,7] (fun nn kk=>∃k m:Nat,kk=.int .i64 (k:Int)∧nn=.int .i64 (m:Int)∧Ua s.data.toList 2 n0 k m) (fun _ kk=>2 - (intOf kk).toNat)
    case atStart=>exact⟨1,n0,rfl,by rw[IQ.out],H0.out⟩
    case round=>
     obtain⟨k,m,rfl,rfl,rE⟩:=hrel;clear H0;have h1:=rE.1;have h2:=rE.2.1;have h3:=aI rE.2.2.1 (V8 k);have HU:=ah rE;clear rE;by_cases hk:k<2
     ·have hkl:k<s.size:=by omega
      have hb:=s[k].toNat_lt;cases hc:kX s[k]with
      |false=>
        have hno:=HU.out.no hk (by rw[fK];exact hkl) (by rw[get_at s k hkl];exact hc);have hr:=HR.out;rw[hno]at hr;simp only at hr;subst hr;clear hno;unfold kX at hc;rw[Bool.and_eq_false_iff,bV,bV]at hc;rcases hc with hc|hc
        ·go_wp2
         go_ret;exact⟨rfl,b0⟩
        go_wp2;go_ret;exact⟨rfl,b0⟩
      |true=>
        have hnx:=HU.out.next (by omega) hk (by rw[fK];exact hkl) (by rw[get_at s k hkl];exact hc);rw[get_at s k hkl]at hnx;unfold kX at hc;rw[bT,bG,bG]at hc;obtain⟨c1,c2⟩:=hc;have kP:=ah hnx;clear hnx;go_wp2;go_round
        case rel=>exact⟨k+1,64*m+(s[k].toNat - 128),by go_num,by congr 1;omega,kP.out⟩
        case measure=>simp[intOf];omega
     ·obtain rfl:k=2:=by omega
      have hr:=HR.out;rw[HU.out.end_]at hr;simp only at hr;cases hbad:lY m 128 with
      |true=>
        rw[hbad,aA rfl]at hr;subst hr;unfold lY at hbad;simp only[Bool.or_eq_true,bT,bG]at hbad;rcases hbad with(hbad|hbad)|⟨hb1,hb2⟩
        ·go_wp2
         go_ret;exact⟨rfl,b0⟩
        ·go_wp2
         go_ret;exact⟨rfl,b0⟩
        go_wp2;go_ret;exact⟨rfl,b0⟩
      |false=>
        rw[hbad,ay (by simp)]at hr;subst hr;unfold lY at hbad;simp only[Bool.or_eq_false_iff,Bool.and_eq_false_imp,bV,bG]at hbad;obtain⟨⟨hb1,hb2⟩,hb3⟩:=hbad;have hb4:m<55296∨57344≤m:=(by omega);clear hb3;rcases hb4 with hb4|hb4
        ·go_wp2
         all_goals(go_ret;exact⟨rfl,b0⟩)
        go_wp2;go_ret;exact⟨rfl,b0⟩
  by_cases aoi:s[0].toNat<240
  ·have hcl:nY s[0].toNat=some (3,s[0].toNat - 224,2048):=by unfold nY;rw[ay (by omega),aA (by omega)]
   have hF:kK s.data.toList=match jg (s[0].toNat - 224) (3 - 1) (s.data.toList.drop 1)with
    |none=>0
    |some n=>if lY n 2048 then 0 else 3:=by
    rw[hcons,EY h128,hcl,List.drop_succ_cons,dD]
    rfl
   rw[hF];clear hF hcl hcons;by_cases hlen:s.size<3
   ·have hn:jg (s[0].toNat - 224) (3 - 1) (s.data.toList.drop 1)=none:=by
     cases hu:jg (s[0].toNat - 224) (3 - 1) (s.data.toList.drop 1)with
     |none=>rfl
     |some m=>
       have:=KL _ _ _ _ hu;rw[aN,fK]at this;omega
    rw[hn];clear hn;go_enter func206,ntmps206;go_wp2;go_ret;exact⟨rfl,b0⟩
   ·have H0:Hid (Ua s.data.toList 3 (s[0].toNat - 224) 1 (s[0].toNat - 224)):=⟨by omega,by omega,by simp[ub];omega,rfl⟩
    have hsub:((s[0].toNat - 224:Nat):Int)=(s[0].toNat:Int) - 224:=(by omega);generalize hN:s[0].toNat - 224=n0 at H0 hsub⊢;have HN:=ah hN;clear hN;have IQ:=ah hsub;clear hsub
    generalize hR:(match jg n0 (3 - 1) (s.data.toList.drop 1)with
     |none=>0
     |some n=>if lY n 2048 then 0 else 3)=R
    have HR:=ah hR;clear hR;have d1:decide ((s[0].toNat:Int)<128)=false:=(by simp;omega);have d2:decide ((s[0].toNat:Int)<224)=false:=(by simp;omega);have d3:decide ((s[0].toNat:Int)<240)=true:=(by simp;omega);have d4:decide ((s[0].toNat:Int)<248)=true:=(by simp;omega);have d5:decide ((s.size:Int)<3)=false:=(by simp;omega);go_enter func206,ntmps206;go_wp2;go_loop [5,7] (fun nn kk=>∃k m:Nat,kk=.int .i64 (k:Int)∧nn=.int .i64 (m:Int)∧Ua s.data.toList 3 n0 k m) (fun _ kk=>3 - (intOf kk).toNat)
    case atStart=>exact⟨1,n0,rfl,by rw[IQ.out],H0.out⟩
    case round=>
     obtain⟨k,m,rfl,rfl,rE⟩:=hrel;clear H0;have h1:=rE.1;have h2:=rE.2.1;have h3:=aI rE.2.2.1 (V8 k);have HU:=ah rE;clear rE;by_cases hk:k<3
     ·have hkl:k<s.size:=by omega
      have hb:=s[k].toNat_lt;cases hc:kX s[k]with
      |false=>
        have hno:=HU.out.no hk (by rw[fK];exact hkl) (by rw[get_at s k hkl];exact hc);have hr:=HR.out;rw[hno]at hr;simp only at hr;subst hr;clear hno;unfold kX at hc;rw[Bool.and_eq_false_iff,bV,bV]at hc;rcases hc with hc|hc
        ·go_wp2
         go_ret;exact⟨rfl,b0⟩
        go_wp2;go_ret;exact⟨rfl,b0⟩
      |true=>
        have hnx:=HU.out.next (by omega) hk (by rw[fK];exact hkl) (by rw[get_at s k hkl];exact hc);rw[get_at s k hkl]at hnx;unfold kX at hc;rw[bT,bG,bG]at hc;obtain⟨c1,c2⟩:=hc;have kP:=ah hnx;clear hnx;go_wp2;go_round
        case rel=>exact⟨k+1,64*m+(s[k].toNat - 128),by go_num,by congr 1;omega,kP.out⟩
        case measure=>simp[intOf];omega
     ·obtain rfl:k=3:=by omega
      have hr:=HR.out;rw[HU.out.end_]at hr;simp only at hr;cases hbad:lY m 2048 with
      |true=>
        rw[hbad,aA rfl]at hr;subst hr;unfold lY at hbad;simp only[Bool.or_eq_true,bT,bG]at hbad;rcases hbad with(hbad|hbad)|⟨hb1,hb2⟩
        ·go_wp2
         go_ret;exact⟨rfl,b0⟩
        ·go_wp2
         go_ret;exact⟨rfl,b0⟩
        go_wp2;go_ret;exact⟨rfl,b0⟩
      |false=>
        rw[hbad,ay (by simp)]at hr;subst hr;unfold lY at hbad;simp only[Bool.or_eq_false_iff,Bool.and_eq_false_imp,bV,bG]at hbad;obtain⟨⟨hb1,hb2⟩,hb3⟩:=hbad;have hb4:m<55296∨57344≤m:=(by omega);clear hb3;rcases hb4 with hb4|hb4
        ·go_wp2
         all_goals(go_ret;exact⟨rfl,b0⟩)
        go_wp2;go_ret;exact⟨rfl,b0⟩
  by_cases aoj:s[0].toNat<248
  ·have hcl:nY s[0].toNat=some (4,s[0].toNat - 240,65536):=by unfold nY;rw[ay (by omega),ay (by omega),aA (by omega)]
   have hF:kK s.data.toList=match jg (s[0].toNat - 240) (4 - 1) (s.data.toList.drop 1)with
    |none=>0
    |some n=>if lY n 65536 then 0 else 4:=by
    rw[hcons,EY h128,hcl,List.drop_succ_cons,dD]
    rfl
   rw[hF];clear hF hcl hcons;by_cases hlen:s.size<4
   ·have hn:jg (s[0].toNat - 240) (4 - 1) (s.data.toList.drop 1)=none:=by
     cases hu:jg (s[0].toNat - 240) (4 - 1) (s.data.toList.drop 1)with
     |none=>rfl
     |some m=>
       have:=KL _ _ _ _ hu;rw[aN,fK]at this;omega
    rw[hn];clear hn;go_enter func206,ntmps206;go_wp2;go_ret;exact⟨rfl,b0⟩
   ·have H0:Hid (Ua s.data.toList 4 (s[0].toNat - 240) 1 (s[0].toNat - 240)):=⟨by omega,by omega,by simp[ub];omega,rfl⟩
    have hsub:((s[0].toNat - 240:Nat):Int)=(s[0].toNat:Int) - 240:=(by omega);generalize hN:s[0].toNat - 240=n0 at H0 hsub⊢;have HN:=ah hN;clear hN;have IQ:=ah hsub;clear hsub
    generalize hR:(match jg n0 (4 - 1) (s.data.toList.drop 1)with
     |none=>0
     |some n=>if lY n 65536 then 0 else 4)=R
    have HR:=ah hR;clear hR;have d1:decide ((s[0].toNat:Int)<128)=false:=(by simp;omega);have d2:decide ((s[0].toNat:Int)<224)=false:=(by simp;omega);have d3:decide ((s[0].toNat:Int)<240)=false:=(by simp;omega);have d4:decide ((s[0].toNat:Int)<248)=true:=(by simp;omega);have d5:decide ((s.size:Int)<4)=false:=(by simp;omega);go_enter func206,ntmps206;go_wp2;go_loop [5,7] (fun nn kk=>∃k m:Nat,kk=.int .i64 (k:Int)∧nn=.int .i64 (m:Int)∧Ua s.data.toList 4 n0 k m) (fun _ kk=>4 - (intOf kk).toNat)
    case atStart=>exact⟨1,n0,rfl,by rw[IQ.out],H0.out⟩
    case round=>
     obtain⟨k,m,rfl,rfl,rE⟩:=hrel;clear H0;have h1:=rE.1;have h2:=rE.2.1;have h3:=aI rE.2.2.1 (V8 k);have HU:=ah rE;clear rE;by_cases hk:k<4
     ·have hkl:k<s.size:=by omega
      have hb:=s[k].toNat_lt;cases hc:kX s[k]with
      |false=>
        have hno:=HU.out.no hk (by rw[fK];exact hkl) (by rw[get_at s k hkl];exact hc);have hr:=HR.out;rw[hno]at hr;simp only at hr;subst hr;clear hno;unfold kX at hc;rw[Bool.and_eq_false_iff,bV,bV]at hc;rcases hc with hc|hc
        ·go_wp2
         go_ret;exact⟨rfl,b0⟩
        go_wp2;go_ret;exact⟨rfl,b0⟩
      |true=>
        have hnx:=HU.out.next (by omega) hk (by rw[fK];exact hkl) (by rw[get_at s k hkl];exact hc);rw[get_at s k hkl]at hnx;unfold kX at hc;rw[bT,bG,bG]at hc;obtain⟨c1,c2⟩:=hc;have kP:=ah hnx;clear hnx;go_wp2;go_round
        case rel=>exact⟨k+1,64*m+(s[k].toNat - 128),by go_num,by congr 1;omega,kP.out⟩
        case measure=>simp[intOf];omega
     ·obtain rfl:k=4:=by omega
      have hr:=HR.out;rw[HU.out.end_]at hr;simp only at hr;cases hbad:lY m 65536 with
      |true=>
        rw[hbad,aA rfl]at hr;subst hr;unfold lY at hbad;simp only[Bool.or_eq_true,bT,bG]at hbad;rcases hbad with(hbad|hbad)|⟨hb1,hb2⟩
        ·go_wp2
         go_ret;exact⟨rfl,b0⟩
        ·go_wp2
         go_ret;exact⟨rfl,b0⟩
        go_wp2;go_ret;exact⟨rfl,b0⟩
      |false=>
        rw[hbad,ay (by simp)]at hr;subst hr;unfold lY at hbad;simp only[Bool.or_eq_false_iff,Bool.and_eq_false_imp,bV,bG]at hbad;obtain⟨⟨hb1,hb2⟩,hb3⟩:=hbad;have hb4:m<55296∨57344≤m:=(by omega);clear hb3;rcases hb4 with hb4|hb4
        ·go_wp2
         all_goals(go_ret;exact⟨rfl,b0⟩)
        go_wp2;go_ret;exact⟨rfl,b0⟩
  have hcl:nY s[0].toNat=none:=by unfold nY;rw[ay (by omega),ay (by omega),ay (by omega)]
  rw[hcons,EY h128,hcl];clear hcons hcl;go_enter func206,ntmps206;go_wp2;go_ret;exact⟨rfl,b0⟩
theorem ai9{t:ByteArray}(h:t.size=0):t.data.toList=[]:=aV (by rw[fK];exact h)
theorem ai8{t:ByteArray}(h:¬t.size=0):t.data.toList≠[]:=fun e=>h (by rw[← fK,e];rfl)
theorem aly(s:ByteArray)(w:World)(hs:s.size≤9223372036854775807) :
 Calls prog 158 #[.string s] w (aj w (.bool (jE s.data.toList))):=by
 generalize hG:jE s.data.toList=G
 have HG:=ah hG
 clear hG
 go_enter func158,ntmps158
 go_wp2
 go_loopw [0] (fun sl wr=>∃t:ByteArray,sl=.string t∧t.size≤s.size∧Hid (jE t.data.toList=G)∧Below w.heap.size w wr) (fun sl _=>strLen sl)
 case atStart=>exact⟨s,rfl,au _,HG,b0⟩
 case round=>
  obtain⟨t,rfl,hle,hg,hbel⟩:=hrel;have HB:=ah hbel;clear hbel;by_cases ht:t.size=0
  ·have hg2:=hg.out
   rw[ai9 ht,ug]at hg2;subst hg2;go_wp2;go_ret;exact⟨rfl,HB.out⟩
  have hpos:0<t.size:=by omega
  have hne:=ai8 ht;have hu:=anr t.data.toList;have HF:Hid (∀x:World,Calls prog 206 #[.string t] x (aj x (.int .i64 (kK t.data.toList:Int)))):=fun x=>alx t x (by omega);have hg2:=hg.out;by_cases hz:kK t.data.toList=0
  ·rw[Wh hz hne]at hg2
   subst hg2;rw[hz]at HF;clear hz hu ht hne;go_wp2_with fail;refine(HF.out _).mono ?_;rintro e w1 ⟨rfl,hb1⟩;go_wp2;go_ret;exact⟨rfl,bb HB.out hb1⟩
  rw[sG hz]at hg2;have hl:=PW hz;rw[fK]at hl;obtain⟨l1,l2,_⟩:=hl;have hn0:((kK t.data.toList:Int)==0)=false:=by rw[aB];omega
  generalize kK t.data.toList=k at *;have HG2:=ah hg2;clear hg2 hz hne ht;go_wp2_with fail;refine(HF.out _).mono ?_;rintro e w1 ⟨rfl,hb1⟩;go_wp2;go_roundw
  case rel=>exact⟨_,rfl,by simp;omega,by show _=_;rw[BG];exact HG2.out,bb HB.out hb1⟩
  case measure=>simp[strLen];omega
theorem VE(s:ByteArray)(least most:Int)(w:World)(hs:s.size≤9223372036854775807)(_hT:True) :
 Calls prog 107 #[.string s,.int .i64 least,.int .i64 most] w (aj w (.int .i64 (jJ s.data.toList least most))):=by
 unfold jJ
 rw[fK]
 have HG:Hid (Calls prog 158 #[.string s] w (aj w (.bool (jE s.data.toList)))):=aly s w hs
 try clear hT
 by_cases h1:(s.size:Int)<least
 ·rw[aA (.inl h1)]
  go_enter func107,ntmps107;go_wp2;go_ret;exact⟨rfl,b0⟩
 ·by_cases h2:most<(s.size:Int)
  ·rw[aA (.inr h2)]
   go_enter func107,ntmps107;go_wp2;go_ret;exact⟨rfl,b0⟩
  rw[ay (by omega)];cases hg:jE s.data.toList with
  |true=>
    rw[hg]at HG;clear hg;go_enter func107,ntmps107;go_wp2_with fail;refine HG.out.mono ?_;rintro e w1 ⟨rfl,hb⟩;go_wp2;go_ret;exact⟨rfl,hb⟩
  |false=>
    rw[hg]at HG;clear hg;go_enter func107,ntmps107;go_wp2_with fail;refine HG.out.mono ?_;rintro e w1 ⟨rfl,hb⟩;go_wp2;go_ret;exact⟨rfl,hb⟩
theorem ahD:jE [192,128]=false:=Wh (by decide) (by decide)
theorem ahE:jE [97,0,195,169]=true:=by
 rw[sG (by decide)];show jE [0,195,169]=true;rw[sG (by decide)];show jE [195,169]=true;rw[sG (by decide)];exact ug
theorem aeQ(w:World)(hT:Tabs w) :
 Calls prog 318 #[] w (aj w (.bool true)):=by
 have HT:=ah hT
 clear hT
 go_enter func318,ntmps318
 go_wp2_with fail
 refine(ae9 _).mono ?_
 rintro e w1 ⟨rfl,hb1⟩
 have h1:=TB ⟨#[192,128]⟩ w1 (by decide) (HT.out.below hb1)
 rw[show(ByteArray.mk #[192,128]).data.toList=[192,128]from rfl,ahD]at h1
 have H1:=ah h1
 clear h1
 go_wp2_with fail
 refine H1.out.mono ?_
 rintro e w2 ⟨rfl,hb2⟩
 replace hb2:=bb hb1 hb2
 have h2:=TB ⟨#[97,0,195,169]⟩ w2 (by decide) (HT.out.below hb2)
 rw[show(ByteArray.mk #[97,0,195,169]).data.toList=[97,0,195,169]from rfl,ahE]at h2
 have H2:=ah h2
 clear h2 H1
 go_wp2_with fail
 refine H2.out.mono ?_
 rintro e w3 ⟨rfl,hb3⟩
 replace hb3:=bb hb2 hb3
 go_wp2
 go_ret
 exact⟨rfl,hb3⟩
theorem afa(w:World)(hT:Tabs w):Calls prog 317 #[] w (aj w (.bool true)):=by
 have H:=ah (aeQ w hT);clear hT;go_enter func317,ntmps317;go_wp2_with fail;refine H.out.mono ?_;rintro e w' ⟨rfl,hb⟩;go_wp2;go_ret;exact⟨rfl,hb⟩
