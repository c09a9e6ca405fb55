/-
  Parts of the proof. Conditions: as each names.
-/
import Derived.Test.YtgidfnhfgiehjaaGreatDoorYag
import Derived.Test.YtgidfnhfgiehjaaGreatDoorYaf
import Derived.Deep.LoopGhost
namespace Go.PM
open Go.RowKit
theorem acB{w:World}{base:Nat}{e:TypeId}{size g n cap:Nat}{xs:List Value}(h:w.ownsRow base e size (.slice (some ⟨g,0,none⟩) (n+1) cap) (n+1) xs) :
 w.ownsRow base e size (.slice (some ⟨g,0,none⟩) n cap) n (xs.take (n*size)):=by
 have hle:n*size≤(n+1)*size:=Nat.mul_le_mul_right _ (by omega)
 refine⟨by rw[bD,h.1];omega,?_⟩
 rcases h.2 with⟨h',_⟩|⟨g',cap',cur,h',hb,hg,hnc,hcm,hcs,htake⟩
 ·simp at h'
 ·simp only[Value.slice.injEq,bJ,Addr.mk.injEq,and_true,true_and]at h'
  obtain⟨rfl,rfl⟩:=h';refine .inr ⟨g,cap,cur,rfl,hb,hg,by omega,hcm,hcs,?_⟩;rw[← htake,List.take_take,Nat.min_eq_left hle]
theorem acA{w:World}{base:Nat}{e:TypeId}{size g n cap:Nat}{xs:List Value}(h:w.ownsRow base e size (.slice (some ⟨g,0,none⟩) n cap) n xs):n≤cap∧cap≤9223372036854775807:=by
 rcases h.2 with⟨h',_⟩|⟨g',cap',cur,h',hb,hg,hnc,hcm,hcs,htake⟩
 ·simp at h'
 simp only[Value.slice.injEq,bJ,Addr.mk.injEq,and_true,true_and]at h';obtain⟨rfl,rfl⟩:=h';exact⟨hnc,by unfold maxLen at hcm;omega⟩
def WL(w:World)(I:Nat→Prop)(xs:List Value)(L:List Fs):Prop:=xs.length=L.length∧∀(j:Nat) (x:Value) (f:Fs),xs[j]?=some x→L[j]?=some f→eF w I x f
theorem WL.nil{w:World}{I:Nat→Prop}:WL w I [] []:=⟨rfl,fun j x f h=>by simp at h⟩
theorem WL.push{w:World}{I:Nat→Prop}{xs:List Value}{L:List Fs}{x:Value}{f:Fs}(h:WL w I xs L)(hx:eF w I x f):WL w I (xs++[x]) (L++[f]):=by
 refine⟨by simp[h.1],fun j y g hy hg=>?_⟩;by_cases hj:j<xs.length
 ·rw[List.getElem?_append_left hj]at hy
  rw[List.getElem?_append_left (by rw[← h.1];exact hj)]at hg;exact h.2 j y g hy hg
 rw[List.getElem?_append_right (by omega)]at hy;rw[List.getElem?_append_right (by rw[← h.1];omega),← h.1]at hg;generalize j - xs.length=m at hy hg;cases m with
 |zero=>simp at hy hg;subst hy hg;exact hx
 |succ m=>simp at hy
theorem WL.pop{w:World}{I:Nat→Prop}{xs:List Value}{L:List Fs}{n:Nat}(h:WL w I xs L)(hn:L.length=n+1) :
 ∃L' f x,L=L'++[f]∧L'.length=n∧xs[n]?=some x∧eF w I x f∧WL w I (xs.take n) L':=by
 have hx:n<xs.length:=by rw[h.1];omega
 have hL:n<L.length:=by omega
 refine⟨L.take n,L[n],xs[n],?_,by rw[bD];omega,aP hx,h.2 n _ _ (aP hx) (aP hL),?_⟩
 ·have h1:=aT hL
  rw[h1,aU (by omega)]
 ·refine⟨by rw[bD,bD,h.1],fun j y g hy hg=>?_⟩
  rw[List.getElem?_take]at hy hg;by_cases hj:j<n
  ·rw[aA hj]at hy hg
   exact h.2 j y g hy hg
  rw[ay hj]at hy;cases hy
end Go.PM
namespace Go.Proofs.YtgidfnhfgiehjaaGreatDoor
open Go.PM Go.RowKit Go.Proofs.Tryz
set_option maxRecDepth 100000
set_option maxHeartbeats 4000000
theorem aiG:(prog.info? 33).map (fun i=>(i.zero,i.size,i.bytes))=some (some (.slice none 0 0),1,24):=by kernel_rfl
def yK(base:Nat)(w0:World)(I:Nat→Prop)(v:Value)(L:List Fs)(wr:World):Prop :=
 ∃xs:List Value,wr.ownsRow base 33 1 v L.length xs∧WL w0 I xs L
theorem yK.form{base:Nat}{w0 wr:World}{I:Nat→Prop}{v:Value}{L:List Fs}(h:yK base w0 I v L wr):∃A c,v=.slice A L.length c:=by
 obtain⟨xs,h1,_⟩:=h;obtain⟨A,c,rfl,_⟩:=Rd.own h1;exact⟨A,c,rfl⟩
theorem yK.at_{base:Nat}{w0 wr:World}{I:Nat→Prop}{A:Option Addr}{n c:Nat}{L:List Fs}(h:yK base w0 I (.slice A n c) L wr){j:Nat}(hj:j<L.length) :
 ∃g f x,A=some ⟨g,0,none⟩∧base≤g∧g<wr.heap.size∧L[j]?=some f∧wr.cell? ⟨g,j,none⟩=some x∧eF w0 I x f:=by
 obtain⟨xs,h1,h2⟩:=h
 obtain⟨g,cap,hv,hb,hlt⟩:=h1.form (by omega)
 injection hv with e1 e2 e3
 subst e1 e2 e3
 have hx:j<xs.length:=by rw[h2.1];exact hj
 refine⟨g,L[j],xs[j],rfl,hb,hlt,aP hj,?_,h2.2 j _ _ (aP hx) (aP hj)⟩
 have hc:=h1.cellAt j (by omega)
 rw[hc,aP hx]
theorem yK.below{base:Nat}{w0 wr w':World}{I:Nat→Prop}{v:Value}{L:List Fs}(h:yK base w0 I v L wr)(hb:Below wr.heap.size wr w'):yK base w0 I v L w':=by
 obtain⟨xs,h1,h2⟩:=h;exact⟨xs,own_below h1 hb,h2⟩
theorem yK.mono{base base':Nat}{w0 wr:World}{I:Nat→Prop}{v:Value}{L:List Fs}(h:yK base w0 I v L wr)(hb:base'≤base):yK base' w0 I v L wr:=by
 obtain⟨xs,⟨h0,h1⟩,h2⟩:=h;refine⟨xs,⟨h0,h1.imp id ?_⟩,h2⟩;rintro⟨g,cap,cur,e1,e2,e3⟩;exact⟨g,cap,cur,e1,by omega,e3⟩
end Go.Proofs.YtgidfnhfgiehjaaGreatDoor
namespace Go.Proofs.YtgidfnhfgiehjaaGreatDoor
open Go.PM Go.RowKit Go.Proofs.Tryz
set_option maxRecDepth 100000
set_option maxHeartbeats 8000000
attribute [local go_sem ↓] Go.wp_at_zero Go.wp_at_succ

theorem acR(N:Nat):∀(A:Option Addr) (c:Nat) (f:Fs) (I:Nat→Prop) (deep:Nat) (w:World),f.count≤N→eF w I (.slice A f.len c) f→f.All mF→f.count≤1000000→(deep≤8∨deep=9∧f=.nil)→
 Calls prog 112 #[.slice A f.len c,.int .i64 (deep:Int)] w (aj w (.int .i64 (fM f 0 deep:Int))):=by
 induction N with
 |zero=>
   intro A c f I deep w hN hr hk h60 hw;have:f=.nil:=Fs.jr (by have:=f.kH;omega);subst this;go_enter func112,ntmps112;go_wp2_with fail;go_loopw [10] (fun kk wr=>kk=.int .i64 0∧wr=w) (fun _ _=>0)
   case atStart=>exact⟨rfl,rfl⟩
   case round=>
    obtain⟨rfl,rfl⟩:=hrel;go_wp2_with fail;go_ret;exact⟨rfl,b0⟩
 |succ N ih=>
   intro A c f I deep w hN hr hk h60 hw;have IH:=ah ih;have HR:=ah hr;have HK:=ah hk;have HW:=ah hw;have hfl:=f.kH;generalize hRR:fM f 0 deep=R;have H0:Hid (fM (f.drop 0) 0 deep=R):=(by show _=_;rw[← hRR];cases f<;>rfl);have hd9:deep≤9:=(by omega);clear hRR ih hr hk hw;go_enter func112,ntmps112;go_wp2_with fail;go_loopw [10] (fun kk wr=>∃k ahead:Nat,k≤f.len∧kk=.int .i64 (k:Int)∧Hid (k=0∧ahead=0∨∃j y n s i r,k=j+1∧f.drop j=.cons ahead y n s i r)∧Hid (fM (f.drop k) ahead deep=R)∧Below w.heap.size w wr) (fun kk _=>f.len - (intOf kk).toNat)
   case atStart=>exact⟨0,0,by omega,rfl,.inl ⟨rfl,rfl⟩,H0,b0⟩
   case round=>
    obtain⟨k,ahead,hk,rfl,hah,hR',hbel⟩:=hrel;have eX:=ah hbel;have hR:=hR'.out;by_cases hlt:k<f.len
    ·obtain⟨t,y,n,s,i,hdc,_⟩:=f.drop_cons k hlt
     have hd8:deep≤8:=by
      rcases HW.out with h|⟨_,h⟩
      ·exact h
      rw[h]at hlt;simp[Fs.len]at hlt
     obtain⟨A0,c0,hv,hc0,hor⟩:=HR.out.below hbel;injection hv with hv1 hv2 hv3;subst hv1 hv3;rcases hor with h0|⟨b,o,rfl,yX,hbl,hat⟩
     ·omega
     have hak:=hat.drop k;have hkk:=HK.out.drop k;have hcc:=f.yP k;have HAT:=ah hat
     rw[hdc]at hak hkk hR hcc;obtain⟨d0,d1,d2,d3,⟨Ai,ci,d4,hin⟩,_⟩:=hak;obtain⟨⟨JV,UN,nM,hs63⟩,hki,_⟩:=hkk;have hic:i.count≤N∧i.count≤1000000∧i.len≤1000000:=by
      have:=i.kH;simp only[Fs.count]at hcc;omega
     have pY:Hid (eF wr I (.slice Ai i.len ci) i):=⟨Ai,ci,rfl,hin⟩;have zF:=ah hki;have aek:=ah JV;have zD:=ah hdc;clear hdc hat hin hki hbel hv2 nM hR' JV hcc H0;rw[fM]at hR;have pK:(k:Int)<(f.len:Int):=(by omega);by_cases ht0:t=0
     ·subst ht0
      rw[aA (.inl rfl)]at hR;clear hah;subst hR;go_wp2_with fail;go_ret;exact⟨rfl,eX.out.trans ((ba b0 _:Below wr.heap.size wr _).mono eX.out.size)⟩
     have hti:((t:Int)==0)=false:=(by rw[aB];omega);by_cases ht1:4294967296<t
     ·rw[aA (.inr ht1)]at hR
      clear hah;subst hR;go_wp2_with fail;go_ret;exact⟨rfl,eX.out.trans ((ba b0 _:Below wr.heap.size wr _).mono eX.out.size)⟩
     rw[ay (by omega)]at hR;have htd:decide ((4294967296:Int)<(t:Int))=false:=(by simp;omega);have lu:Hid ((deep+1≤8∨deep+1=9∧i=.nil)→∀x:World,Below wr.heap.size wr x→Calls prog 112 #[.slice Ai i.len ci,.int .i64 ((deep:Int)+1)] x (aj x (.int .i64 (fM i 0 (deep+1):Int)))):=fun hh x hx=>IH.out Ai ci i I (deep+1) x hic.1 (pY.out.below hx) zF.out hic.2.1 hh;rcases hah.out with⟨rfl,rfl⟩|⟨j,py,pn,ps,pi,pr,rfl,hdj⟩
     ·rw[ay (by omega)]at hR
      clear hah;simp only[Nat.zero_mul,Nat.add_zero]at d0 d1 d2 d3 d4;cases hty:qB y n s i.len with
      |false=>
        rw[aA hty]at hR;clear lu;by_cases y0:y=0
        ·subst y0
         unfold qB at hty;rw[aA rfl]at hty;by_cases hs:s.size=0
         ·obtain rfl:=AA hs
          have hz:i.len≠0:=fun h=>(by rw[h]at hty;revert hty;decide);have hi:(0:Int)<(i.len:Int):=(by omega);clear hz;clear hty;subst hR;go_wp2_with fail;go_quiet(fail);go_wp2_with fail;go_ret;exact⟨rfl,eX.out.trans ((bn (ba b0 _) _:Below wr.heap.size wr _).mono eX.out.size)⟩
         obtain⟨e1,e2⟩:=Hw hs;clear hty;subst hR;go_wp2_with fail;go_quiet(fail);go_wp2_with fail;go_ret;exact⟨rfl,eX.out.trans ((bn (ba b0 _) _:Below wr.heap.size wr _).mono eX.out.size)⟩
        by_cases y1:y=1
        ·subst y1
         unfold qB at hty;rw[ay (by simp),aA rfl]at hty;by_cases hn:n=0
         ·subst hn
          have hz:i.len≠0:=fun h=>(by rw[h]at hty;revert hty;decide);have hi:(0:Int)<(i.len:Int):=(by omega);clear hz;clear hty;subst hR;go_wp2_with fail;go_quiet(fail);go_wp2_with fail;go_ret;exact⟨rfl,eX.out.trans ((bn (ba b0 _) _:Below wr.heap.size wr _).mono eX.out.size)⟩
         have hi:((n:Int) != 0)=true:=(by rw[aZ];omega);clear hty;subst hR;go_wp2_with fail;go_quiet(fail);go_wp2_with fail;go_ret;exact⟨rfl,eX.out.trans ((bn (ba b0 _) _:Below wr.heap.size wr _).mono eX.out.size)⟩
        by_cases y2:y=2
        ·subst y2
         unfold qB at hty;rw[ay (by simp),ay (by simp),aA rfl]at hty;by_cases hn:n=0
         ·subst hn
          have hs:s.size≠0:=(by simpa using hty);obtain⟨e1,e2⟩:=Hw hs;clear hty;subst hR;go_wp2_with fail;go_quiet(fail);go_wp2_with fail;go_ret;exact⟨rfl,eX.out.trans ((bn (ba b0 _) _:Below wr.heap.size wr _).mono eX.out.size)⟩
         have hi:((n:Int) != 0)=true:=(by rw[aZ];omega);clear hty;subst hR;go_wp2_with fail;go_quiet(fail);go_wp2_with fail;go_ret;exact⟨rfl,eX.out.trans ((bn (ba b0 _) _:Below wr.heap.size wr _).mono eX.out.size)⟩
        clear hty;by_cases yn:y<0
        ·clear y0 y1 y2
         subst hR;go_wp2_with fail;go_quiet(fail);go_wp2_with fail;go_ret;exact⟨rfl,eX.out.trans ((bn (ba b0 _) _:Below wr.heap.size wr _).mono eX.out.size)⟩
        have yp:2<y:=(by omega);have yd:decide (y<0)=false:=(by simp;omega);clear y0 y1 y2 yn;subst hR;go_wp2_with fail;go_quiet(fail);go_wp2_with fail;go_ret;exact⟨rfl,eX.out.trans ((bn (ba b0 _) _:Below wr.heap.size wr _).mono eX.out.size)⟩
      |true=>
        rw[ay (by rw[hty];simp)]at hR;unfold qB at hty;by_cases y0:y=0
        ·subst y0
         rw[aA rfl]at hty;simp only[bT,bG]at hty;obtain⟨hs,h0⟩:=hty;obtain rfl:=AA hs;have:i=.nil:=Fs.jr h0;subst this;rw[aA (by simp)]at hR;rw[show fM .nil 0 (deep+1)=0 from rfl]at lu;have hdi:deep+1≤8∨deep+1=9∧Fs.nil=Fs.nil:=by
          rcases Nat.lt_or_ge deep 8 with h|h
          ·exact .inl h
          exact .inr ⟨by omega,rfl⟩
         have vg:=ah hdi;clear hs h0 hdi;have HR2:=ah hR;clear hR;go_wp2_with fail;go_quiet(fail);go_wp2_with(go_at_call 112;refine(lu.out vg.out _ (by first|exact bn (ba b0 _) _|exact bd (bn (ba b0 _) _))).mono ?_;rintro e' W1 ⟨rfl,hb1⟩);go_roundw
         case rel=>exact⟨0+1,t,by omega,by go_num,.inr ⟨0,_,_,_,_,_,rfl,zD.out⟩,HR2,eX.out.trans ((bb (bn (ba b0 _) _) hb1).mono eX.out.size)⟩
         case measure=>simp[intOf];omega
        rw[ay y0]at hty;by_cases y1:y=1
        ·subst y1
         rw[aA rfl]at hty;simp only[bT,bG]at hty;obtain⟨hs,h0⟩:=hty;subst hs;have:i=.nil:=Fs.jr h0;subst this;rw[aA (by simp)]at hR;rw[show fM .nil 0 (deep+1)=0 from rfl]at lu;have hdi:deep+1≤8∨deep+1=9∧Fs.nil=Fs.nil:=by
          rcases Nat.lt_or_ge deep 8 with h|h
          ·exact .inl h
          exact .inr ⟨by omega,rfl⟩
         have vg:=ah hdi;clear y0 h0 hdi;have HR2:=ah hR;clear hR;go_wp2_with fail;go_quiet(fail);go_wp2_with(go_at_call 112;refine(lu.out vg.out _ (by first|exact bn (ba b0 _) _|exact bd (bn (ba b0 _) _))).mono ?_;rintro e' W1 ⟨rfl,hb1⟩);go_roundw
         case rel=>exact⟨0+1,t,by omega,by go_num,.inr ⟨0,_,_,_,_,_,rfl,zD.out⟩,HR2,eX.out.trans ((bb (bn (ba b0 _) _) hb1).mono eX.out.size)⟩
         case measure=>simp[intOf];omega
        rw[ay y1]at hty;by_cases y2:y=2
        ·subst y2
         rw[aA rfl]at hty;simp only[bT,bG]at hty;obtain⟨hn,hs⟩:=hty;subst hn;obtain rfl:=AA hs;rw[ay (by simp)]at hR;clear y0 y1 hs;by_cases hde:8≤deep
         ·rw[aA hde]at hR
          obtain rfl:deep=8:=(by omega);clear lu;subst hR;go_wp2_with fail;go_quiet(fail);go_wp2_with fail;go_ret;exact⟨rfl,eX.out.trans ((bn (ba b0 _) _:Below wr.heap.size wr _).mono eX.out.size)⟩
         rw[ay hde]at hR;have hdd:((deep:Int)==8)=false:=(by rw[aB];omega);have vg:Hid (deep+1≤8∨deep+1=9∧i=.nil):=.inl (by omega);generalize hE:fM i 0 (deep+1)=E at hR lu;clear hE;by_cases he:E=0
         ·subst he
          rw[ay (by simp)]at hR;have HR2:=ah hR;clear hR;go_wp2_with fail;go_quiet(fail);go_wp2_with(go_at_call 112;refine(lu.out vg.out _ (by first|exact bn (ba b0 _) _|exact bd (bn (ba b0 _) _))).mono ?_;rintro e' W1 ⟨rfl,hb1⟩);go_roundw
          case rel=>exact⟨0+1,t,by omega,by go_num,.inr ⟨0,_,_,_,_,_,rfl,zD.out⟩,HR2,eX.out.trans ((bb (bn (ba b0 _) _) hb1).mono eX.out.size)⟩
          case measure=>simp[intOf];omega
         rw[aA he]at hR;have Uf:((E:Int) != 0)=true:=(by rw[aZ];omega);subst hR;go_wp2_with fail;go_quiet(fail);go_wp2_with(go_at_call 112;refine(lu.out vg.out _ (by first|exact bn (ba b0 _) _|exact bd (bn (ba b0 _) _))).mono ?_;rintro e' W1 ⟨rfl,hb1⟩);go_ret;exact⟨rfl,eX.out.trans ((bb (bn (ba b0 _) _) hb1).mono eX.out.size)⟩
        rw[ay y2]at hty;cases hty
     ·have hpk:=HAT.out.drop j
      rw[hdj]at hpk;obtain⟨p0,_⟩:=hpk;clear hah hdj;by_cases hta:t≤ahead
      ·rw[aA hta]at hR
       clear lu;subst hR;go_wp2_with fail;go_quiet(fail);go_wp2_with fail;go_ret;exact⟨rfl,eX.out.trans ((bn (ba b0 _) _:Below wr.heap.size wr _).mono eX.out.size)⟩
      rw[ay hta]at hR;have aix:decide ((t:Int)≤(ahead:Int))=false:=(by simp;omega);cases hty:qB y n s i.len with
      |false=>
        rw[aA hty]at hR;clear lu;by_cases y0:y=0
        ·subst y0
         unfold qB at hty;rw[aA rfl]at hty;by_cases hs:s.size=0
         ·obtain rfl:=AA hs
          have hz:i.len≠0:=fun h=>(by rw[h]at hty;revert hty;decide);have hi:(0:Int)<(i.len:Int):=(by omega);clear hz;clear hty;subst hR;go_wp2_with fail;go_quiet(fail);go_wp2_with fail;go_ret;exact⟨rfl,eX.out.trans ((bn (ba b0 _) _:Below wr.heap.size wr _).mono eX.out.size)⟩
         obtain⟨e1,e2⟩:=Hw hs;clear hty;subst hR;go_wp2_with fail;go_quiet(fail);go_wp2_with fail;go_ret;exact⟨rfl,eX.out.trans ((bn (ba b0 _) _:Below wr.heap.size wr _).mono eX.out.size)⟩
        by_cases y1:y=1
        ·subst y1
         unfold qB at hty;rw[ay (by simp),aA rfl]at hty;by_cases hn:n=0
         ·subst hn
          have hz:i.len≠0:=fun h=>(by rw[h]at hty;revert hty;decide);have hi:(0:Int)<(i.len:Int):=(by omega);clear hz;clear hty;subst hR;go_wp2_with fail;go_quiet(fail);go_wp2_with fail;go_ret;exact⟨rfl,eX.out.trans ((bn (ba b0 _) _:Below wr.heap.size wr _).mono eX.out.size)⟩
         have hi:((n:Int) != 0)=true:=(by rw[aZ];omega);clear hty;subst hR;go_wp2_with fail;go_quiet(fail);go_wp2_with fail;go_ret;exact⟨rfl,eX.out.trans ((bn (ba b0 _) _:Below wr.heap.size wr _).mono eX.out.size)⟩
        by_cases y2:y=2
        ·subst y2
         unfold qB at hty;rw[ay (by simp),ay (by simp),aA rfl]at hty;by_cases hn:n=0
         ·subst hn
          have hs:s.size≠0:=(by simpa using hty);obtain⟨e1,e2⟩:=Hw hs;clear hty;subst hR;go_wp2_with fail;go_quiet(fail);go_wp2_with fail;go_ret;exact⟨rfl,eX.out.trans ((bn (ba b0 _) _:Below wr.heap.size wr _).mono eX.out.size)⟩
         have hi:((n:Int) != 0)=true:=(by rw[aZ];omega);clear hty;subst hR;go_wp2_with fail;go_quiet(fail);go_wp2_with fail;go_ret;exact⟨rfl,eX.out.trans ((bn (ba b0 _) _:Below wr.heap.size wr _).mono eX.out.size)⟩
        clear hty;by_cases yn:y<0
        ·clear y0 y1 y2
         subst hR;go_wp2_with fail;go_quiet(fail);go_wp2_with fail;go_ret;exact⟨rfl,eX.out.trans ((bn (ba b0 _) _:Below wr.heap.size wr _).mono eX.out.size)⟩
        have yp:2<y:=(by omega);have yd:decide (y<0)=false:=(by simp;omega);clear y0 y1 y2 yn;subst hR;go_wp2_with fail;go_quiet(fail);go_wp2_with fail;go_ret;exact⟨rfl,eX.out.trans ((bn (ba b0 _) _:Below wr.heap.size wr _).mono eX.out.size)⟩
      |true=>
        rw[ay (by rw[hty];simp)]at hR;unfold qB at hty;by_cases y0:y=0
        ·subst y0
         rw[aA rfl]at hty;simp only[bT,bG]at hty;obtain⟨hs,h0⟩:=hty;obtain rfl:=AA hs;have:i=.nil:=Fs.jr h0;subst this;rw[aA (by simp)]at hR;rw[show fM .nil 0 (deep+1)=0 from rfl]at lu;have hdi:deep+1≤8∨deep+1=9∧Fs.nil=Fs.nil:=by
          rcases Nat.lt_or_ge deep 8 with h|h
          ·exact .inl h
          exact .inr ⟨by omega,rfl⟩
         have vg:=ah hdi;clear hs h0 hdi;have HR2:=ah hR;clear hR;go_wp2_with fail;go_quiet(fail);go_wp2_with(go_at_call 112;refine(lu.out vg.out _ (by first|exact bn (ba b0 _) _|exact bd (bn (ba b0 _) _))).mono ?_;rintro e' W1 ⟨rfl,hb1⟩);go_roundw
         case rel=>exact⟨(j+1)+1,t,by omega,by go_num,.inr ⟨(j+1),_,_,_,_,_,rfl,zD.out⟩,HR2,eX.out.trans ((bb (bn (ba b0 _) _) hb1).mono eX.out.size)⟩
         case measure=>simp[intOf];omega
        rw[ay y0]at hty;by_cases y1:y=1
        ·subst y1
         rw[aA rfl]at hty;simp only[bT,bG]at hty;obtain⟨hs,h0⟩:=hty;subst hs;have:i=.nil:=Fs.jr h0;subst this;rw[aA (by simp)]at hR;rw[show fM .nil 0 (deep+1)=0 from rfl]at lu;have hdi:deep+1≤8∨deep+1=9∧Fs.nil=Fs.nil:=by
          rcases Nat.lt_or_ge deep 8 with h|h
          ·exact .inl h
          exact .inr ⟨by omega,rfl⟩
         have vg:=ah hdi;clear y0 h0 hdi;have HR2:=ah hR;clear hR;go_wp2_with fail;go_quiet(fail);go_wp2_with(go_at_call 112;refine(lu.out vg.out _ (by first|exact bn (ba b0 _) _|exact bd (bn (ba b0 _) _))).mono ?_;rintro e' W1 ⟨rfl,hb1⟩);go_roundw
         case rel=>exact⟨(j+1)+1,t,by omega,by go_num,.inr ⟨(j+1),_,_,_,_,_,rfl,zD.out⟩,HR2,eX.out.trans ((bb (bn (ba b0 _) _) hb1).mono eX.out.size)⟩
         case measure=>simp[intOf];omega
        rw[ay y1]at hty;by_cases y2:y=2
        ·subst y2
         rw[aA rfl]at hty;simp only[bT,bG]at hty;obtain⟨hn,hs⟩:=hty;subst hn;obtain rfl:=AA hs;rw[ay (by simp)]at hR;clear y0 y1 hs;by_cases hde:8≤deep
         ·rw[aA hde]at hR
          obtain rfl:deep=8:=(by omega);clear lu;subst hR;go_wp2_with fail;go_quiet(fail);go_wp2_with fail;go_ret;exact⟨rfl,eX.out.trans ((bn (ba b0 _) _:Below wr.heap.size wr _).mono eX.out.size)⟩
         rw[ay hde]at hR;have hdd:((deep:Int)==8)=false:=(by rw[aB];omega);have vg:Hid (deep+1≤8∨deep+1=9∧i=.nil):=.inl (by omega);generalize hE:fM i 0 (deep+1)=E at hR lu;clear hE;by_cases he:E=0
         ·subst he
          rw[ay (by simp)]at hR;have HR2:=ah hR;clear hR;go_wp2_with fail;go_quiet(fail);go_wp2_with(go_at_call 112;refine(lu.out vg.out _ (by first|exact bn (ba b0 _) _|exact bd (bn (ba b0 _) _))).mono ?_;rintro e' W1 ⟨rfl,hb1⟩);go_roundw
          case rel=>exact⟨(j+1)+1,t,by omega,by go_num,.inr ⟨(j+1),_,_,_,_,_,rfl,zD.out⟩,HR2,eX.out.trans ((bb (bn (ba b0 _) _) hb1).mono eX.out.size)⟩
          case measure=>simp[intOf];omega
         rw[aA he]at hR;have Uf:((E:Int) != 0)=true:=(by rw[aZ];omega);subst hR;go_wp2_with fail;go_quiet(fail);go_wp2_with(go_at_call 112;refine(lu.out vg.out _ (by first|exact bn (ba b0 _) _|exact bd (bn (ba b0 _) _))).mono ?_;rintro e' W1 ⟨rfl,hb1⟩);go_ret;exact⟨rfl,eX.out.trans ((bb (bn (ba b0 _) _) hb1).mono eX.out.size)⟩
        rw[ay y2]at hty;cases hty
    ·obtain rfl:k=f.len:=by omega
     have hn:f.drop f.len=.nil:=Fs.jr (by rw[Fs.uJ];omega);rw[hn,fM]at hR;subst hR;clear hR' hbel H0 hah;go_wp2_with fail;go_ret;exact⟨rfl,eX.out⟩
