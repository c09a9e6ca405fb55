/-
  Parts of the proof. Conditions: as each names.
-/
import Derived.Test.YtgidfnhfgiehjaaGreatDoorYak
import Derived.Lib.Bytealg
section
namespace Go.PM
def W2(w:World)(I:Nat→Prop)(xs:List Value)(L:List (Fs×Fs)):Prop :=
 xs.length=2*L.length∧∀(j:Nat) (p:Fs×Fs),L[j]?=some p→∃x y,xs[2*j]?=some x∧xs[2*j+1]?=some y∧eF w I x p.1∧eF w I y p.2
theorem W2.nil{w:World}{I:Nat→Prop}:W2 w I [] []:=⟨rfl,fun j p h=>by simp at h⟩
theorem W2.push{w:World}{I:Nat→Prop}{xs:List Value}{L:List (Fs×Fs)}{x y:Value}{p:Fs×Fs}(h:W2 w I xs L)(hx:eF w I x p.1)(hy:eF w I y p.2):W2 w I (xs++[x,y]) (L++[p]):=by
 refine⟨by simp[h.1];omega,fun j q hq=>?_⟩;by_cases hj:j<L.length
 ·rw[List.getElem?_append_left hj]at hq
  obtain⟨a,b,h1,h2,h3⟩:=h.2 j q hq;exact⟨a,b,by rw[List.getElem?_append_left (by rw[h.1];omega)];exact h1,by rw[List.getElem?_append_left (by rw[h.1];omega)];exact h2,h3⟩
 have hj2:j=L.length:=by
  have:=(List.getElem?_eq_some_iff.1 hq).1;simp at this;omega
 subst hj2;rw[List.getElem?_append_right (au _),Nat.sub_self]at hq;injection hq with hq;subst hq;refine⟨x,y,?_,?_,hx,hy⟩
 ·rw[List.getElem?_append_right (by rw[h.1];omega),h.1,Nat.sub_self];rfl
 rw[List.getElem?_append_right (by rw[h.1];omega),h.1,show 2*L.length+1 - 2*L.length=1 by omega];rfl
theorem W2.pop{w:World}{I:Nat→Prop}{xs:List Value}{L:List (Fs×Fs)}{n:Nat}(h:W2 w I xs L)(hn:L.length=n+1) :
 ∃L' p x y,L=L'++[p]∧L'.length=n∧xs[2*n]?=some x∧xs[2*n+1]?=some y∧eF w I x p.1∧eF w I y p.2∧W2 w I (xs.take (n*2)) L':=by
 have hL:n<L.length:=by omega
 obtain⟨x,y,h1,h2,h3,h4⟩:=h.2 n _ (aP hL)
 refine⟨L.take n,L[n],x,y,?_,by rw[bD];omega,h1,h2,h3,h4,by rw[bD,bD,h.1];omega,fun j q hq=>?_⟩
 ·have h1:=aT hL
  rw[h1,aU (by omega)]
 ·rw[List.getElem?_take]at hq
  by_cases hj:j<n
  ·rw[aA hj]at hq
   obtain⟨a,b,h1,h2,h3⟩:=h.2 j q hq;exact⟨a,b,by rw[List.getElem?_take,aA (by omega)];exact h1,by rw[List.getElem?_take,aA (by omega)];exact h2,h3⟩
  rw[ay hj]at hq;cases hq
def qL:List (Fs×Fs)→Nat
 |[]=>0
 |p::L=>p.1.count+p.2.count+qL L
theorem Pj:∀(L M:List (Fs×Fs)),qL (L++M)=qL L+qL M
 |[],M=>by simp[qL]
 |f::L,M=>by simp only[dI,qL,Pj L M];omega
theorem U8(L M:List (Fs×Fs)):uS (L++M)=(uS L&&uS M):=by simp[uS]
theorem OV(p:Fs×Fs):uS [p]=p.1.same p.2:=by simp[uS]
theorem adi{a b:ByteArray}(h:a≠b):(a.toList==b.toList)=false:=by
 rw[aB,ByteArray.toList_eq,ByteArray.toList_eq];intro e;exact h (ByteArray.ext (Array.toList_inj.1 e))
def EL(t t':Nat)(y y':Int)(n n':Nat)(s s':ByteArray):Bool:=decide (t=t'∧y=y'∧n=n'∧s=s')
end Go.PM
namespace Go.Proofs.YtgidfnhfgiehjaaGreatDoor
open Go.RowKit Go.PM
set_option maxRecDepth 100000
set_option maxHeartbeats 4000000
theorem alike_any(b o b' o' t t':Nat)(y y':Int)(n n':Nat)(s s':ByteArray)(w:World)
 (h0:w.cell? ⟨b,o,none⟩=some (.int .u64 (t:Int))) (h1:w.cell? ⟨b,o+1,none⟩=some (.int .i64 y)) (h2:w.cell? ⟨b,o+2,none⟩=some (.int .u64 (n:Int))) (h3:w.cell? ⟨b,o+3,none⟩=some (.string s))
 (k0:w.cell? ⟨b',o',none⟩=some (.int .u64 (t':Int))) (k1:w.cell? ⟨b',o'+1,none⟩=some (.int .i64 y')) (k2:w.cell? ⟨b',o'+2,none⟩=some (.int .u64 (n':Int))) (k3:w.cell? ⟨b',o'+3,none⟩=some (.string s')) :
 Calls Tryz.prog 104 #[.pointer (some ⟨b,o,none⟩),.pointer (some ⟨b',o',none⟩)] w (aj w (.bool (EL t t' y y' n n' s s'))):=by
 generalize hB:EL t t' y y' n n' s s'=B
 unfold EL at hB
 by_cases e0:t=t'
 ·subst e0
  by_cases e1:y=y'
  ·subst e1
   by_cases e2:n=n'
   ·subst e2
    by_cases e3:s=s'
    ·subst e3
     obtain rfl:true=B:=(by rw[← hB];simp);clear hB;go_enter Tryz.func104,Tryz.ntmps104;go_wp2_with fail;go_quiet(fail);go_wp2_with fail;go_ret;exact⟨rfl,bn b0 _⟩
    obtain rfl:false=B:=(by rw[← hB];simp[e3]);have e4:=adi e3;clear hB e3;go_enter Tryz.func104,Tryz.ntmps104;go_wp2_with fail;go_quiet(fail);go_wp2_with fail;go_ret;exact⟨rfl,bn b0 _⟩
   obtain rfl:false=B:=(by rw[← hB];simp[e2]);have e4:((n:Int)==(n':Int))=false:=(by rw[aB];omega);clear hB e2;go_enter Tryz.func104,Tryz.ntmps104;go_wp2_with fail;go_quiet(fail);go_wp2_with fail;go_ret;exact⟨rfl,bn b0 _⟩
  obtain rfl:false=B:=by rw[← hB];simp[e1]
  have e4:(y==y')=false:=by rw[aB];exact e1
  clear hB e1;go_enter Tryz.func104,Tryz.ntmps104;go_wp2_with fail;go_quiet(fail);go_wp2_with fail;go_ret;exact⟨rfl,bn b0 _⟩
 ·obtain rfl:false=B:=by rw[← hB];simp[e0]
  have e4:((t:Int)==(t':Int))=false:=by rw[aB];omega
  clear hB e0;go_enter Tryz.func104,Tryz.ntmps104;go_wp2_with fail;go_quiet(fail);go_wp2_with fail;go_ret;exact⟨rfl,bn b0 _⟩
end Go.Proofs.YtgidfnhfgiehjaaGreatDoor
end
namespace Go.Proofs.YtgidfnhfgiehjaaGreatDoor
open Go.PM Go.RowKit Go.Proofs.Tryz
set_option maxRecDepth 100000
set_option maxHeartbeats 4000000
attribute [local go_sem ↓] Go.wp_at_zero Go.wp_at_succ
theorem aiF:(prog.info? 193).map (fun i=>(i.zero,i.size,i.bytes))=some (some (.agg #[.slice none 0 0,.slice none 0 0]),2,48):=by kernel_rfl
def IZ(w:World)(I:Nat→Prop)(v:Value)(L:List (Fs×Fs))(wr:World):Prop :=
 ∃(g cap:Nat) (xs:List Value),v=.slice (some ⟨g,0,none⟩) L.length cap∧wr.ownsRow w.heap.size 193 2 v L.length xs∧W2 w I xs L∧Below w.heap.size w wr
def YM(w:World)(I:Nat→Prop)(gb:Nat)(va vb v:Value)(L:List (Fs×Fs))(wr:World):Prop :=
 ∃(g cap:Nat) (xs:List Value),v=.slice (some ⟨g,0,none⟩) L.length cap∧wr.ownsRow w.heap.size 193 2 v L.length xs∧W2 w I xs L∧Below w.heap.size w wr∧g≠gb∧w.heap.size≤gb∧dU wr gb 193 #[va,vb]
theorem IZ.step{w wr w3:World}{I:Nat→Prop}{gb g2 g3 cap3 cap2 M2:Nat}{va vb x y:Value}{L2:List (Fs×Fs)}{p:Fs×Fs}{xs2:List Value}(hM:L2.length=M2)(hB2:Below w.heap.size w wr)(hgb:w.heap.size≤gb)(hblk:dU wr gb 193 #[va,vb])(hne:g2≠gb)
 (hW2:W2 w I xs2 L2) (hx:eF w I x p.1) (hy:eF w I y p.2) (hg2:w.heap.size≤g2)
 (hown3:w3.ownsRow w.heap.size 193 2 (.slice (some ⟨g3,0,none⟩) (M2+1) cap3) (M2+1) (xs2++[x,y])) (hg3:wr.grownBy w3 (Value.slice (some ⟨g2,0,none⟩) M2 cap2).ownBlock) (hat:(Value.slice (some ⟨g2,0,none⟩) M2 cap2).ownBlock=some g3∨wr.heap.size≤g3) :
 YM w I gb va vb (.slice (some ⟨g3,0,none⟩) (M2+1) cap3) (L2++[p]) w3:=by
 refine⟨g3,cap3,_,by simp[hM],by simp only[aC,bK,cO,hM];exact hown3,hW2.push hx hy,?_,?_,hgb,?_⟩
 ·exact hB2.trans (dX.grown (S:=fun k=>some g2=some k) hg3 (fun k hk _=>hk) |>.iI hB2.size fun k hk e=>by injection e with e;omega)
 ·rcases hat with h|h
  ·simp only[Value.ownBlock,bJ]at h;omega
  have:=hblk.lt;omega
 ·exact hblk.step hg3 (by intro e;simp only[Value.ownBlock,bJ]at e;exact hne e.symm)
theorem amy(va vb:Value)(f g:Fs)(I:Nat→Prop)(w:World)(ha:eF w I va f)(hb:eF w I vb g)(h60:f.count≤1000000)(NM:g.count≤1000000) :
 Calls prog 60 #[va,vb] w (aj w (.bool (f.same g))):=by
 have HA:=ah ha
 have HB:=ah hb
 obtain⟨A,c,rfl,ha'⟩:=ha
 obtain⟨A',c',rfl,hb'⟩:=hb
 clear ha' hb'
 generalize hT:f.same g=T
 have HT:=ah hT
 have H6:Hid (f.count≤1000000∧g.count≤1000000):=⟨h60,NM⟩
 obtain⟨i0,hi0,hz0,hz1,hz2⟩:=info_parts aiF
 clear hT h60 NM
 go_enter func60,ntmps60
 go_wp2_with fail
 go_loopg [5] 4000001 (fun gk vv wr=>∃(L:List (Fs×Fs)),Hid (uS L=T∧2*qL L+L.length≤gk∧gk≤4000001)∧IZ w I vv L wr)
 case atStart=>
  refine⟨[(f,g)],⟨by rw[OV];exact HT.out,by have:=H6.out;simp[qL];omega,au _⟩,w.heap.size,1,[.slice A f.len c,.slice A' g.len c'],rfl,World.ownsRow_lit w #[.slice A f.len c,.slice A' g.len c'] 1 (au _) (by decide) rfl,?_,ba b0 _⟩;exact W2.push (p:=(f,g)) W2.nil HA.out HB.out
 case round=>
  obtain⟨L,hn,g0,cap,xs,rfl,hown,hwl,hbel⟩:=hrel;cases hL:L.length with
  |zero=>
    obtain rfl:L=[]:=aV hL;obtain rfl:true=T:=hn.out.1;have jd:=ah hbel;clear hown hwl hbel hL hn;go_wp2_with fail;go_ret;exact⟨rfl,jd.out⟩
  |succ m=>
    obtain⟨L',⟨f1,g1⟩,x,y,rfl,hL',hx,hy,hsx,hsy,abI⟩:=hwl.pop hL;simp only at hsx hsy;have zL:=ah hsx;have zM:=ah hsy;obtain⟨A1,c1,rfl,hc1,ais⟩:=hsx;obtain⟨A2,c2,rfl,hc2,hor2⟩:=hsy;have hcell0:=hown.cellAt (m*2) (by rw[hL];omega);have hcell1:=hown.cellAt (m*2+1) (by rw[hL];omega);rw[Nat.mul_comm m 2,hx,Nat.mul_comm 2 m]at hcell0;rw[Nat.mul_comm m 2,hy,Nat.mul_comm 2 m]at hcell1;rw[hL]at hown;have hg0:=hown.lt g0 rfl;have HO:=ah (acB hown);obtain⟨hmc,hcap⟩:=acA hown;have GX:(m:Int)≤(cap:Int):=(by omega);have HWL:=ah abI;have eX:=ah hbel;obtain⟨hn0,hn2,Eo⟩:=hn.out;rw[U8,OV]at hn0;rw[Pj]at hn2;simp only[qL,aC,bK,cO]at hn2 hn0;have hfc:=f1.DY;have hgc:=g1.DY;have hm4:m≤4000001:=(by omega);have ah3:f1.len≤4000001∧g1.len≤4000001:=(by omega)
    obtain⟨hf4,hg4⟩:=ah3;have hblk:=dU.made wr 193 #[.slice A1 f1.len c1,.slice A2 g1.len c2];have eU:=ba (a:=wr) b0 (.cells #[.slice A1 f1.len c1,.slice A2 g1.len c2] 193);have H0:Hid ((uS L'&&f1.same g1)=T∧(f1.len=g1.len→2*qL L'+L'.length+2*(f1.pR+g1.pR)+f1.len+1≤gk)∧gk≤4000001):=⟨hn0,fun _=>by omega,Eo⟩;have HM:=ah hL';have WJ:=ah hblk;have lq:=ah eU;obtain⟨G,hG⟩:∃G,G=gk:=⟨gk,rfl⟩;rw[← hG]at H0;have HG:=ah hG;clear hG;clear hn hn0 hn2 Eo hfc hgc hown abI hbel ais hor2 hL hL' hx hy hblk eU hwl;by_cases hlen:f1.len=g1.len
    ·have HLEN:=ah hlen
     have uM:((f1.len:Int) != (g1.len:Int))=false:=(by simp;omega);clear hlen;go_wp2_with fail;generalize Uj:wr.heap.size=gb;rw[Uj]at WJ;have Xm:=ah Uj;clear Uj;go_loopg [5,38] f1.len (fun gj vv kk w2=>∃(k:Nat) (L2:List (Fs×Fs)),k+gj=f1.len∧kk=.int .i64 (k:Int)∧Hid ((uS L2&&(f1.drop k).same (g1.drop k))=T∧2*qL L2+L2.length+2*((f1.drop k).pR+(g1.drop k).pR)+(f1.drop k).len+1≤G)∧YM w I gb (.slice A1 f1.len c1) (.slice A2 g1.len c2) vv L2 w2)
     case atStart=>
      have hd0:∀h:Fs,h.drop 0=h:=fun h=>(by cases h<;>rfl);refine⟨0,L',by omega,rfl,?_,g0,cap,_,by rw[HM.out],by rw[HM.out];exact own_below HO.out lq.out,HWL.out,eX.out.trans (lq.out.mono eX.out.size),by have:=Xm.out;omega,by have:=Xm.out;have:=eX.out.size;omega,WJ.out⟩;rw[hd0,hd0];exact⟨H0.out.1,H0.out.2.1 HLEN.out⟩
     case round=>
      obtain⟨k,L2,hkj,rfl,hn3,g2,cap2,xs2,rfl,hown2,JX,vK,hne2,ah8,hblk2⟩:=hrel;by_cases hlt:k<f1.len
      ·have hle:f1.len=g1.len:=HLEN.out
       obtain⟨t,y,n,s,i,hdc,_⟩:=f1.drop_cons k hlt;obtain⟨t',y',n',s',i',Ae,_⟩:=g1.drop_cons k (by omega);have hsx:=zL.out;have hsy:=zM.out;obtain⟨A0,c0,hv,hc0,hor⟩:=hsx;injection hv with hv1 hv2 hv3;subst hv1 hv3;obtain⟨A0,c0,hv',hc0',Uy⟩:=hsy;injection hv' with hv1 UE hv3;subst hv1 hv3;rcases hor with h0|⟨b,o,rfl,yX,hbl,hat⟩
       ·omega
       rcases Uy with h0|⟨b',o',rfl,ahN,sZ,hat'⟩
       ·omega
       have hak:=hat.drop k;have Jz:=hat'.drop k;rw[hdc]at hak;rw[Ae]at Jz;obtain⟨a0,a1,a2,a3,⟨Ai,ci,a4,hci,hin⟩,_⟩:=hak;obtain⟨a0',a1',a2',a3',⟨o9,ci',a4',Uc,hin'⟩,_⟩:=Jz;have hbk:=vK.block b hbl;have hbk':=vK.block b' sZ;have Fj:Hid (∀x:World,Below wr.heap.size wr x→Calls prog 104 #[.pointer (some ⟨b,o+k*5,none⟩),.pointer (some ⟨b',o'+k*5,none⟩)] x (aj x (.bool (EL t t' y y' n n' s s')))):=fun x hx=>by
        have hz:=vK.size;have e:=fun j=>World.cell?_of_block (a:=⟨b,j,none⟩) ((hx.block b (by omega)).trans hbk);have e':=fun j=>World.cell?_of_block (a:=⟨b',j,none⟩) ((hx.block b' (by omega)).trans hbk');exact alike_any b (o+k*5) b' (o'+k*5) t t' y y' n n' s s' x ((e _).trans a0) ((e _).trans a1) ((e _).trans a2) ((e _).trans a3) ((e' _).trans a0') ((e' _).trans a1') ((e' _).trans a2') ((e' _).trans a3')
       have c4:=(World.cell?_of_block (a:=⟨b,o+k*5+4,none⟩) hbk).trans a4;have MW:=(World.cell?_of_block (a:=⟨b',o'+k*5+4,none⟩) hbk').trans a4';have wH:Hid (b<wr.heap.size∧b'<wr.heap.size∧b<w.heap.size∧b'<w.heap.size):=⟨aQ hbl vK.size,aQ sZ vK.size,hbl,sZ⟩;have pY:Hid (eF w I (.slice Ai i.len ci) i∧eF w I (.slice o9 i'.len ci') i'):=⟨⟨Ai,ci,rfl,hci,hin⟩,⟨o9,ci',rfl,Uc,hin'⟩⟩;have bx0:=hblk2.cell 0;have bx1:=hblk2.cell 1;simp at bx0 bx1;have pK:(k:Int)<(f1.len:Int):=(by omega);have hkg:(k:Int)<(g1.len:Int):=(by omega);clear hle;have Eu:=hn3.out;rw[hdc,Ae]at Eu;simp only[Fs.pR,Fs.len,Fs.same]at Eu;have hif:=f1.yP k;have hig:=g1.yP k;rw[hdc]at hif;rw[Ae]at hig;simp only[Fs.count]at hif hig;have hil:=i.kH;have aic:=i'.kH;have HB2:=ah vK
       clear hdc Ae hat hat' hv2 UE a0 a1 a2 a3 a4 a0' a1' a2' a3' a4' hin hin' hbk hbk' hn3;cases hlk:EL t t' y y' n n' s s' with
       |false=>
         rw[hlk]at Fj;have sJ:=Fj;have HF:Hid (false=T):=by
          have h1:=Eu.1;unfold EL at hlk;rw[hlk]at h1;simp at h1;exact h1.symm
         clear hlk Eu hown2 JX hblk2 vK Fj;obtain rfl:false=T:=HF.out;clear HF;go_wp2_with fail;go_quiet(fail);go_wp2_with(go_at_call 104;refine(sJ.out _ (bn b0 _)).mono ?_;rintro e' W1 ⟨rfl,hb1⟩;have hbW1:Below wr.heap.size wr W1:=bb (bn b0 _) hb1;have e4:=(World.cell?_of_block (hbW1.block b wH.out.1)).trans c4;have e4':=(World.cell?_of_block (hbW1.block b' wH.out.2.1)).trans MW);go_ret;exact⟨rfl,HB2.out.trans (hbW1.mono HB2.out.size)⟩
       |true=>
         rw[hlk]at Fj;have sJ:=Fj;have hsame:(uS L2&&(i.same i'&&(f1.drop (k+1)).same (g1.drop (k+1))))=T:=by
          have h1:=Eu.1;unfold EL at hlk;rw[hlk,Bool.true_and]at h1;exact h1
         have FQ:=ah hsame;have ahV:=i.DY;have ahW:=i'.DY;have hn3:=ah (And.intro hsame Eu.2);have HW2:=ah JX;have vk:=ah hown2;have wG:Hid (g2≠gb∧w.heap.size≤gb∧dU wr gb 193 #[.slice (some ⟨_,_,none⟩) f1.len _,.slice (some ⟨_,_,none⟩) g1.len _]):=⟨hne2,ah8,hblk2⟩;have hiL:i.len≤4000001∧i'.len≤4000001:=(by have:=hn3.out.2;have:=H0.out.2.2;omega);obtain⟨aoz,aoA⟩:=hiL;clear hlk Eu hsame hown2 JX hblk2 vK Fj hif hig hil aic ahV ahW;by_cases hi1:0<i.len
         ·have hip:(0:Int)<(i.len:Int):=by omega
          have jh:Hid ((uS (L2++[(i,i')])&&(f1.drop (k+1)).same (g1.drop (k+1)))=T∧2*qL (L2++[(i,i')])+(L2++[(i,i')]).length+2*((f1.drop (k+1)).pR+(g1.drop (k+1)).pR)+(f1.drop (k+1)).len+1≤G):=by
           rw[U8,OV,Bool.and_assoc,Pj];simp only[qL,aC,bK,cO];exact⟨FQ.out,by have:=hn3.out.2;omega⟩
          have Lp:Hid (L2.length≤4000001):=(by have:=hn3.out.2;have:=H0.out.2.2;show _≤_;omega);have hL4:=Lp.out;generalize hM2:L2.length=M2 at *;have jK:=ah hM2;clear hM2 hn3 FQ;go_wp2_with fail;go_quiet(fail);go_wp2_with(go_at_call 104;refine(sJ.out _ (bn b0 _)).mono ?_;rintro e' W1 ⟨rfl,hb1⟩;have hbW1:Below wr.heap.size wr W1:=bb (bn b0 _) hb1;have e4:=(World.cell?_of_block (hbW1.block b wH.out.1)).trans c4;have e4':=(World.cell?_of_block (hbW1.block b' wH.out.2.1)).trans MW);have hown1:=own_below vk.out hbW1;have HOW:=ah hown1;have hwz:=hbW1.size;have Ui:=vk.out.lt g2 rfl;have CS:=ah hbW1;clear hown1
          go_region_held3 (fun w'=>w'.cell? ⟨b,o+k*5+4,none⟩=some (.slice Ai i.len ci)∧w'.cell? ⟨b',o'+k*5+4,none⟩=some (.slice o9 i'.len ci')) (go_keep)
           ((refine step_append_lies _ (by rfl) _ _ _ (by rfl) w.heap.size 193 i0 _ 2 48 underlying194 hi0 hz0 hz1 hz2 rfl (by omega) (.slice (some ⟨g2,0,none⟩) M2 cap2) M2 xs2 (by rfl) ((HOW.out.drew).alloc _) ⟨W1.heap.size,0,none⟩ 1 1 [.slice Ai i.len ci,.slice o9 i'.len ci'] (by rfl) (by rfl) (World.news_of_block (cs:=#[.slice Ai i.len ci,.slice o9 i'.len ci']) (t:=193) (fr:=(0,0)) (heap_alloc_new W1.drew _)) (by simp[Value.oneCell']) (by omega) (by unfold maxLen;omega) (by omega) (by simp;omega) (W1.heap.size+1) (by simp) ?_;intro g3 cap3 w3 hown3 hg3 iF hlt3;have rP:=ah hown3;have jo:=ah hg3;have Qd:=ah iF;have e5:=(World.cell?_of_block (a:=⟨b,o+k*5+4,none⟩) ((jo.out.block b (by simp;omega) (by simp[Value.ownBlock];omega)).trans ((ba (a:=W1) b0 (.cells #[.slice Ai i.len ci,.slice o9 i'.len ci'] 193)).block b (by omega)))).trans e4;have e5':=(World.cell?_of_block (a:=⟨b',o'+k*5+4,none⟩) ((jo.out.block b' (by simp;omega) (by simp[Value.ownBlock];omega)).trans ((ba (a:=W1) b0 (.cells #[.slice Ai i.len ci,.slice o9 i'.len ci'] 193)).block b' (by omega)))).trans e4';clear hown3 hg3 iF hlt3))
          go_wp2_with fail;go_roundg (f1.len - (k+1))
          case measure=>omega
          case rel=>
           have hbq:Below wr.heap.size wr (W1.drew.alloc (.cells #[.slice Ai i.len ci,.slice o9 i'.len ci'] 193)):=ba (bd CS.out) _;refine⟨k+1,L2++[(i,i')],by omega,by go_num,jh.out,?_⟩;exact IZ.step jK.out (HB2.out.trans (hbq.mono HB2.out.size)) wG.out.2.1 (wG.out.2.2.below hbq wG.out.2.2.lt) wG.out.1 HW2.out pY.out.1 pY.out.2 Ui.1 rP.out jo.out (Qd.out.imp id fun h=>by rw[h];simp)
         have hip:decide ((0:Int)<(i.len:Int))=false:=(by simp;omega);by_cases hi2:0<i'.len
         ·have aif:(0:Int)<(i'.len:Int):=by omega
          have jh:Hid ((uS (L2++[(i,i')])&&(f1.drop (k+1)).same (g1.drop (k+1)))=T∧2*qL (L2++[(i,i')])+(L2++[(i,i')]).length+2*((f1.drop (k+1)).pR+(g1.drop (k+1)).pR)+(f1.drop (k+1)).len+1≤G):=by
           rw[U8,OV,Bool.and_assoc,Pj];simp only[qL,aC,bK,cO];exact⟨FQ.out,by have:=hn3.out.2;omega⟩
          have Lp:Hid (L2.length≤4000001):=(by have:=hn3.out.2;have:=H0.out.2.2;show _≤_;omega);have hL4:=Lp.out;generalize hM2:L2.length=M2 at *;have jK:=ah hM2;clear hM2 hn3 FQ;go_wp2_with fail;go_quiet(fail);go_wp2_with(go_at_call 104;refine(sJ.out _ (bn b0 _)).mono ?_;rintro e' W1 ⟨rfl,hb1⟩;have hbW1:Below wr.heap.size wr W1:=bb (bn b0 _) hb1;have e4:=(World.cell?_of_block (hbW1.block b wH.out.1)).trans c4;have e4':=(World.cell?_of_block (hbW1.block b' wH.out.2.1)).trans MW);have hown1:=own_below vk.out hbW1;have HOW:=ah hown1;have hwz:=hbW1.size;have Ui:=vk.out.lt g2 rfl;have CS:=ah hbW1;clear hown1
          go_region_held3 (fun w'=>w'.cell? ⟨b,o+k*5+4,none⟩=some (.slice Ai i.len ci)∧w'.cell? ⟨b',o'+k*5+4,none⟩=some (.slice o9 i'.len ci')) (go_keep)
           ((refine step_append_lies _ (by rfl) _ _ _ (by rfl) w.heap.size 193 i0 _ 2 48 underlying194 hi0 hz0 hz1 hz2 rfl (by omega) (.slice (some ⟨g2,0,none⟩) M2 cap2) M2 xs2 (by rfl) ((HOW.out.drew).alloc _) ⟨W1.heap.size,0,none⟩ 1 1 [.slice Ai i.len ci,.slice o9 i'.len ci'] (by rfl) (by rfl) (World.news_of_block (cs:=#[.slice Ai i.len ci,.slice o9 i'.len ci']) (t:=193) (fr:=(0,0)) (heap_alloc_new W1.drew _)) (by simp[Value.oneCell']) (by omega) (by unfold maxLen;omega) (by omega) (by simp;omega) (W1.heap.size+1) (by simp) ?_;intro g3 cap3 w3 hown3 hg3 iF hlt3;have rP:=ah hown3;have jo:=ah hg3;have Qd:=ah iF;have e5:=(World.cell?_of_block (a:=⟨b,o+k*5+4,none⟩) ((jo.out.block b (by simp;omega) (by simp[Value.ownBlock];omega)).trans ((ba (a:=W1) b0 (.cells #[.slice Ai i.len ci,.slice o9 i'.len ci'] 193)).block b (by omega)))).trans e4;have e5':=(World.cell?_of_block (a:=⟨b',o'+k*5+4,none⟩) ((jo.out.block b' (by simp;omega) (by simp[Value.ownBlock];omega)).trans ((ba (a:=W1) b0 (.cells #[.slice Ai i.len ci,.slice o9 i'.len ci'] 193)).block b' (by omega)))).trans e4';clear hown3 hg3 iF hlt3))
          go_wp2_with fail;go_roundg (f1.len - (k+1))
          case measure=>omega
          case rel=>
           have hbq:Below wr.heap.size wr (W1.drew.alloc (.cells #[.slice Ai i.len ci,.slice o9 i'.len ci'] 193)):=ba (bd CS.out) _;refine⟨k+1,L2++[(i,i')],by omega,by go_num,jh.out,?_⟩;exact IZ.step jK.out (HB2.out.trans (hbq.mono HB2.out.size)) wG.out.2.1 (wG.out.2.2.below hbq wG.out.2.2.lt) wG.out.1 HW2.out pY.out.1 pY.out.2 Ui.1 rP.out jo.out (Qd.out.imp id fun h=>by rw[h];simp)
         have aif:decide ((0:Int)<(i'.len:Int))=false:=(by simp;omega);have hni:i=.nil:=Fs.jr (by omega);have hni':i'=.nil:=Fs.jr (by omega);have jh:Hid ((uS L2&&(f1.drop (k+1)).same (g1.drop (k+1)))=T∧2*qL L2+L2.length+2*((f1.drop (k+1)).pR+(g1.drop (k+1)).pR)+(f1.drop (k+1)).len+1≤G):=by
          refine⟨?_,by have:=hn3.out.2;omega⟩;have h1:=FQ.out;rw[hni,hni']at h1;exact h1
         have Lp:Hid (L2.length≤4000001):=(by have:=hn3.out.2;have:=H0.out.2.2;show _≤_;omega);clear hn3 FQ hni hni';go_wp2_with fail;go_quiet(fail);go_wp2_with(go_at_call 104;refine(sJ.out _ (bn b0 _)).mono ?_;rintro e' W1 ⟨rfl,hb1⟩;have hbW1:Below wr.heap.size wr W1:=bb (bn b0 _) hb1;have e4:=(World.cell?_of_block (hbW1.block b wH.out.1)).trans c4;have e4':=(World.cell?_of_block (hbW1.block b' wH.out.2.1)).trans MW);have CS:=ah hbW1;go_wp2_with fail;go_roundg (f1.len - (k+1))
         case measure=>omega
         case rel=>exact⟨k+1,L2,by omega,by go_num,jh.out,g2,cap2,xs2,rfl,own_below vk.out CS.out,HW2.out,HB2.out.trans (CS.out.mono HB2.out.size),wG.out.1,wG.out.2.1,wG.out.2.2.below CS.out wG.out.2.2.lt⟩
      ·obtain rfl:k=f1.len:=by omega
       have h1:f1.drop f1.len=.nil:=Fs.jr (by rw[Fs.uJ];omega);have h2:g1.drop f1.len=.nil:=Fs.jr (by rw[Fs.uJ];have:=HLEN.out;omega);rw[h1,h2]at hn3;have HE:Hid (uS L2=T∧2*qL L2+L2.length<G):=by
        have:=hn3.out;simp only[Fs.pR,Fs.len,Fs.same,Bool.and_true]at this;exact⟨this.1,by omega⟩
       have HP:Hid (IZ w I (.slice (some ⟨g2,0,none⟩) L2.length cap2) L2 wr):=⟨g2,cap2,xs2,rfl,hown2,JX,vK⟩;clear hn3 hown2 JX vK h1 h2 hblk2;go_wp2_with fail;go_roundg (2*qL L2+L2.length)
       case measure=>rw[← HG.out];exact HE.out.2
       case rel=>exact⟨L2,⟨HE.out.1,au _,by have:=HE.out.2;have:=H0.out.2.2;omega⟩,HP.out⟩
    ·obtain rfl:false=T:=by rw[← H0.out.1,VN hlen,Bool.and_false]
     have uM:((f1.len:Int) != (g1.len:Int))=true:=(by simp;omega);clear hlen;go_wp2_with fail;go_ret;exact⟨rfl,eX.out.trans (lq.out.mono eX.out.size)⟩
end Go.Proofs.YtgidfnhfgiehjaaGreatDoor
section
namespace Go.PM
section
variable {X:Type} (key:X→Nat)
def wR(x:X):List X→List X
 |[]=>[x]
 |y::r=>if key y<key x then y::wR x r else x::y::r
def x9:List X→List X→List X
 |acc,[]=>acc
 |acc,x::r=>x9 (wR key x acc) r
def jD(l:List X):List X:=x9 key [] l
theorem U1(x:X):∀l:List X,(wR key x l).Perm (x::l)
 |[]=>List.Perm.refl _
 |y::r=>by
   rw[wR];split
   ·exact((U1 x r).cons y).trans (List.Perm.swap x y r)
   exact List.Perm.refl _
theorem abP:∀(l acc:List X),(x9 key acc l).Perm (acc++l)
 |[],acc=>by rw[x9,bQ]
 |x::r,acc=>by
   rw[x9];refine(abP r _).trans (((U1 key x acc).append_right r).trans ?_);exact List.perm_middle.symm
theorem Cb(l:List X):(jD key l).Perm l:=abP key l []
theorem abT(x:X):∀l:List X,l.Pairwise (fun a b=>key a≤key b)→(wR key x l).Pairwise (fun a b=>key a≤key b)
 |[],_=>by simp[wR]
 |y::r,h=>by
   rw[cu]at h;rw[wR];split
   ·rename_i hlt
    rw[cu];refine⟨fun b hb=>?_,abT x r h.2⟩;rcases bC.1 ((U1 key x r).mem_iff.1 hb)with rfl|hb
    ·omega
    exact h.1 b hb
   rename_i hlt;rw[cu];refine⟨fun b hb=>?_,by rw[cu];exact h⟩;rcases bC.1 hb with rfl|hb
   ·omega
   have:=h.1 b hb;omega
theorem abO:∀(l acc:List X),acc.Pairwise (fun a b=>key a≤key b)→(x9 key acc l).Pairwise (fun a b=>key a≤key b)
 |[],_,h=>h
 |x::r,acc,h=>by rw[x9];exact abO r _ (abT key x acc h)
theorem U3(l:List X):(jD key l).Pairwise (fun a b=>key a≤key b):=abO key l [] List.Pairwise.nil
theorem U2:∀l l':List X,l.Perm l'→l.Pairwise (fun a b=>key a<key b)→l'.Pairwise (fun a b=>key a<key b)→l=l'
 |[],l',hp,_,_=>(List.nil_perm.1 hp).symm
 |x::r,[],hp,_,_=>aJ (List.perm_nil.1 hp) (by simp)
 |x::r,y::s,hp,h,h'=>by
   rw[cu]at h h';have hx:x∈y::s:=hp.mem_iff.1 (by simp);have hy:y∈x::r:=hp.mem_iff.2 (by simp);have e:x=y:=by
    rcases bC.1 hx with e|hx
    ·exact e
    rcases bC.1 hy with e|hy
    ·exact e.symm
    have h1:=h'.1 x hx;have h2:=h.1 y hy;omega
   subst e;rw[U2 r s (List.Perm.cons_inv hp) h.2 h'.2]
theorem OQ{l:List X}(h:l.Pairwise (fun a b=>key a≤key b))(hn:(l.map key).Nodup):l.Pairwise (fun a b=>key a<key b):=by
 rw[List.Nodup,List.pairwise_map]at hn;exact(h.and hn).imp fun⟨h1,h2⟩=>by omega
theorem OO{l:List X}(h:l.Pairwise (fun a b=>key a<key b)):(l.map key).Nodup:=by
 rw[List.Nodup,List.pairwise_map];exact h.imp fun h=>by omega
theorem ai1{l l':List X}(hp:l.Perm l')(hs:l'.Pairwise (fun a b=>key a≤key b))(hn:(l.map key).Nodup):l'=jD key l :=
 U2 key l' _ (hp.symm.trans (Cb key l).symm) (OQ key hs ((hp.map key).nodup hn)) (OQ key (U3 key l) (((Cb key l).symm.map key).nodup hn))
theorem abY:∀{l:List X},l.Pairwise (fun a b=>key a≤key b)→(∀i (h:i+1<l.length),key l[i]≠key l[i+1])→l.Pairwise (fun a b=>key a<key b)
 |[],_,_=>List.Pairwise.nil
 |[x],_,_=>by simp
 |x::y::r,h,hn=>by
   have ih:=abY (l:=y::r) (cu.1 h).2 fun i hi=>hn (i+1) (by simp at hi⊢;omega);have h0:key x≠key y:=hn 0 (by simp);have h1:=(cu.1 h).1;rw[cu];refine⟨fun b hb=>?_,ih⟩;have hxy:=h1 y (by simp);rcases bC.1 hb with rfl|hb
   ·omega
   have:=(cu.1 ih).1 b hb;omega
theorem ai3{l l':List X}(hp:l.Perm l'){i:Nat}(h:i+1<l'.length)(he:key l'[i]=key l'[i+1]):¬(l.map key).Nodup:=fun hn=>by
 have hn':(l'.map key).Nodup:=(hp.map key).nodup hn;rw[List.Nodup,List.pairwise_iff_getElem]at hn';exact hn' i (i+1) (by simp;omega) (by simp;omega) (by omega) (by simpa using he)
theorem abS(x:X):∀(l:List X) (k:Nat),k≤l.length→(∀j (h:j<l.length),j<k→key l[j]<key x)→(∀h:k<l.length,¬key l[k]<key x)→wR key x l=l.take k++x::l.drop k
 |[],0,_,_,_=>rfl
 |y::r,0,_,_,h=>by
   have:¬key y<key x:=h (by simp);rw[wR,ay this];rfl
 |y::r,k+1,hk,h1,h2=>by
   have:key y<key x:=h1 0 (by simp) (by omega);rw[wR,aA this,abS x r k (by simpa using hk) (fun j hj hjk=>h1 (j+1) (by simp;omega) (by omega)) fun hk=>h2 (by simp;omega)];rfl
 |[],k+1,hk,_,_=>by simp at hk
end
structure Fl where
 tag:Nat
 ty:Int
 num:Nat
 text:ByteArray
 inner:Fs
def Fs.eP:Fs→List Fl
 |.nil=>[]
 |.cons t y n s i r=>⟨t,y,n,s,i⟩::r.eP
def fB:List Fl→Fs
 |[]=>.nil
 |x::r=>.cons x.tag x.ty x.num x.text x.inner (fB r)
theorem qE:∀f:Fs,fB f.eP=f
 |.nil=>rfl
 |.cons t y n s i r=>by rw[Fs.eP,fB,qE r]
theorem qM:∀l:List Fl,(fB l).eP=l
 |[]=>rfl
 |x::r=>by rw[fB,Fs.eP,qM r]
theorem oK:∀f:Fs,f.eP.length=f.len
 |.nil=>rfl
 |.cons t y n s i r=>by rw[Fs.eP,bK,oK r,Fs.len]
theorem wU(l:List Fl):(fB l).len=l.length:=by rw[← oK,qM]
theorem uX:∀f g:Fs,(f.app g).eP=f.eP++g.eP
 |.nil,g=>rfl
 |.cons t y n s i r,g=>by rw[Fs.app,Fs.eP,uX r g,Fs.eP,dI]
theorem Vl(l m:List Fl):fB (l++m)=(fB l).app (fB m):=by
 rw[← qE ((fB l).app (fB m)),uX,qM,qM]
theorem Vm:∀l:List Fl,(fB l).count=(l.map fun x=>1+x.inner.count).sum
 |[]=>rfl
 |x::r=>by rw[fB,Fs.count,Vm r,dK,List.sum_cons]
theorem akc{l m:List Fl}(h:l.Perm m):(fB l).count=(fB m).count:=by
 rw[Vm,Vm];exact(h.map _).sum_nat
theorem uT{P:Nat→Int→Nat→ByteArray→Prop}:∀l:List Fl,(fB l).All P↔∀x∈l,P x.tag x.ty x.num x.text∧x.inner.All P
 |[]=>by simp[fB,Fs.All]
 |x::r=>by
   rw[fB,Fs.All,uT r];simp[and_assoc]
theorem Vk{P:Nat→Int→Nat→ByteArray→Prop}{l m:List Fl}(h:l.Perm m):(fB l).All P↔(fB m).All P:=by
 rw[uT,uT];exact⟨fun k x hx=>k x (h.mem_iff.2 hx),fun k x hx=>k x (h.mem_iff.1 hx)⟩
def vI(f:Fs):Fs×Nat:=if(f.eP.map Fl.tag).Nodup then(fB (jD Fl.tag f.eP),0)else(.nil,14)
def iT:List Fs→Fs
 |[]=>.nil
 |f::r=>f.app (iT r)
theorem ahf{l l':List Fl}(hp:l.Perm l')(hs:l'.Pairwise (fun a b=>a.tag≤b.tag))(hn:∀i (h:i+1<l'.length),l'[i].tag≠l'[i+1].tag):vI (fB l)=(fB l',0):=by
 have h1:=abY Fl.tag hs hn;have h2:(l.map Fl.tag).Nodup:=(hp.symm.map _).nodup (OO Fl.tag h1);unfold vI;rw[qM,aA h2,← ai1 Fl.tag hp hs h2]
theorem ahe{l l':List Fl}(hp:l.Perm l'){i:Nat}(h:i+1<l'.length)(he:l'[i].tag=l'[i+1].tag):vI (fB l)=(.nil,14):=by
 unfold vI;rw[qM,ay (ai3 Fl.tag hp h he)]
end Go.PM
namespace Go.Proofs.YtgidfnhfgiehjaaGreatDoor
open Go.PM
def mO:List Fs→Nat
 |[]=>0
 |f::r=>if fM f 0 0≠0 then fM f 0 0 else mO r
def jG(l:List Fs):Fs×Nat:=if mO l≠0 then(.nil,mO l)else vI (iT l)
end Go.Proofs.YtgidfnhfgiehjaaGreatDoor
end
namespace Go.PM
open Go.Lib (compareBytes)
theorem EX(a b:UInt8):a<b∨b<a∨a=b:=by
 rw[UInt8.lt_iff_toNat_lt,UInt8.lt_iff_toNat_lt,← UInt8.toNat_inj];omega
theorem Cj{a b:UInt8}(h:a<b):¬b<a:=by
 rw[UInt8.lt_iff_toNat_lt]at *;omega
theorem rF(a:UInt8):¬a<a:=by rw[UInt8.lt_iff_toNat_lt];omega
theorem ank{a b c:UInt8}(h:a<b)(k:b<c):a<c:=by
 rw[UInt8.lt_iff_toNat_lt]at *;omega
theorem Na:∀a:List UInt8,compareBytes a a=0
 |[]=>rfl
 |x::r=>by rw[compareBytes,ay (rF x),ay (rF x),Na r]
theorem Y8:∀a b:List UInt8,compareBytes a b=0→a=b
 |[],[],_=>rfl
 |[],_::_,h=>by simp[compareBytes]at h
 |_::_,[],h=>by simp[compareBytes]at h
 |x::r,y::s,h=>by
   rw[compareBytes]at h;rcases EX x y with k|k|k
   ·rw[aA k]at h;omega
   ·rw[ay (Cj k),aA k]at h;omega
   subst k;rw[ay (rF x),ay (rF x)]at h;rw[Y8 r s h]
theorem wO(a b:List UInt8):compareBytes a b=0↔a=b:=⟨Y8 a b,fun h=>by rw[h,Na]⟩
theorem Bz:∀a b:List UInt8,compareBytes b a = - compareBytes a b
 |[],[]=>rfl
 |[],_::_=>rfl
 |_::_,[]=>rfl
 |x::r,y::s=>by
   rw[compareBytes,compareBytes];rcases EX x y with k|k|k
   ·rw[aA k,ay (Cj k),aA k];rfl
   ·rw[aA k,ay (Cj k),aA k]
   subst k;rw[ay (rF x),ay (rF x),ay (rF x),ay (rF x),Bz r s]
theorem MZ:∀a b:List UInt8,compareBytes a b = -1∨compareBytes a b=0∨compareBytes a b=1
 |[],[]=>by simp[compareBytes]
 |[],_::_=>by simp[compareBytes]
 |_::_,[]=>by simp[compareBytes]
 |x::r,y::s=>by
   rw[compareBytes];have:=MZ r s;split
   ·simp
   split
   ·simp
   exact this
theorem RS:∀a b c:List UInt8,compareBytes a b<0→compareBytes b c<0→compareBytes a c<0
 |[],[],_,h,_=>by simp[compareBytes]at h
 |[],_::_,[],_,k=>by simp[compareBytes]at k
 |[],_::_,_::_,_,_=>by simp[compareBytes]
 |_::_,[],_,h,_=>by simp[compareBytes]at h
 |_::_,_::_,[],_,k=>by simp[compareBytes]at k
 |x::r,y::s,z::t,h,k=>by
   rw[compareBytes]at h k⊢;rcases EX x y with xy|xy|xy
   ·rcases EX y z with yz|yz|yz
    ·rw[aA (ank xy yz)];omega
    ·rw[ay (Cj yz),aA yz]at k;omega
    subst yz;rw[aA xy];omega
   ·rw[ay (Cj xy),aA xy]at h;omega
   subst xy;rw[ay (rF x),ay (rF x)]at h;rcases EX x z with yz|yz|yz
   ·rw[aA yz];omega
   ·rw[ay (Cj yz),aA yz]at k;omega
   subst yz;rw[ay (rF x),ay (rF x)]at k;rw[ay (rF x),ay (rF x)];exact RS r s t h k
theorem OT:∀a b:List UInt8,Op.bytesLess a b=decide (compareBytes a b<0)
 |[],[]=>by simp[Op.bytesLess,compareBytes]
 |_::_,[]=>by simp[Op.bytesLess,compareBytes]
 |[],_::_=>by simp[Op.bytesLess,compareBytes]
 |x::r,y::s=>by
   rw[Op.bytesLess,compareBytes,OT r s];rcases EX x y with k|k|k
   ·simp[k]
   ·have h1:=Cj k
    have h2:x≠y:=fun e=>(by subst e;exact rF x k);simp[h1,h2,k]
   subst k;simp
def qA(ak av bk bv:List UInt8):Int:=if compareBytes ak bk≠0 then compareBytes ak bk else compareBytes av bv
theorem agq(ak av bk bv:List UInt8):qA bk bv ak av = - qA ak av bk bv:=by
 unfold qA;rw[Bz ak bk,Bz av bv];by_cases h:compareBytes ak bk=0
 ·simp[h]
 rw[aA (by omega),aA h]
theorem agp(ak av bk bv:List UInt8):qA ak av bk bv=0↔ak=bk∧av=bv:=by
 unfold qA;by_cases h:compareBytes ak bk=0
 ·rw[ay (by omega),wO]
  have:=(wO ak bk).1 h;simp[this]
 rw[aA h];have:ak≠bk:=fun e=>h ((wO ak bk).2 e);simp[h,this]
theorem agr(ak av bk bv ck cv:List UInt8)(h:qA ak av bk bv<0)(k:qA bk bv ck cv<0):qA ak av ck cv<0:=by
 unfold qA at *;by_cases h1:compareBytes ak bk=0
 ·have e1:=(wO ak bk).1 h1
  subst e1;rw[ay (by omega)]at h;by_cases h2:compareBytes ak ck=0
  ·rw[ay (by omega)]at k⊢
   exact RS _ _ _ h k
  rw[aA h2]at k⊢;exact k
 rw[aA h1]at h;by_cases h2:compareBytes bk ck=0
 ·have e2:=(wO bk ck).1 h2
  subst e2;rw[aA h1];exact h
 rw[aA h2]at k;have:=RS _ _ _ h k;rw[aA (by omega)];exact this
def qY:List UInt8→List UInt8→Bool
 |[],[]=>false
 |[],_::_=>true
 |_::_,[]=>false
 |a::x,b::y=>if a≠b then decide (a.toNat<b.toNat)else qY x y
theorem YV:∀a b:List UInt8,qY a b=decide (compareBytes a b<0)
 |[],[]=>by simp[qY,compareBytes]
 |_::_,[]=>by simp[qY,compareBytes]
 |[],_::_=>by simp[qY,compareBytes]
 |x::r,y::s=>by
   rw[qY,compareBytes,YV r s];rcases EX x y with k|k|k
   ·have h2:x≠y:=fun e=>by subst e;exact rF x k
    have h3:=UInt8.lt_iff_toNat_lt.1 k;simp[k,h2,h3]
   ·have h1:=Cj k
    have h2:x≠y:=fun e=>(by subst e;exact rF x k);have h3:=UInt8.lt_iff_toNat_lt.1 k;simp[h1,h2,k];omega
   subst k;simp
def jR(k v:List UInt8):List UInt8:=dY k.length++(k++(dY v.length++v))
def etx(s:List UInt8):List UInt8×Nat×Nat :=
 if(dQ s).2.2≠0 then([],0,(dQ s).2.2)else if s.length - (dQ s).2.1<(dQ s).1 then([],0,1)else((s.drop (dQ s).2.1).take (dQ s).1,(dQ s).2.1+(dQ s).1,0)
theorem Z4{s:List UInt8}(h:(etx s).2.2=0):(etx s).2.1≤s.length∧1≤(etx s).2.1∧s.take (etx s).2.1=dY (etx s).1.length++(etx s).1∧(etx s).1.length<18446744073709551616:=by
 unfold etx at *;split at h
 ·rename_i k;exact aJ h k
 rename_i k;split at h
 ·exact aJ h (by simp)
 rename_i k2;obtain⟨h1,h2,h3,h4,h5⟩:=nZ (s:=s) (by omega);rw[ay k,ay k2];simp only;have hl:((s.drop (dQ s).2.1).take (dQ s).1).length=(dQ s).1:=by rw[bD,aN];omega
 refine⟨by omega,by omega,?_,by omega⟩;rw[hl,h5,List.take_add]
theorem Z5(k r:List UInt8)(hk:k.length<18446744073709551616):etx (dY k.length++(k++r))=(k,(dY k.length).length+k.length,0):=by
 have e:=wW k.length hk (k++r);unfold etx;rw[e];simp only;rw[ay (by simp),← fO,ay (by simp only[aC];omega),dM,List.take_left' rfl]
def jf(chk:List UInt8→List UInt8→Int)(s:List UInt8):(List UInt8×List UInt8)×Nat×Int :=
 if(etx s).2.2≠0 then(([],[]),0,((etx s).2.2:Int))
 else if(etx (s.drop (etx s).2.1)).2.2≠0 then(([],[]),0,((etx (s.drop (etx s).2.1)).2.2:Int))
 else if chk (etx s).1 (etx (s.drop (etx s).2.1)).1≠0 then(([],[]),0,chk (etx s).1 (etx (s.drop (etx s).2.1)).1)
 else(((etx s).1,(etx (s.drop (etx s).2.1)).1),(etx s).2.1+(etx (s.drop (etx s).2.1)).2.1,0)
theorem agv{chk:List UInt8→List UInt8→Int}{s:List UInt8}(h:(jf chk s).2.2=0) :
 (jf chk s).2.1≤s.length∧1≤(jf chk s).2.1∧s.take (jf chk s).2.1=jR (jf chk s).1.1 (jf chk s).1.2∧chk (jf chk s).1.1 (jf chk s).1.2=0:=by
 unfold jf at *
 split at h
 ·rename_i k;simp at h;exact aJ h k
 ·rename_i k1
  rw[ay k1];split at h
  ·rename_i k;simp at h;exact aJ h k
  rename_i k2;rw[ay k2];split at h
  ·rename_i k;exact aJ h k
  rename_i k3;rw[ay k3];obtain⟨a1,a2,a3,a4⟩:=Z4 (s:=s) (by omega);obtain⟨b1,b2,b3,b4⟩:=Z4 (s:=s.drop (etx s).2.1) (by omega);rw[aN]at b1;simp only;refine⟨by omega,by omega,?_,by omega⟩;rw[List.take_add,a3,b3];simp[jR]
theorem ZU(k v:List UInt8):(jR k v).length=(dY k.length).length+k.length+((dY v.length).length+v.length):=by
 simp[jR];omega
theorem agw(chk:List UInt8→List UInt8→Int)(k v r:List UInt8)(hk:k.length<18446744073709551616)(hv:v.length<18446744073709551616) :
 jf chk (jR k v++r)=if chk k v≠0 then(([],[]),0,chk k v)else((k,v),(jR k v).length,0):=by
 have e1:etx (jR k v++r)=(k,(dY k.length).length+k.length,0):=by
  have:=Z5 k (dY v.length++v++r) hk;simpa[jR]using this
 have e2:(jR k v++r).drop ((dY k.length).length+k.length)=dY v.length++(v++r):=by
  have:jR k v++r=(dY k.length++k)++(dY v.length++(v++r)):=by simp[jR]
  rw[this];exact List.drop_left' (by simp)
 have e3:=Z5 v r hv
 unfold jf
 rw[e1]
 simp only
 rw[ay (by simp),e2,e3]
 simp only
 rw[ay (by simp),ZU]
end Go.PM
section
namespace Go.PM
open Go.Lib (compareBytes)
abbrev fD:=List UInt8×List UInt8
def lU(a b:fD):Int:=qA a.1 a.2 b.1 b.2
theorem Gp(a b:fD):lU b a = - lU a b:=agq _ _ _ _
theorem Nl(a b:fD):lU a b=0↔a=b:=by
 unfold lU;rw[agp,Prod.ext_iff]
theorem ZH{a b c:fD}(h:lU a b<0)(k:lU b c<0):lU a c<0:=agr _ _ _ _ _ _ h k
theorem ZG{a b c:fD}(h:lU a b≤0)(k:lU b c≤0):lU a c≤0:=by
 by_cases h0:lU a b=0
 ·rw[(Nl a b).1 h0];exact k
 by_cases k0:lU b c=0
 ·rw[← (Nl b c).1 k0];exact h
 have:=ZH (a:=a) (b:=b) (c:=c) (by omega) (by omega);omega
def Eb(x:fD):List fD→List fD
 |[]=>[x]
 |y::r=>if lU y x<0 then y::Eb x r else x::y::r
def Ea:List fD→List fD→List fD
 |acc,[]=>acc
 |acc,x::r=>Ea (Eb x acc) r
def qK(l:List fD):List fD:=Ea [] l
theorem SA(x:fD):∀l:List fD,(Eb x l).Perm (x::l)
 |[]=>List.Perm.refl _
 |y::r=>by
   rw[Eb];split
   ·exact((SA x r).cons y).trans (List.Perm.swap x y r)
   exact List.Perm.refl _
theorem ZM:∀(l acc:List fD),(Ea acc l).Perm (acc++l)
 |[],acc=>by rw[Ea,bQ]
 |x::r,acc=>by
   rw[Ea];exact(ZM r _).trans (((SA x acc).append_right r).trans List.perm_middle.symm)
theorem ZX(l:List fD):(qK l).Perm l:=ZM l []
theorem ZN(x:fD):∀l:List fD,l.Pairwise (fun a b=>lU a b≤0)→(Eb x l).Pairwise (fun a b=>lU a b≤0)
 |[],_=>by simp[Eb]
 |y::r,h=>by
   rw[cu]at h;rw[Eb];split
   ·rename_i hlt
    rw[cu];refine⟨fun b hb=>?_,ZN x r h.2⟩;rcases bC.1 ((SA x r).mem_iff.1 hb)with rfl|hb
    ·omega
    exact h.1 b hb
   rename_i hlt;rw[cu];have hxy:lU x y≤0:=(by have:=Gp x y;omega);refine⟨fun b hb=>?_,by rw[cu];exact h⟩;rcases bC.1 hb with rfl|hb
   ·exact hxy
   exact ZG hxy (h.1 b hb)
theorem ZL:∀(l acc:List fD),acc.Pairwise (fun a b=>lU a b≤0)→(Ea acc l).Pairwise (fun a b=>lU a b≤0)
 |[],_,h=>h
 |x::r,acc,h=>by rw[Ea];exact ZL r _ (ZN x acc h)
theorem agy(l:List fD):(qK l).Pairwise (fun a b=>lU a b≤0):=ZL l [] List.Pairwise.nil
theorem ZR:∀l l':List fD,l.Perm l'→l.Pairwise (fun a b=>lU a b≤0)→l'.Pairwise (fun a b=>lU a b≤0)→l=l'
 |[],l',hp,_,_=>(List.nil_perm.1 hp).symm
 |x::r,[],hp,_,_=>aJ (List.perm_nil.1 hp) (by simp)
 |x::r,y::s,hp,h,h'=>by
   rw[cu]at h h';have hx:x∈y::s:=hp.mem_iff.1 (by simp);have hy:y∈x::r:=hp.mem_iff.2 (by simp);have e:x=y:=by
    rcases bC.1 hx with e|hx
    ·exact e
    rcases bC.1 hy with e|hy
    ·exact e.symm
    have h1:=h'.1 x hx;have h2:=h.1 y hy;have h3:=Gp x y;exact(Nl x y).1 (by omega)
   subst e;rw[ZR r s (List.Perm.cons_inv hp) h.2 h'.2]
theorem agz{l l':List fD}(hp:l.Perm l')(hs:l'.Pairwise (fun a b=>lU a b≤0)):l'=qK l:=ZR l' _ (hp.symm.trans (ZX l).symm) hs (agy l)
def kR(n:Nat):Int:=if n=0 then 12 else if 16<n then 13 else 0
def nI(a k:List UInt8):Int:=if k=a then 14 else if compareBytes k a<0 then 7 else 0
def nV:Option (List UInt8)→List UInt8→Int
 |none,_=>0
 |some a,k=>nI a k
section
variable (chk:List UInt8→List UInt8→Int)
def mJ:Option (List UInt8)→List fD→Int
 |_,[]=>0
 |p,e::r=>if chk e.1 e.2≠0 then chk e.1 e.2 else if nV p e.1≠0 then nV p e.1 else mJ (some e.1) r
def iZ(l:List fD):Int:=if kR l.length≠0 then kR l.length else mJ chk none l
def qy:List fD→Int
 |[]=>0
 |e::r=>if chk e.1 e.2≠0 then chk e.1 e.2 else qy r
def qZ:List fD→Bool
 |a::b::r=>decide (b.1=a.1)||qZ (b::r)
 |_=>false
def uI(l:List fD):List fD×Int :=
 if kR l.length≠0 then([],kR l.length)else if qy chk l≠0 then([],qy chk l)else if qZ (qK l)=true then([],14)else(qK l,0)
def iR(l:List fD):List UInt8:=(l.map fun e=>jR e.1 e.2).flatten
def eG(l:List fD):List UInt8:=dY l.length++iR l
def kE:Nat→Option (List UInt8)→List UInt8→List fD×Nat×Int
 |0,_,_=>([],0,0)
 |n+1,p,s=>
   if(jf chk s).2.2≠0 then([],0,(jf chk s).2.2)else if nV p (jf chk s).1.1≠0 then([],0,nV p (jf chk s).1.1)
   else if(kE n (some (jf chk s).1.1) (s.drop (jf chk s).2.1)).2.2≠0 then([],0,(kE n (some (jf chk s).1.1) (s.drop (jf chk s).2.1)).2.2)
   else((jf chk s).1::(kE n (some (jf chk s).1.1) (s.drop (jf chk s).2.1)).1,(jf chk s).2.1+(kE n (some (jf chk s).1.1) (s.drop (jf chk s).2.1)).2.1,0)
def pJ(s:List UInt8):List fD×Nat×Int :=
 if(dQ s).2.2≠0 then([],0,((dQ s).2.2:Int))else if kR (dQ s).1≠0 then([],0,kR (dQ s).1)
 else if(kE chk (dQ s).1 none (s.drop (dQ s).2.1)).2.2≠0 then([],0,(kE chk (dQ s).1 none (s.drop (dQ s).2.1)).2.2)
 else((kE chk (dQ s).1 none (s.drop (dQ s).2.1)).1,(dQ s).2.1+(kE chk (dQ s).1 none (s.drop (dQ s).2.1)).2.1,0)
def mM(s:List UInt8):List fD×Int:=if(pJ chk s).2.2≠0 then([],(pJ chk s).2.2)else if(pJ chk s).2.1<s.length then([],10)else((pJ chk s).1,0)
variable {chk}
theorem Jl:∀{l:List fD} {p:Option (List UInt8)},mJ chk p l=0→qy chk l=0
 |[],_,_=>rfl
 |e::r,p,h=>by
   rw[mJ]at h;rw[qy];split at h
   ·rename_i k;exact aJ h k
   rename_i k;rw[ay k];split at h
   ·rename_i k;exact aJ h k
   exact Jl h
theorem afW{a k:List UInt8}(h:nI a k=0):compareBytes a k<0:=by
 unfold nI at h;split at h
 ·exact aJ h (by decide)
 rename_i e;split at h
 ·exact aJ h (by decide)
 have h1:=Bz a k;have h2:compareBytes a k≠0:=fun e'=>e ((wO a k).1 e').symm;omega
theorem afX{a k:List UInt8}(h:compareBytes a k<0):nI a k=0:=by
 have h1:=Bz a k;unfold nI;rw[ay (fun e=>by rw[e,Na]at h;omega),ay (by omega)]
theorem Jk:∀m:List fD,qy chk m=0↔∀e∈m,chk e.1 e.2=0
 |[]=>by simp[qy]
 |e::r=>by
   rw[qy];by_cases k:chk e.1 e.2=0
   ·rw[ay (by omega),Jk r];simp[k]
   rw[aA k];simp[k]
theorem Zu:∀(n:Nat) (p:Option (List UInt8)) (s:List UInt8),(kE chk n p s).2.2=0→
 (kE chk n p s).2.1≤s.length∧s.take (kE chk n p s).2.1=iR (kE chk n p s).1∧(kE chk n p s).1.length=n∧mJ chk p (kE chk n p s).1=0
 |0,p,s,_=>by simp[kE,iR,mJ]
 |n+1,p,s,h=>by
   rw[kE]at h⊢;split at h
   ·rename_i k;exact aJ h k
   rename_i k1;rw[ay k1];split at h
   ·rename_i k;exact aJ h k
   rename_i k2;rw[ay k2];split at h
   ·rename_i k;exact aJ h k
   rename_i k3;rw[ay k3];obtain⟨a1,a2,a3,a4⟩:=agv (chk:=chk) (s:=s) (by omega);obtain⟨b1,b2,b3,b4⟩:=Zu n (some (jf chk s).1.1) (s.drop (jf chk s).2.1) (by omega);rw[aN]at b1;simp only;refine⟨by omega,?_,by rw[bK,b3],?_⟩
   ·rw[List.take_add,a3,b2]
    simp[iR]
   rw[mJ,ay (by omega),ay k2];exact b4
theorem Zv(r:List UInt8):∀(l:List fD) (p:Option (List UInt8)),mJ chk p l=0→(∀e∈l,e.1.length<18446744073709551616∧e.2.length<18446744073709551616)→kE chk l.length p (iR l++r)=(l,(iR l).length,0)
 |[],p,_,_=>by simp[kE,iR]
 |e::m,p,h,hl=>by
   rw[mJ]at h;split at h
   ·rename_i k;exact aJ h k
   rename_i k1;split at h
   ·rename_i k;exact aJ h k
   rename_i k2;have e1:iR (e::m)++r=jR e.1 e.2++(iR m++r):=(by simp[iR]);have e2:=agw chk e.1 e.2 (iR m++r) (hl e (by simp)).1 (hl e (by simp)).2;rw[ay k1]at e2;have ih:=Zv r m (some e.1) h fun x hx=>hl x (by simp[hx]);rw[bK,kE,e1,e2];simp only;rw[ay (by simp),ay k2,dM,ih];simp[iR]
theorem agd(l:List fD)(r:List UInt8)(h:iZ chk l=0)(hl:∀e∈l,e.1.length<18446744073709551616∧e.2.length<18446744073709551616):pJ chk (eG l++r)=(l,(eG l).length,0):=by
 unfold iZ at h;split at h
 ·rename_i k;exact aJ h k
 rename_i k;have hm:l.length≤16:=by
  unfold kR at k;by_cases h0:l.length=0
  ·omega
  by_cases h1:16<l.length
  ·rw[ay h0,aA h1]at k;exact aJ (by decide) k
  omega
 have e1:eG l++r=dY l.length++(iR l++r):=by simp[eG]
 have e2:=wW l.length (by omega) (iR l++r);have e3:=Zv r l none h hl;unfold pJ;rw[e1,e2];simp only;rw[ay (by simp),ay k,← fO,dM,e3];simp[eG]
theorem Zx{s:List UInt8}(h:(pJ chk s).2.2=0):(pJ chk s).2.1≤s.length∧s.take (pJ chk s).2.1=eG (pJ chk s).1∧iZ chk (pJ chk s).1=0:=by
 unfold pJ at *;split at h
 ·rename_i k;simp at h;exact aJ h k
 rename_i k1;rw[ay k1];split at h
 ·rename_i k;exact aJ h k
 rename_i k2;rw[ay k2];split at h
 ·rename_i k;exact aJ h k
 rename_i k3;rw[ay k3];obtain⟨a1,a2,a3,a4,a5⟩:=nZ (s:=s) (by omega);obtain⟨b1,b2,b3,b4⟩:=Zu (chk:=chk) (dQ s).1 none (s.drop (dQ s).2.1) (by omega);rw[aN]at b1;simp only;refine⟨by omega,?_,?_⟩
 ·rw[List.take_add,b2,← a5]
  unfold eG;rw[b3]
 unfold iZ;rw[b3,ay k2];exact b4
theorem Zz{s:List UInt8}(h:(mM chk s).2=0):s=eG (mM chk s).1∧iZ chk (mM chk s).1=0:=by
 unfold mM at *;split at h
 ·rename_i k;exact aJ h k
 rename_i k1;rw[ay k1];split at h
 ·exact aJ h (by decide)
 rename_i k2;rw[ay k2];obtain⟨a1,a2,a3⟩:=Zx (chk:=chk) (s:=s) (by omega);simp only;refine⟨?_,a3⟩;rw[← a2,aU (by omega)]
theorem ZA{l:List fD}(h:iZ chk l=0)(hl:∀e∈l,e.1.length<18446744073709551616∧e.2.length<18446744073709551616):mM chk (eG l)=(l,0):=by
 have:=agd l [] h hl;rw[bQ]at this;unfold mM;rw[this];simp
end
end Go.PM
end
