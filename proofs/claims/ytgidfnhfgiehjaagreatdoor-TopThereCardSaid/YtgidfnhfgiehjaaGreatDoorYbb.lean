/-
  Parts of the proof. Conditions: as each names.
-/
import Derived.Test.YtgidfnhfgiehjaaGreatDoorYay
namespace Go.Proofs.YtgidfnhfgiehjaaGreatDoor
open Go.PM Go.RowKit Go.Proofs.Tryz
set_option maxRecDepth 100000
set_option maxHeartbeats 4000000
attribute [local go_sem ↓] Go.wp_at_zero Go.wp_at_succ
theorem akt(b c0:Nat)(A:Option Addr)(c:Nat)(l:List Rv)(I:Nat→Prop)(w:World)(hb:w.cell? ⟨b,0,none⟩=some (.func (.func 145) #[.slice A l.length c] #[]))(hr:Rd w A (gZ l))(ho:∀r∈l,gJ w I r)(hz:∀r∈l,lg r.d∧r.d.length≤9223372036854775807)(hl:l.length≤9223372036854775807)(hT:Tabs w) :
 Calls prog 146 #[.slice (some ⟨b,0,none⟩) 1 c0] w (aj w (.int .i64 (jv dV (l.map Rv.rw)))):=by
 have HC:=ah (V6 A c l I w hr ho hz hl hT)
 clear hr ho hz hT
 generalize jv dV (l.map Rv.rw)=E at *
 go_enter func146,ntmps146
 go_wp2_with fail
 refine wp_loop_rounds 2 ?_
 rw[rounds_succ]
 go_wp2_with fail
 refine HC.out.mono ?_
 rintro e w1 ⟨rfl,hb1⟩
 have HB1:=ah hb1
 clear hb1
 by_cases hE:E=0
 ·subst hE
  go_wp2_with fail;rw[rounds_succ];go_wp2_with fail;go_ret;exact⟨rfl,HB1.out⟩
 ·have hEi:(E != 0)=true:=by rw[aZ];exact hE
  clear hE;go_wp2_with fail;go_ret;exact⟨rfl,HB1.out⟩
theorem Zr{d:List fD}(h:iZ dV d=0):(eG d).length≤10000:=by
 obtain⟨h5,h6,_⟩:=uH h;have ha:∀e∈d,e.1.length≤64∧e.2.length≤256:=by
  unfold iZ at h;split at h
  ·rename_i q;exact aJ h q
  exact fun e he=>Sv ((Jk _).1 (Jl h) e he)
 have hl:∀d:List fD,(∀e∈d,e.1.length≤64∧e.2.length≤256)→(iR d).length≤d.length*400:=by
  intro d;induction d with
  |nil=>intro _;simp[iR]
  |cons e r ih=>
    intro hh;have h1:=hh e (by simp);have h2:=ih fun x hx=>hh x (by simp[hx]);have e1:iR (e::r)=jR e.1 e.2++iR r:=(by simp[iR]);have p1:fH e.1.length≤10:=iJ (by omega);have p2:fH e.2.length≤10:=iJ (by omega);rw[e1,aC,bK];unfold jR;simp only[aC,fO];omega
 have h7:=hl _ ha;have h8:fH d.length≤10:=iJ (by omega);unfold eG;rw[aC,fO];omega
theorem Hu{r:Rw}(h:kJ dV r=0):iZ dV r.1=0:=by
 unfold kJ at h;by_cases hd:iZ dV r.1≠0
 ·rw[aA hd]at h;exact aJ h hd
 omega
theorem V7:∀(l:List Rw) (p:Option (List UInt8)),kW dV p l=0→∀r∈l,kJ dV r=0
 |[],_,_,_,h=>by cases h
 |x::m,p,h,r,hr=>by
   rw[kW]at h;split at h
   ·rename_i q;exact aJ h q
   rename_i q;split at h
   ·rename_i q2;exact aJ h q2
   rcases bC.1 hr with rfl|hr
   ·omega
   exact V7 m _ h r hr
theorem Vy(a s:List UInt8)(h:s.length≤1000000):(je a s).length≤s.length+20:=by
 have h1:=(Hl a s).2;have p1:fH (iw a s)≤10:=iJ (by omega);have p2:fH (s.length - iw a s)≤10:=iJ (by omega);unfold je;simp only[aC,fO,aN];omega
theorem Vx:∀(l:List Rw) (a:List UInt8),(∀r∈l,(eG r.1).length≤10000∧r.2<18446744073709551616)→(jS a l).length≤l.length*10030
 |[],_,_=>by simp[jS]
 |x::m,a,h=>by
   obtain⟨h1,h2⟩:=h x (by simp);have h3:=Vx m (eG x.1) fun r hr=>h r (by simp[hr]);have h4:=Vy a (eG x.1) (by omega);have h5:fH x.2≤10:=iJ (by omega);rw[jS,aC,aC,fO,bK];omega
def Ft(b:Nat)(w:World)(q:Nat):Prop:=q=b∨∃v,w.cell? ⟨b,1,none⟩=some v∧v.ownBlock=some q
theorem pq.ft{B b:Nat}{l:List UInt8}{w w5:World}(h:pq B b l w)(hb:Below w.heap.size w w5)(q:Nat)(hq:Ft b w5 q):q<w.heap.size:=by
 have go:∀p,Lib.BuilderAtF 222 5 B b p (Lib.byteCells l) w→q<w.heap.size:=fun p h=>by
  have hlt:=h.lt;obtain⟨_,v,hbk,hown,_⟩:=h;rcases hq with rfl|⟨v',hc,ho⟩
  ·exact hlt
  have hb2:=(hb.block b hlt).trans hbk;have c1:w5.cell? ⟨b,1,none⟩=some v:=by rw[Lib.cell_of_heap hb2];rfl
  rw[c1]at hc;injection hc with hc;subst hc;exact(hown.lt q ho).2
 exact h.elim (go _) (go _)
theorem afs(B b:Nat)(l:List UInt8)(w:World)(h:pq B b l w) :
 Calls prog 173 #[.pointer (some ⟨b,0,none⟩)] w fun e w'=>e=.returned (.tuple #[])∧Lib.BuilderAtF 222 5 B b (.pointer (some ⟨b,0,none⟩)) (Lib.byteCells l) w'∧Below B w w'∧dX (fun q=>q=b) w w'∧w'.cell? ⟨b,1,none⟩=w.cell? ⟨b,1,none⟩:=by
 rcases h with h|h
 ·refine(Y2 b w h.cell0 h.shape h.frozen0).mono ?_
  rintro e w' ⟨rfl,rfl⟩;exact⟨rfl,h.used _,(Below.refl B w).setCell (p:=⟨b,0,none⟩) h.1 _,(dX.refl (fun q=>q=b) w).put (p:=⟨b,0,none⟩) (fun _=>rfl) _,by simp[go_sem]⟩
 ·refine(Y3 b w h.cell0).mono ?_
  rintro e w' ⟨rfl,rfl⟩;exact⟨rfl,h,Below.refl B _,dX.refl _ _,rfl⟩
theorem an1(B b:Nat)(l:List UInt8)(s:ByteArray)(w:World)(h:pq B b l w)(hlen:l.length+s.size≤100000000000)(hBw:B≤w.heap.size) :
 Calls prog 124 #[.pointer (some ⟨b,0,none⟩),.string s] w fun e w'=>e=.returned (.tuple #[.int .i64 s.size,.nilIface])∧pq B b (l++s.data.toList) w'∧Below B w w'∧dX (Ft b w) w w':=by
 obtain⟨i0,hi,hz0,hz1,hz2⟩:=info_parts abJ
 have CV:=ah (afs B b l w h)
 have hbl:(Lib.byteCells l).length=l.length:=by simp[Lib.byteCells]
 clear h
 go_enter func124,ntmps124
 go_wp2_with fail
 refine CV.out.mono ?_
 rintro e w1 ⟨rfl,h1,hb1,ht1,hc1⟩
 obtain⟨hB,v,hbk,hown,hne⟩:=h1
 have c0:w1.cell? ⟨b,0,none⟩=some (.pointer (some ⟨b,0,none⟩)):=by rw[Lib.cell_of_heap hbk];rfl
 have c1:w1.cell? ⟨b,1,none⟩=some v:=by rw[Lib.cell_of_heap hbk];rfl
 have HOWN:=ah hown
 have HB1:=ah hb1
 have zB:=ah hbk
 have HT1:Hid (dX (Ft b w) w w1):=ht1.imp fun g _ hg=>.inl hg
 have HV:Hid (∀q,v.ownBlock=some q→Ft b w q):=fun q hq=>.inr ⟨v,hc1.symm.trans c1,hq⟩
 clear ht1 hc1
 clear hown hb1 hbk CV
 go_wp2_with(at_builtin;refine Lib.wpList_append_own_stringF _ rfl _ _ 42 9 rfl B 5 i0 underlying42 underlying9 hi hz0 hz1 hz2 _ _ _ rfl HOWN.out s rfl ?c3 ?c4 ?c5 ?_)
 case c3=>rw[hbl];unfold maxLen;omega
 case c4=>rw[hbl];omega
 case c5=>have:=HB1.out.size;omega
 intro v' w2 hown' hgrow _
 have hlt:b<w1.heap.size:=by
  rcases Nat.lt_or_ge b w1.heap.size with h'|h'
  ·exact h'
  have:=zB.out;simp[Array.getElem?_eq_none h']at this
 have hb2:w2.heap[b]?=some (.cells #[.pointer (some ⟨b,0,none⟩),v] 222 (0,0)):=by
  rw[hgrow.block b hlt (fun e=>hne e.symm)];exact zB.out
 have d0:w2.cell? ⟨b,0,none⟩=some (.pointer (some ⟨b,0,none⟩)):=by rw[Lib.cell_of_heap hb2];rfl
 have d1:w2.cell? ⟨b,1,none⟩=some v:=by rw[Lib.cell_of_heap hb2];rfl
 have f1:w2.frozen? ⟨b,1,none⟩=false:=Lib.frozen_of_heap hb2 1
 obtain⟨ao,n',cap,rfl⟩:∃ao n' cap,v'=.slice ao n' cap:=by
  rcases hown'.2 with⟨hv,_⟩|⟨g,cap,cur,fz,hv,_⟩
  ·exact⟨_,_,_,hv⟩
  exact⟨_,_,_,hv⟩
 have yD:=ah hown'
 have Lj:=ah hgrow
 have HB2:=ah hb2
 clear hown' hgrow hb2
 go_wp2_with fail
 go_ret2
 refine⟨rfl,.inr ?_,?_,?_⟩
 ·rw[Lib.byteCells_append]
  have hbs:(Lib.byteCells s.data.toList).length=s.size:=by simp[Lib.byteCells]
  exact Lib.BuilderAtF.put (T:=222) (e:=5) hB HB2.out (bs':=Lib.byteCells l++Lib.byteCells s.data.toList) (by rw[aC,hbs,hbl];exact yD.out) (by decide)
 ·exact(HB1.out.grown Lj.out (by have:=HB1.out.size;omega) (fun k hk=>(HOWN.out.lt k hk).1)).setCell (p:=⟨b,1,none⟩) hB _
 ·exact(HT1.out.trans (S':=Ft b w) (dX.grown Lj.out fun g hg _=>HV.out g hg) fun _ _ e=>e).put (p:=⟨b,1,none⟩) (fun _=>.inl rfl) _
theorem acO(A:Option Addr)(c:Nat)(l:List Rv)(I:Nat→Prop)(w:World)(hr:Rd w A (gZ l))(ho:∀r∈l,gJ w I r)(hz:∀r∈l,lg r.d∧r.d.length≤9223372036854775807)(hn:∀r∈l,r.n<18446744073709551616)(hl:l.length≤9223372036854775807)(hT:Tabs w) :
 Calls prog 90 #[.slice A l.length c] w (aj w (.tuple #[.string (txt (oV dV (l.map Rv.rw)).1),.int .i64 (oV dV (l.map Rv.rw)).2])):=by
 have eU:=ba (a:=w) b0 (.cells #[.func (.func 145) #[.slice A l.length c] #[]] 113)
 have HX:=dU.made w 113 #[.func (.func 145) #[.slice A l.length c] #[]]
 have x0:(w.alloc (.cells #[.func (.func 145) #[.slice A l.length c] #[]] 113)).cell? ⟨w.heap.size,0,none⟩=some (.func (.func 145) #[.slice A l.length c] #[]):=HX.cell 0
 have HF:Hid (∀c0,Calls prog 146 #[.slice (some ⟨w.heap.size,0,none⟩) 1 c0] (w.alloc (.cells #[.func (.func 145) #[.slice A l.length c] #[]] 113)) fun e w'=>e=.returned (.int .i64 (jv dV (l.map Rv.rw)))∧Below (w.heap.size+1) (w.alloc (.cells #[.func (.func 145) #[.slice A l.length c] #[]] 113)) w'):=fun c0=>by
  have:=akt w.heap.size c0 A c l I _ x0 (hr.below eU) (fun r h=>(ho r h).below eU) hz hl (hT.below eU);exact this.mono fun e w' h=>⟨h.1,by have h2:=h.2;rwa [World.size_alloc]at h2⟩
 obtain⟨X,hX⟩:∃X,X=oV dV (l.map Rv.rw):=⟨_,rfl⟩
 rw[← hX]
 unfold oV at hX
 have HR:=ah hr
 have HO:=ah ho
 have HN:=ah hn
 have HB:=ah eU
 have Oi:jv dV (l.map Rv.rw)=0→l.length≤256∧∀r∈l,um r.d∧(eG r.d).length≤10000:=fun h=>by
  obtain⟨h1,h2⟩:=Ce h;rw[aY]at h1;refine⟨h1,fun r hr=>?_⟩;have h3:=Hu (V7 _ _ h2 r.rw (dL.2 ⟨r,hr,rfl⟩));exact⟨(uH h3).1,Zr h3⟩
 obtain⟨E,hE⟩:∃E,E=jv dV (l.map Rv.rw):=⟨_,rfl⟩
 rw[← hE]at hX HF Oi
 clear hr ho hz hn hT eU HX x0 hE
 by_cases hE:E=0
 ·subst hE
  rw[ay (by simp)]at hX;subst hX;obtain⟨h256,hall⟩:=Oi rfl;have HA:=ah hall;have wl:IntKind.u64.wrap (l.length:Int)=(l.length:Int):=by rw[IntKind.wrap_u64];omega
  have HV:Hid (∀x:World,Calls prog 35 #[.int .u64 (l.length:Int)] x (aj x (.string (txt (dY l.length))))):=fun x=>put_any l.length x (by unfold In64;omega);have hvl:(dY l.length).length≤10:=by rw[fO];exact iJ (by omega)
  have CZ:Hid (lQ (l.map Rv.rw)=dY l.length++jS [] ((l.drop 0).map Rv.rw)):=by
   show _=_;unfold lQ;rw[aY];rfl
  have TK:(lQ (l.map Rv.rw)).length≤10000000:=by
   have:=Vx (l.map Rv.rw) [] fun r hr=>by
    obtain⟨q,hq,rfl⟩:=dL.1 hr;exact⟨(HA.out q hq).2,HN.out q hq⟩
   rw[aY]at this;unfold lQ;rw[aC,aY];omega
  clear hall Oi;generalize lQ (l.map Rv.rw)=F at *;go_enter func90,ntmps90;go_wp2_with fail;refine(HF.out _).mono ?_;rintro e w1 ⟨rfl,hb1⟩;have hB1:=HB.out.trans (hb1.mono (by omega));have aaX:=ba (a:=w1) b0 (.cells #[.pointer none,.slice none 0 0] 222);have HB1:=ah hB1;have lq:=ah (bb hB1 aaX);have qJ:=ah (RI w1);clear hb1 hB1 aaX HF HB;go_wp2_with fail;refine(HV.out _).mono ?_;rintro e w2 ⟨rfl,hb2⟩;have HB2:=ah (bb lq.out hb2);have hsz2:=hb2.size;rw[World.size_alloc]at hsz2;have HW:=ah (Ic w1.heap.size w1.heap.size [] (txt (dY l.length)) w2 (qJ.out.below hb2) (by rw[gI,cO];omega) (by omega));rw[List.nil_append,iD]at HW;have Yq:Hid (Below w1.heap.size w1 w2):=(ba (a:=w1) b0 (.cells #[.pointer none,.slice none 0 0] 222)).trans (hb2.mono (by rw[World.size_alloc];omega));clear hb2 hsz2 qJ lq
  go_wp2_with fail;refine HW.out.mono ?_;rintro e w3 ⟨rfl,JC,hb3⟩;have H0:Hid (pq w1.heap.size w1.heap.size (dY l.length) w3∧Below w1.heap.size w1 w3):=⟨JC,Yq.out.trans hb3⟩;clear JC hb3 HW HB2 Yq;go_wp2_with fail;go_loopg [6,24] l.length (fun gk av ki wr=>∃(k:Nat) (K S:List UInt8),k≤l.length∧l.length - k≤gk∧ki=.int .i64 (k:Int)∧av=.string (txt K)∧K.length≤10000∧Hid (F=S++jS K ((l.drop k).map Rv.rw))∧Hid (pq w1.heap.size w1.heap.size S wr∧Below w1.heap.size w1 wr))
  case atStart=>exact⟨0,[],_,aW _,by omega,rfl,rfl,aW _,CZ,H0⟩
  case round=>
   obtain⟨k,K,S,hk,hgk,rfl,rfl,hK,hF,HS⟩:=hrel;obtain⟨yY,hbel⟩:=HS.out;have hbw:=HB1.out.trans (hbel.mono HB1.out.size);by_cases hlt:k<l.length
   ·obtain⟨b,off,rfl,hblt,c0,c1⟩:=(HR.out.below hbw).row hlt
    obtain⟨z0,z1⟩:=HA.out _ (aS hlt);have zn:=HN.out _ (aS hlt);have hro:=(HO.out _ (aS hlt)).below hbw;have hf:=hF.out;rw[bI hlt,dK,jS]at hf;generalize l[k]=r at *;obtain⟨rd,rA,rc,rn⟩:=r;simp only at c0 c1 z0 z1 zn hro;change F=S++(je K (eG rd)++(dY rn++jS (eG rd) ((l.drop (k+1)).map Rv.rw)))at hf;have hp1:(je K (eG rd)).length≤10020:=(by have:=Vy K (eG rd) (by omega);omega);have hp2:(dY rn).length≤10:=(by rw[fO];exact iJ (by omega));have hS:S.length≤10000000:=(by rw[hf,aC]at TK;omega);have eU:=ba (a:=wr) b0 (.cells #[.slice rA rd.length rc,.int .u64 (rn:Int)] 134);have wC:=ah eU;have HX:=ah (dU.made wr 134 #[.slice rA rd.length rc,.int .u64 (rn:Int)]);have qp:=ah (zf rA rc rd _ (hro.2.rd.below eU) z0)
    have H1:Hid (∀x:World,Calls prog 147 #[.string (txt K),.string (txt (eG rd))] x (aj x (.string (txt (je K (eG rd)))))):=fun x=>by
     have:=Vo (txt K) (txt (eG rd)) x (by rw[gI];omega) (by rw[gI];omega)
     rwa [iD,iD]at this
    have HVN:Hid (∀x:World,Calls prog 35 #[.int .u64 (rn:Int)] x (aj x (.string (txt (dY rn))))):=fun x=>put_any rn x (by unfold In64;omega);have jT:=ah hf;have Ij:=ah yY;have eX:=ah hbel;have nR:=ah hbel.size;clear hF hf yY hbel hbw hro eU HS H0 CZ;go_wp2_with fail;refine qp.out.mono ?_;rintro e w4 ⟨rfl,hb4⟩;have HB4:=ah (bb wC.out hb4);have Ri:=ah (HX.out.below hb4 HX.out.lt);clear hb4 qp HX c0 c1;go_wp2_with fail;refine(H1.out _).mono ?_;rintro e w5 ⟨rfl,hb5⟩;have gY:=ah (bb HB4.out hb5);have Yu:=ah (Ri.out.below hb5 Ri.out.lt);have HW:=ah (an1 w1.heap.size w1.heap.size S (txt (je K (eG rd))) w5 (Ij.out.below gY.out) (by rw[gI];omega) (aI nR.out gY.out.size));rw[iD]at HW;clear hb5 Ri HB4;go_wp2_with fail;refine HW.out.mono ?_
    rintro e w6 ⟨rfl,aaV,hb6,ht6⟩;have hx6:=Yu.out.fE ht6 fun h=>aJ (Ij.out.ft gY.out _ h) (Nat.lt_irrefl _);have d1:=hx6.cell 1;simp at d1;have WI:=ah aaV;have iE:Hid (Below w1.heap.size w1 w6):=(eX.out.trans (gY.out.mono nR.out)).trans hb6;clear aaV hb6 ht6 hx6 HW Yu Ij;go_wp2_with fail;refine(HVN.out _).mono ?_;rintro e w7 ⟨rfl,hb7⟩;have iV:Hid (Below w1.heap.size w1 w7):=iE.out.trans (hb7.mono iE.out.size);have HW:=ah (Ic w1.heap.size w1.heap.size (S++je K (eG rd)) (txt (dY rn)) w7 (WI.out.below hb7) (by rw[gI,aC];omega) iV.out.size);rw[iD]at HW;clear hb7 WI iE d1;go_wp2_with fail;refine HW.out.mono ?_;rintro e w8 ⟨rfl,aaW,hb8⟩;have HN8:Hid (pq w1.heap.size w1.heap.size (S++je K (eG rd)++dY rn) w8∧Below w1.heap.size w1 w8):=⟨aaW,iV.out.trans hb8⟩
    have HF8:Hid (F=(S++je K (eG rd)++dY rn)++jS (eG rd) ((l.drop (k+1)).map Rv.rw)):=by
     show _=_;rw[jT.out];simp
    clear aaW hb8 HW jT;go_wp2_with fail;go_roundg (l.length - (k+1))
    case measure=>omega
    case rel=>exact⟨k+1,eG rd,_,by omega,au _,by go_num,rfl,z1,HF8,HN8⟩
   obtain rfl:k=l.length:=(by omega);have hf:=hF.out;rw[List.drop_length,List.map_nil,jS,bQ]at hf;subst hf;have HST:=ah (VR _ _ _ _ yY hbel.size);have iW:=ah hbw;clear yY hbel HS H0 hF CZ hbw;go_wp2_with fail;refine HST.out.mono ?_;rintro e w4 ⟨rfl,hb4⟩;have HB4:=ah (iW.out.trans (hb4.mono HB1.out.size));clear hb4;go_wp2_with fail;go_ret2;exact⟨rfl,HB4.out⟩
 ·rw[aA hE]at hX
  subst hX;have hEi:(E != 0)=true:=by rw[aZ];exact hE
  clear hE Oi;go_enter func90,ntmps90;go_wp2_with fail;refine(HF.out _).mono ?_;rintro e w1 ⟨rfl,hb1⟩;have HB1:=ah (HB.out.trans (hb1.mono (by omega)));clear hb1 HF HB;go_wp2_with fail;go_ret2;exact⟨rfl,HB1.out⟩
theorem al5(A B:Option Addr)(c c':Nat)(d d':List fD)(n n':Nat)(w:World)(hA:Rd w A (ents d))(hB:Rd w B (ents d'))(hl:d.length≤9223372036854775807) :
 Calls prog 156 #[.agg #[.slice A d.length c,.int .u64 (n:Int)],.agg #[.slice B d'.length c',.int .u64 (n':Int)]] w (aj w (.bool (decide (d=d'∧n=n')))):=by
 have HE:Hid (∀x,Below w.heap.size w x→Calls prog 101 #[.slice A d.length c,.slice B d'.length c'] x (aj x (.bool (decide (d=d'))))):=fun x hx=>ZJ A B c c' d d' x (hA.below hx) (hB.below hx) hl
 clear hA hB hl
 by_cases hn:n=n'
 ·subst hn
  have hq:decide (d=d'∧n=n)=decide (d=d'):=by simp
  rw[hq];clear hq;generalize decide (d=d')=F at *;generalize d.length=dl at *;generalize d'.length=dl' at *;go_enter func156,ntmps156;go_wp2_with fail;refine(HE.out _ (ba (ba b0 _) _)).mono ?_;rintro e w1 ⟨rfl,hb1⟩;have HB:=ah (bb (ba (ba b0 _) _) hb1);clear hb1;go_wp2_with fail;go_ret;exact⟨rfl,HB.out⟩
 ·have hq:decide (d=d'∧n=n')=false:=by simp;exact fun _=>hn
  rw[hq];have hni:((n:Int)==(n':Int))=false:=by rw[aB];omega
  clear hq HE hn;go_enter func156,ntmps156;go_wp2_with fail;go_ret;exact⟨rfl,ba (ba b0 _) _⟩
theorem amw(r:Rv)(l:List Rv)(s:Rv)(m:List Rv):decide ((r::l).map Rv.rw=(s::m).map Rv.rw)=(decide (r.d=s.d∧r.n=s.n)&&decide (l.map Rv.rw=m.map Rv.rw)):=by
 rw[dK,dK,← Bool.decide_and,decide_eq_decide,List.cons.injEq];simp only[Rv.rw,Prod.mk.injEq]
theorem anb(A B:Option Addr)(c c':Nat)(l m:List Rv)(I:Nat→Prop)(w:World)(hA:Rd w A (gZ l))(hB:Rd w B (gZ m))(hl:∀r∈l,gJ w I r∧r.d.length≤9223372036854775807)(hm:∀r∈m,gJ w I r)(hll:l.length≤9223372036854775807) :
 Calls prog 155 #[.slice A l.length c,.slice B m.length c',.func (.func 156) #[] #[]] w (aj w (.bool (decide (l.map Rv.rw=m.map Rv.rw)))):=by
 have HA:=ah hA
 have HB:=ah hB
 have HL:=ah hl
 have HM:=ah hm
 clear hA hB hl hm
 generalize hF:decide (l.map Rv.rw=m.map Rv.rw)=F
 by_cases hlm:l.length=m.length
 ·have H0:Hid (F=decide ((l.drop 0).map Rv.rw=(m.drop 0).map Rv.rw)):=hF.symm
  clear hF;go_enter func155,ntmps155;have hnm:(((l.length:Nat):Int) != ((m.length:Nat):Int))=false:=by rw[hlm];simp
  have xB:=ah hlm;clear hlm;go_wp2_with fail;go_loopg [17] l.length (fun gk ki wr=>∃k:Nat,k≤l.length∧l.length - k≤gk∧ki=.int .i64 (k:Int)∧Hid (F=decide ((l.drop k).map Rv.rw=(m.drop k).map Rv.rw))∧Hid (Below w.heap.size w wr))
  case atStart=>exact⟨0,aW _,by omega,rfl,H0,b0⟩
  case round=>
   obtain⟨k,hk,hgk,rfl,HD,jd⟩:=hrel;by_cases hlt:k<l.length
   ·have hlt2:k<m.length:=by have:=xB.out;omega
    obtain⟨b,off,rfl,hbl,c0,c1⟩:=(HA.out.below jd.out).row hlt;obtain⟨b',off',rfl,sZ,e0,e1⟩:=(HB.out.below jd.out).row hlt2;have hm:=HD.out;rw[bI hlt,bI hlt2,amw]at hm;have HD2:=ah hm;have hlk:=HL.out _ (aS hlt);have hmk:=HM.out _ (aS hlt2);generalize l[k]=x at *;generalize m[k]=y at *;obtain⟨xd,xA,xc,xn⟩:=x;obtain⟨yd,yA,yc,yn⟩:=y;simp only at c0 c1 e0 e1;have HR:=ah (fun z (hz:Below w.heap.size w z)=>al5 xA yA xc yc xd yd xn yn z (hlk.1.2.rd.below hz) (hmk.2.rd.below hz) hlk.2);clear hm hlk hmk HD H0;generalize xd.length=xl at *;generalize yd.length=yl at *;go_wp2_with fail;refine(HR.out _ (ba (ba jd.out _) _)).mono ?_;rintro e w1 ⟨rfl,hb1⟩;have HB1:=ah (bb (ba (ba jd.out _) _) hb1);clear hb1 HR;by_cases hs:xd=yd∧xn=yn
    ·have hd1:=HD2.out
     rw[bH hs,Bool.true_and]at hd1;have HD3:=ah hd1;rw[bH hs];clear hd1 HD2 hs;go_wp2_with fail;go_roundg (l.length - (k+1))
     case measure=>omega
     case rel=>exact⟨k+1,by omega,au _,by go_num,HD3.out,HB1.out⟩
    have hd1:=HD2.out;rw[aO hs,Bool.false_and]at hd1;rw[aO hs];subst hd1;clear HD2 hs;go_wp2_with fail;go_ret;exact⟨rfl,HB1.out⟩
   obtain rfl:k=l.length:=(by omega);have hT:F=true:=by
    rw[HD.out,List.drop_eq_nil_of_le (au _),List.drop_eq_nil_of_le (by have:=xB.out;omega)];rfl
   have qI:=jd;clear HD jd H0;subst hT;go_wp2_with fail;go_ret;exact⟨rfl,qI.out⟩
 ·have hT:F=false:=by
   rw[← hF,bV];intro h;have:=congrArg List.length h;rw[aY,aY]at this;exact hlm this
  subst hT;have hnm:(((l.length:Nat):Int) != ((m.length:Nat):Int))=true:=by simp;omega
  clear hF hlm;go_enter func155,ntmps155;go_wp2_with fail;go_ret;exact⟨rfl,b0⟩
theorem ang(m:List Rw)(va vb:Value)(l:List Rw)(I:Nat→Prop)(w:World)(ha:vF w I va l)(hb:vF w I vb m)(hl:∀r∈l,r.1.length≤9223372036854775807)(hll:l.length≤9223372036854775807) :
 Calls prog 102 #[va,vb] w (aj w (.bool (decide (l=m)))):=by
 obtain⟨x,A,c,rfl,rfl,h3,h4,h5⟩:=ha
 obtain⟨y,B,c',rfl,rfl,k3,k4,k5⟩:=hb
 have HT:=ah (anb A B c c' x y I w h3 k3 (fun r hr=>⟨h4 r hr,hl _ (List.mem_map_of_mem hr)⟩) k4 (by rw[aY]at hll;exact hll))
 clear h3 h4 h5 k3 k4 k5 hl hll
 generalize decide (x.map Rv.rw=y.map Rv.rw)=F at *
 generalize x.length=xl at *
 generalize y.length=yl at *
 go_enter func102,ntmps102
 go_wp2_with fail
 refine HT.out.mono ?_
 rintro e w1 ⟨rfl,hb1⟩
 go_wp2_with fail
 go_ret
 exact⟨rfl,hb1⟩
theorem Np{d:List fD}(h:vH d=true):d.length≤40∧∀e∈d,e.1.length+e.2.length≤600:=by
 unfold vH at h;rw[bT]at h;exact⟨of_decide_eq_true h.2,fun e he=>of_decide_eq_true (List.all_eq_true.1 h.1 e he)⟩
def DN(r:Rv):Prop:=r.d.length≤18∧vH r.d=true
theorem ag7(A:Option Addr)(c:Nat)(l:List Rv)(I:Nat→Prop)(w:World)(hT:Tabs w)(hA:Rd w A (gZ l))(hl:∀r∈l,gJ w I r∧lg r.d∧r.d.length≤9223372036854775807)(hll:l.length≤9223372036854775807) :
 Calls prog 32 #[.slice A l.length c] w fun e w'=>(∃F:Bool,e=.returned (.bool F)∧(F=true→(∀r∈l,DN r)∧l.length≤300))∧Below w.heap.size w w':=by
 have HA:=ah hA
 have HL:=ah hl
 have HT:=ah hT
 have H0:Hid (∀i (h:i<l.length),i<0→DN l[i]):=fun i _ h=>aJ h (by omega)
 clear hA hl hT
 go_enter func32,ntmps32
 go_wp2_with fail
 go_loopg [7] l.length (fun gk ki wr=>∃k:Nat,k≤l.length∧l.length - k≤gk∧ki=.int .i64 (k:Int)∧Hid (∀i (h:i<l.length),i<k→DN l[i])∧Hid (Below w.heap.size w wr))
 case atStart=>exact⟨0,aW _,by omega,rfl,H0,b0⟩
 case round=>
  obtain⟨k,hk,hgk,rfl,HF,jd⟩:=hrel;by_cases hlt:k<l.length
  ·obtain⟨b,off,rfl,hbl,c0,c1⟩:=(HA.out.below jd.out).row hlt
   have hlk:=HL.out _ (aS hlt);have kP:Hid (DN l[k]→∀i (h:i<l.length),i<k+1→DN l[i]):=fun h i hi hik=>by
    rcases Nat.lt_or_ge i k with h2|h2
    ·exact HF.out i hi h2
    obtain rfl:i=k:=(by omega);exact h
   generalize l[k]=x at *;obtain⟨xd,xA,xc,xn⟩:=x;simp only at c0 c1;have oM:=ah (fun z (hz:Below w.heap.size w z)=>ZK xA xc xd z (hlk.1.2.rd.below hz) hlk.2.1 hlk.2.2);have jq:=ah hlk.1.2.rd;clear hlk HF H0;by_cases h18:18<xd.length
   ·have ahH:(18:Int)<(xd.length:Int):=by omega
    clear oM jq kP;go_wp2_with fail;go_ret;exact⟨⟨false,rfl,fun h=>by cases h⟩,ba jd.out _⟩
   have ahH:¬(18:Int)<(xd.length:Int):=(by omega);have HK:Hid (vH xd=true→∀z,Below w.heap.size w z→Calls prog 76 #[.slice xA xd.length xc] z (aj z (.string (txt (eG xd))))):=fun h z hz=>
    zf xA xc xd z (jq.out.below hz) ⟨by have:=(Np h).1;omega,fun e he=>by have:=(Np h).2 e he;omega⟩
   have iq:Hid (vH xd=true→∀i (h:i<l.length),i<k+1→DN l[i]):=fun h=>kP.out ⟨by show xd.length≤18;omega,h⟩;have hm:=dU.made wr 134 #[.slice xA xd.length xc,.int .u64 (xn:Int)];have HM:=ah hm;clear kP jq hm h18;generalize vH xd=F at *;generalize xd.length=xl at *;go_wp2_with fail;refine(oM.out _ (ba jd.out _)).mono ?_;rintro e w1 ⟨rfl,hb1⟩;have HB1:=ah (bb (ba jd.out _) hb1);have gQ:=ah (HM.out.below hb1 HM.out.lt);clear hb1 oM HM;cases F with
   |false=>
     clear HK iq gQ;go_wp2_with fail;go_ret;exact⟨⟨false,rfl,fun h=>by cases h⟩,HB1.out⟩
   |true=>
     have uo:=ah (HK.out rfl);have xE:=ah (iq.out rfl);have m0:=gQ.out.cell 0;clear HK iq;by_cases h40:40<l.length
     ·have ahM:(40:Int)<(l.length:Int):=by omega
      clear h40;go_wp2_with fail;refine(uo.out _ HB1.out).mono ?_;rintro e w2 ⟨rfl,hb2⟩;have HB2:=ah (bb HB1.out hb2);clear hb2 uo;generalize txt (eG xd)=KY at *;by_cases aof:100<KY.size
      ·have ahG:(100:Int)<(KY.size:Int):=by omega
       go_wp2_with fail;go_ret;exact⟨⟨false,rfl,fun h=>by cases h⟩,HB2.out⟩
      have ahG:¬(100:Int)<(KY.size:Int):=(by omega);go_wp2_with fail;go_roundg (l.length - (k+1))
      case measure=>omega
      case rel=>exact⟨k+1,by omega,au _,by go_num,xE,HB2⟩
     have ahM:¬(40:Int)<(l.length:Int):=(by omega);clear h40;go_wp2_with fail;go_roundg (l.length - (k+1))
     case measure=>omega
     case rel=>exact⟨k+1,by omega,au _,by go_num,xE,HB1⟩
  ·obtain rfl:k=l.length:=by omega
   have HE:Hid (l.length≤300→(∀r∈l,DN r)∧l.length≤300):=fun h=>⟨fun r hr=>by
    obtain⟨i,hi,rfl⟩:=List.getElem_of_mem hr;exact HF.out i hi hi,h⟩
   have qI:=jd;clear HF jd H0;go_wp2_with fail;go_ret;exact⟨⟨_,rfl,fun h=>HE.out (by have:=of_decide_eq_true h;omega)⟩,qI.out⟩
