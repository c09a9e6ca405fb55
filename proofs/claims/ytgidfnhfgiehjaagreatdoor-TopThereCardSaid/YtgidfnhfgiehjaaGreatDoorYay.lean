/-
  Parts of the proof. Conditions: as each names.
-/
import Derived.Test.YtgidfnhfgiehjaaGreatDoorYau
import Derived.Test.YtgidfnhfgiehjaaGreatDoorYav
namespace Go.Proofs.YtgidfnhfgiehjaaGreatDoor
open Go.PM Go.RowKit Go.Proofs.Tryz
set_option maxRecDepth 100000
set_option maxHeartbeats 4000000
attribute [local go_sem ↓] Go.wp_at_zero Go.wp_at_succ
theorem Sv{k v:List UInt8}(h:dV k v=0):k.length≤64∧v.length≤256:=by
 unfold dV at h;by_cases h1:jJ k 1 64≠0
 ·rw[aA h1]at h;exact aJ h h1
 rw[ay h1]at h;unfold jJ at h h1;constructor
 ·by_cases h2:(k.length:Int)<1∨(64:Int)<k.length
  ·rw[aA h2]at h1;exact aJ (by decide) h1
  omega
 by_cases h2:(v.length:Int)<0∨(256:Int)<v.length
 ·rw[aA h2]at h;exact aJ h (by decide)
 omega
theorem uH{d:List fD}(h:iZ dV d=0):um d∧d.length≤16∧d≠[]:=by
 unfold iZ at h;split at h
 ·rename_i k;exact aJ h k
 rename_i k;have hl:d.length≤16∧d≠[]:=by
  unfold kR at k;by_cases h0:d.length=0
  ·rw[aA h0]at k;exact aJ (by decide) k
  by_cases h1:16<d.length
  ·rw[ay h0,aA h1]at k;exact aJ (by decide) k
  exact⟨by omega,fun e=>h0 (by rw[e];rfl)⟩
 have ha:=(Jk d).1 (Jl h);exact⟨⟨by omega,fun e he=>by have:=Sv (ha e he);omega⟩,hl⟩
theorem ac2(r:Rv)(I:Nat→Prop)(w:World)(h:gJ w I r)(hz:lg r.d)(hl:r.d.length≤9223372036854775807)(hT:Tabs w) :
 Calls prog 184 #[.agg #[.slice r.A r.d.length r.c,.int .u64 (r.n:Int)]] w (aj w (.int .i64 (kJ dV r.rw))):=by
 have hb0:=ba (a:=w) b0 (.cells #[.slice r.A r.d.length r.c,.int .u64 (r.n:Int)] 134)
 have HC:=ah (Y4 r.A r.c r.d _ (h.2.rd.below hb0) hz hl (hT.below hb0))
 have HX:=ah (dU.made w 134 #[.slice r.A r.d.length r.c,.int .u64 (r.n:Int)])
 have HB:=ah hb0
 unfold kJ Rv.rw
 simp only
 clear h hz hT hb0
 obtain⟨d,A,c,n⟩:=r
 simp only at *
 generalize iZ dV d=E at *
 by_cases hE:E=0
 ·subst hE
  rw[ay (by simp)];by_cases hn:n=0
  ·subst hn
   rw[aA rfl];go_enter func184,ntmps184;go_wp2_with fail;refine HC.out.mono ?_;rintro e w1 ⟨rfl,hb1⟩;have c1:=(HX.out.below hb1 HX.out.lt).cell 1;simp at c1;have HB1:=ah (bb HB.out hb1);clear hb1 HC;go_wp2_with fail;go_ret;exact⟨rfl,HB1.out⟩
  rw[ay hn];have hni:((n:Int)==0)=false:=by rw[aB];omega
  clear hn;go_enter func184,ntmps184;go_wp2_with fail;refine HC.out.mono ?_;rintro e w1 ⟨rfl,hb1⟩;have c1:=(HX.out.below hb1 HX.out.lt).cell 1;simp at c1;have HB1:=ah (bb HB.out hb1);clear hb1 HC;go_wp2_with fail;go_ret;exact⟨rfl,HB1.out⟩
 ·rw[aA hE]
  have hEi:(E != 0)=true:=by rw[aZ];exact hE
  clear hE;go_enter func184,ntmps184;go_wp2_with fail;refine HC.out.mono ?_;rintro e w1 ⟨rfl,hb1⟩;have HB1:=ah (bb HB.out hb1);clear hb1 HC;go_wp2_with fail;go_ret;exact⟨rfl,HB1.out⟩
def pkt(l:List Rv)(k:Nat):Option (List UInt8):=if k=0 then none else(l[k - 1]?).map fun r=>eG r.d
theorem Pg(l:List Rv):pkt l 0=none:=rfl
theorem Kw(l:List Rv)(k:Nat)(h:k<l.length):pkt l (k+1)=some (eG l[k].d):=by
 unfold pkt;rw[ay (by omega),Nat.add_sub_cancel,aP h];rfl
theorem V6(A:Option Addr)(c:Nat)(l:List Rv)(I:Nat→Prop)(w:World)(hr:Rd w A (gZ l))(ho:∀r∈l,gJ w I r)(hz:∀r∈l,lg r.d∧r.d.length≤9223372036854775807)(hl:l.length≤9223372036854775807)(hT:Tabs w) :
 Calls prog 145 #[.slice A l.length c] w (aj w (.int .i64 (jv dV (l.map Rv.rw)))):=by
 have HR:=ah hr
 have HO:=ah ho
 have HZ:=ah hz
 have HT:=ah hT
 clear hr ho hz hT
 by_cases h256:256<l.length
 ·have uM:(256:Int)<(l.length:Int):=by omega
  unfold jv;rw[aY,aA h256];go_enter func145,ntmps145;go_wp2_with fail;go_ret;exact⟨rfl,b0⟩
 ·have uM:¬(256:Int)<(l.length:Int):=by omega
  unfold jv;rw[aY,ay h256];have H0:Hid (kW dV none (l.map Rv.rw)=kW dV (pkt l 0) ((l.drop 0).map Rv.rw)):=rfl;generalize kW dV none (l.map Rv.rw)=F at H0⊢;go_enter func145,ntmps145;go_wp2_with fail;go_loopg [3,13] l.length (fun gk av ki wr=>∃(k:Nat) (K:List UInt8),k≤l.length∧l.length - k≤gk∧ki=.int .i64 (k:Int)∧av=.string (txt K)∧(k≠0→pkt l k=some K)∧Hid (F=kW dV (pkt l k) ((l.drop k).map Rv.rw))∧Below w.heap.size w wr)
  case atStart=>exact⟨0,[],aW _,by omega,rfl,rfl,fun h=>aJ rfl h,H0,b0⟩
  case round=>
   obtain⟨k,K,hk,hgk,rfl,rfl,hK,HF,hbel⟩:=hrel;by_cases hlt:k<l.length
   ·obtain⟨b,off,hA,hbl,c0,c1⟩:=(HR.out.below hbel).row hlt
    have hf:=HF.out;rw[bI hlt,dK,kW]at hf;have hps:=Kw l k hlt;have hro:=(HO.out _ (aS hlt)).below hbel;obtain⟨hz0,hz1⟩:=HZ.out _ (aS hlt);generalize l[k]=r at *;have eU:=ba (a:=wr) b0 (.cells #[.slice r.A r.d.length r.c,.int .u64 (r.n:Int)] 134);have HB:=ah (bb hbel eU);have HX:=ah (dU.made wr 134 #[.slice r.A r.d.length r.c,.int .u64 (r.n:Int)]);have qX:=ah (hro.below eU);have jw:=ah (ac2 r I _ (hro.below eU) hz0 hz1 (HT.out.below (bb hbel eU)));obtain⟨E,zX⟩:∃E,E=kJ dV r.rw:=⟨_,rfl⟩;have JQ:E=0→um r.d:=fun h=>by
     rw[zX]at h;unfold kJ at h;split at h
     ·rename_i q;exact aJ h q
     rename_i q;exact(uH (by unfold Rv.rw at q;simp only at q;omega)).1
    change F=if kJ dV r.rw≠0 then kJ dV r.rw else if nV (pkt l k) (eG r.d)≠0 then nV (pkt l k) (eG r.d)else kW dV (some (eG r.d)) ((l.drop (k+1)).map Rv.rw)at hf
    rw[← zX]at hf jw;rw[← hps]at hf;have jT:=ah hf;have HKK:=ah hK;have XQ:=ah hps;have rM:=ah JQ;clear hf hps hro eU hbel HF H0 hz0 hz1 zX hK JQ;subst hA;by_cases hE:E=0
    ·have qp:Hid (∀x,Below (wr.alloc (.cells #[.slice r.A r.d.length r.c,.int .u64 (r.n:Int)] 134)).heap.size (wr.alloc (.cells #[.slice r.A r.d.length r.c,.int .u64 (r.n:Int)] 134)) x→Calls prog 76 #[.slice r.A r.d.length r.c] x (aj x (.string (txt (eG r.d))))):=fun x hx=>zf r.A r.c r.d x (qX.out.2.rd.below hx) (rM.out hE)
     subst hE;have hf:=jT.out;rw[ay (by simp)]at hf;have HF2:=ah hf;clear hf jT rM;go_wp2_with fail;refine jw.out.mono ?_;rintro e w2 ⟨rfl,hb2⟩;have AX:=ah (qp.out _ hb2);have HB2:=ah (bb HB.out hb2);have c0':=(HX.out.below hb2 HX.out.lt).cell 0;simp at c0';clear hb2 jw qp c0 c1;by_cases hk0:k=0
     ·have hki:decide ((0:Int)<(k:Int))=false:=aO (by omega)
      have hkn:decide (0<k)=false:=aO (by omega);have HN:Hid (F=kW dV (pkt l (k+1)) ((l.drop (k+1)).map Rv.rw)):=by
       show _=_;rw[HF2.out,hk0,Pg];exact ay (by simp[nV])
      clear HF2 hk0;go_wp2_with fail;refine AX.out.mono ?_;rintro e w3 ⟨rfl,hb3⟩;have HB3:=ah (bb HB2.out hb3);clear hb3 AX;go_wp2_with fail;go_roundg (l.length - (k+1))
      case measure=>omega
      case rel=>exact⟨k+1,eG r.d,by omega,au _,by go_num,rfl,fun _=>XQ.out,HN,HB3.out⟩
     have hki:decide ((0:Int)<(k:Int))=true:=bH (by omega);have hkn:decide (0<k)=true:=bH (by omega);have hf:=HF2.out;rw[HKK.out hk0]at hf;change F=if nI K (eG r.d)≠0 then nI K (eG r.d)else kW dV (pkt l (k+1)) ((l.drop (k+1)).map Rv.rw)at hf
     unfold nI at hf;have hls:=OT (eG r.d) K;have Ut:Op.bytesLess (txt (eG r.d)).toList (txt K).toList=decide (Lib.compareBytes (eG r.d) K<0):=(by rw[ByteArray.toList_eq,ByteArray.toList_eq,iD,iD];exact hls);clear hls HF2 HKK hk0;by_cases h1:eG r.d=K
     ·have hs1:((txt (eG r.d)).toList==(txt K).toList)=true:=VU (by rw[h1])
      rw[aA h1,aA (by decide)]at hf;subst hf;clear h1 Ut;go_wp2_with fail;refine AX.out.mono ?_;rintro e w3 ⟨rfl,hb3⟩;have HB3:=ah (bb HB2.out hb3);clear hb3 AX;go_wp2_with fail;go_ret;exact⟨rfl,HB3.out⟩
     have hs1:((txt (eG r.d)).toList==(txt K).toList)=false:=VT fun e=>h1 (KJ.1 e);rw[ay h1]at hf;by_cases h2:Lib.compareBytes (eG r.d) K<0
     ·rw[bH h2]at Ut
      rw[aA h2,aA (by decide)]at hf;subst hf;clear h1 h2;go_wp2_with fail;refine AX.out.mono ?_;rintro e w3 ⟨rfl,hb3⟩;have HB3:=ah (bb HB2.out hb3);clear hb3 AX;go_wp2_with fail;go_ret;exact⟨rfl,HB3.out⟩
     rw[aO h2]at Ut;rw[ay h2,ay (by simp)]at hf;have HN:=ah hf;clear h1 h2 hf;go_wp2_with fail;refine AX.out.mono ?_;rintro e w3 ⟨rfl,hb3⟩;have HB3:=ah (bb HB2.out hb3);clear hb3 AX;go_wp2_with fail;go_roundg (l.length - (k+1))
     case measure=>omega
     case rel=>exact⟨k+1,eG r.d,by omega,au _,by go_num,rfl,fun _=>XQ.out,HN,HB3.out⟩
    have hf:=jT.out;rw[aA hE]at hf;have hEi:(E != 0)=true:=(by rw[aZ];exact hE);subst hf;clear jT hE rM;go_wp2_with fail;refine jw.out.mono ?_;rintro e w2 ⟨rfl,hb2⟩;have HB2:=ah (bb HB.out hb2);clear hb2 jw;go_wp2_with fail;go_ret;exact⟨rfl,HB2.out⟩
   obtain rfl:k=l.length:=(by omega);have hf:=HF.out;rw[dF (au _),List.map_nil,kW]at hf;subst hf;have HB:=ah hbel;clear hbel HF H0 hK;go_wp2_with fail;go_ret;exact⟨rfl,HB.out⟩
def Bl(w:World)(b:Nat)(s:ByteArray)(k:Nat)(key:List UInt8)(e:Ending)(w':World):Prop :=
 ∃(k':Nat) (A:Option Addr) (c:Nat),e=.returned (.tuple #[.agg #[.slice A (jY dV key (s.data.toList.drop k)).1.1.length c,.int .u64 ((jY dV key (s.data.toList.drop k)).1.2:Int)],.int .i64 (jY dV key (s.data.toList.drop k)).2.2])∧
  gJ w' (w.heap.size≤·) ⟨(jY dV key (s.data.toList.drop k)).1.1,A,c,(jY dV key (s.data.toList.drop k)).1.2⟩∧fG w' b s k'∧((jY dV key (s.data.toList.drop k)).2.2=0→k'=k+(jY dV key (s.data.toList.drop k)).2.1)∧w.grownBy w' (some b)
theorem ala(b:Nat)(s:ByteArray)(k:Nat)(key:ByteArray)(w:World)(hT:Tabs w)(h:fG w b s k)(hk:key.size≤9223372036854775807) :
 Calls prog 219 #[.pointer (some ⟨b,0,none⟩),.string key] w (Bl w b s k key.data.toList):=by
 have hbl:=h.1.lt
 have hb0:=ba (a:=w) b0 (.cells #[.slice none 0 0,.int .u64 0] 134)
 have HX:=ah (dU.made w 134 #[.slice none 0 0,.int .u64 0])
 have HP:=ah (Zy key _ (hT.below hb0) hk)
 unfold CJ at HP
 have HC:=ah h
 have HB:=ah hb0
 obtain⟨X,hX⟩:∃X,X=jY dV key.data.toList (s.data.toList.drop k):=⟨_,rfl⟩
 have gB:Hid (∀(k':Nat) (A:Option Addr) (c:Nat) (w2 w':World),gJ w2 (w.heap.size<·) ⟨X.1.1,A,c,X.1.2⟩→fG w2 b s k'→(X.2.2=0→k'=k+X.2.1)→w.grownBy w2 (some b)→dX (fun j=>j=w.heap.size) w2 w'→
  Bl w b s k key.data.toList (.returned (.tuple #[.agg #[.slice A X.1.1.length c,.int .u64 (X.1.2:Int)],.int .i64 X.2.2])) w'):=fun k' A c w2 w' h1 h2 h3 h4 h5=>by
  unfold Bl
  rw[← hX]
  exact⟨k',A,c,rfl,(h1.fE h5 fun q hq e=>by omega).imp fun q _ hq=>by omega,⟨h2.1.fE h5 (by omega),h2.2⟩,h3,adt h4 (au _) h5⟩
 unfold jY at hX
 have HV:Hid (∀x,fG x b s k→Calls prog 174 #[.pointer (some ⟨b,0,none⟩)] x fun e w'=>e=.returned (.tuple #[.int .u64 ((dQ (s.data.toList.drop k)).1:Int),.int .i64 ((dQ (s.data.toList.drop k)).2.2:Int)])∧fG w' b s (k+(dQ (s.data.toList.drop k)).2.1)∧x.grownBy w' (some b)):=fun x hx=>next_any b s k x hx
 clear hb0 hT h
 generalize mM dV key.data.toList=D at *
 generalize dQ (s.data.toList.drop k)=V at *
 obtain⟨d,E⟩:=D
 obtain⟨n,m,G⟩:=V
 simp only at HP hX HV
 go_enter func219,ntmps219
 go_wp2_with fail
 refine HP.out.mono ?_
 rintro e w1 ⟨v,rfl,⟨A,c,rfl,hrd,hdc,hfr⟩,hb1⟩
 have HB1:=ah (bb HB.out hb1)
 have lW:=ah (HX.out.below hb1 HX.out.lt)
 have XV:Hid (pG w1 (w.heap.size<·) A d):=hrd.zi fun b' off e=>by have:=hfr b' off e;rw[World.size_alloc]at this;exact this
 have gK:Hid (fG w1 b s k):=⟨HC.out.1.below HB1.out HC.out.1.lt,HC.out.2⟩
 clear hrd hfr hb1 HP HX HB HC
 by_cases hE:E=0
 ·subst hE
  rw[ay (by simp)]at hX;go_wp2_with fail;refine(HV.out w1 gK.out).mono ?_;rintro e w2 ⟨rfl,hc2,hg2⟩;have qX:Hid (gJ w2 (w.heap.size<·) ⟨d,A,c,n⟩):=⟨hdc,XV.out.fE (S:=fun q=>q=b) (dX.grown hg2 fun g hg _=>by injection hg with hg;exact hg.symm) fun q hq e=>by omega⟩;have HG2:=ah (jB (oH HB1.out (some b)) hg2 fun x e _=>e);have hx2:=lW.out.step hg2 (by intro e;injection e with e;omega);have HC2:=ah hc2;clear hc2 hg2 lW XV gK HV;by_cases hG:G=0
  ·subst hG
   rw[ay (by simp)]at hX;by_cases hn:n=0
   ·subst hn
    rw[aA rfl]at hX;have HE:Hid (∀w',dX (fun j=>j=w.heap.size) w2 w'→Bl w b s k key.data.toList (.returned (.tuple #[.agg #[.slice none 0 0,.int .u64 0],.int .i64 17])) w'):=fun w' ht=>by
     have:=gB.out _ none 0 w2 w' (by rw[hX];exact⟨au _,.inl rfl⟩) HC2.out (fun h=>by rw[hX]at h;exact aJ h (by decide)) HG2.out ht;rw[hX]at this;exact this
    clear hX gB;have c0:=hx2.cell 0;have c1:=hx2.cell 1;have f0:=hx2.free 0;have f1:=hx2.free 1;simp at c0 c1;have pO:=hx2.lt;clear hx2;go_wp2_with fail;refine bodyPost_ret (v:=.tuple #[.agg #[.slice none 0 0,.int .u64 0],.int .i64 17]) (by simp[results,results219,go_sem,c0,c1];try rfl) rfl (HE.out _ (zk _ _ _ _))
   rw[ay hn]at hX;have hni:((n:Int)==0)=false:=(by rw[aB];omega);have HE:Hid (∀w',dX (fun j=>j=w.heap.size) w2 w'→Bl w b s k key.data.toList (.returned (.tuple #[.agg #[.slice A d.length c,.int .u64 (n:Int)],.int .i64 0])) w'):=fun w' ht=>by
    have:=gB.out _ A c w2 w' (by rw[hX];exact qX.out) HC2.out (fun _=>by rw[hX]) HG2.out ht;rw[hX]at this;exact this
   clear hX gB hn;have c0:=hx2.cell 0;have c1:=hx2.cell 1;have f0:=hx2.free 0;have f1:=hx2.free 1;simp at c0 c1;have pO:=hx2.lt;clear hx2;go_wp2_with fail;refine bodyPost_ret (v:=.tuple #[.agg #[.slice A d.length c,.int .u64 (n:Int)],.int .i64 0]) (by simp[results,results219,go_sem,c0,c1];try rfl) rfl (HE.out _ (zk _ _ _ _))
  rw[aA hG]at hX;have hGi:(((G:Nat):Int) != 0)=true:=by rw[aZ];omega
  have HE:Hid (∀w',dX (fun j=>j=w.heap.size) w2 w'→Bl w b s k key.data.toList (.returned (.tuple #[.agg #[.slice none 0 0,.int .u64 0],.int .i64 (G:Int)])) w'):=fun w' ht=>by
   have:=gB.out _ none 0 w2 w' (by rw[hX];exact⟨au _,.inl rfl⟩) HC2.out (fun h=>by rw[hX]at h;simp only at h;omega) HG2.out ht;rw[hX]at this;exact this
  clear hX gB hG;have c0:=hx2.cell 0;have c1:=hx2.cell 1;have f0:=hx2.free 0;have f1:=hx2.free 1;simp at c0 c1;have pO:=hx2.lt;clear hx2;go_wp2_with fail;refine bodyPost_ret (v:=.tuple #[.agg #[.slice none 0 0,.int .u64 0],.int .i64 (G:Int)]) (by simp[results,results219,go_sem,c0,c1];try rfl) rfl (HE.out _ (zk _ _ _ _))
 ·rw[aA hE]at hX
  have hEi:(E != 0)=true:=by rw[aZ];exact hE
  have HE:Hid (∀w',dX (fun j=>j=w.heap.size) w1 w'→Bl w b s k key.data.toList (.returned (.tuple #[.agg #[.slice none 0 0,.int .u64 0],.int .i64 E])) w'):=fun w' ht=>by
   have:=gB.out k none 0 w1 w' (by rw[hX];exact⟨au _,.inl rfl⟩) gK.out (fun h=>by rw[hX]at h;exact aJ h hE) (oH HB1.out (some b)) ht;rw[hX]at this;exact this
  have hx1:=lW.out;clear hX gB hE;have c0:=hx1.cell 0;have c1:=hx1.cell 1;have f0:=hx1.free 0;have f1:=hx1.free 1;simp at c0 c1;have pO:=hx1.lt;clear hx1;go_wp2_with fail;refine bodyPost_ret (v:=.tuple #[.agg #[.slice none 0 0,.int .u64 0],.int .i64 E]) (by simp[results,results219,go_sem,c0,c1];try rfl) rfl (HE.out _ (zk _ _ _ _))
def vW(L:List Rw)(a:Nat)(R:List Rw×Nat×Int):List Rw×Nat×Int:=if R.2.2≠0 then([],0,R.2.2)else(L++R.1,a+R.2.1,0)
theorem akz:∀(n:Nat) (o:Option (List UInt8)) (s:List UInt8),(jI dV n o s).2.2≠0→jI dV n o s=([],0,(jI dV n o s).2.2)
 |0,_,_,h=>aJ rfl h
 |n+1,o,s,h=>by
   rw[jI]at h⊢;split
   ·rfl
   split
   ·rfl
   split
   ·rfl
   rename_i h1 h2 h3;rw[ay h1,ay h2,ay h3]at h;exact aJ rfl h
theorem am8(n:Nat)(o:Option (List UInt8))(s:List UInt8):jI dV n o s=vW [] 0 (jI dV n o s):=by
 unfold vW
 by_cases h:(jI dV n o s).2.2≠0
 ·rw[aA h]
  exact akz n o s h
 rw[ay h,List.nil_append,aX];have h2:(jI dV n o s).2.2=0:=by omega
 rw[← h2]
theorem ads(L:List Rw)(a:Nat)(E:Int)(h:E≠0):vW L a ([],0,E)=([],0,E):=by
 unfold vW
 rw[aA h]
theorem am7(L:List Rw)(a:Nat):vW L a ([],0,0)=(L,a,0):=by
 unfold vW
 rw[ay (by simp),bQ,Nat.add_zero]
theorem am9(L M:List Rw)(a m:Nat)(R:List Rw×Nat×Int):vW L a (vW M m R)=vW (L++M) (a+m) R:=by
 unfold vW
 by_cases h:R.2.2≠0
 ·rw[aA h,aA h,aA h]
 rw[ay h,ay h,ay (by simp),bP,Nat.add_assoc]
theorem akA(n:Nat)(o:Option (List UInt8))(s:List UInt8)(P:List UInt8×Nat×Int)(R:Rw×Nat×Int)(hP:iM o s=P)(hR:jY dV P.1 (s.drop P.2.1)=R) :
 jI dV (n+1) o s=if P.2.2≠0 then([],0,P.2.2)else if R.2.2≠0 then([],0,R.2.2)else vW [R.1] (P.2.1+R.2.1) (jI dV n (some P.1) (s.drop (P.2.1+R.2.1))):=by
 rw[jI,hP,hR]
 rfl
def l7(B:Nat)(w:World)(v:Value)(t:List Rw):Prop:=∃(l:List Rv) (A:Option Addr) (c:Nat),v=.slice A l.length c∧t=l.map Rv.rw∧Rd w A (gZ l)∧(∀r∈l,gJ w (B≤·) r)∧l.length≤c∧∀b off,A=some ⟨b,off,none⟩→B≤b
theorem EU(B:Nat)(w:World):l7 B w (.slice none 0 0) []:=⟨[],none,0,rfl,rfl,.inl rfl,by simp,au _,fun _ _ e=>by cases e⟩
def zS(w:World)(b:Nat)(s:ByteArray)(k:Nat)(e:Ending)(w':World):Prop :=
 ∃(k':Nat) (v:Value),e=.returned (.tuple #[v,.int .i64 (oJ dV (s.data.toList.drop k)).2.2])∧l7 w.heap.size w' v (oJ dV (s.data.toList.drop k)).1∧fG w' b s k'∧((oJ dV (s.data.toList.drop k)).2.2=0→k'=k+(oJ dV (s.data.toList.drop k)).2.1)∧w.grownBy w' (some b)
def Rq(wM:World)(b:Nat)(s:ByteArray)(k1 n:Nat)(D:List Rw×Nat×Int)(i:Nat)(out av:Value)(wr:World):Prop :=
 ∃(l:List Rv) (a:Nat) (K:ByteArray),l.length=i∧wr.ownsRow wM.heap.size 134 2 out i (gZ l)∧(∀r∈l,gJ wr (fun q=>wM.heap.size≤q∧out.ownBlock≠some q) r)∧fG wr b s (k1+a)∧av=.string K∧K.size≤1000000∧
  D=vW (l.map Rv.rw) a (jI dV (n - i) (if i=0 then none else some K.data.toList) (s.data.toList.drop (k1+a)))∧wM.grownBy wr (some b)
theorem JY:(prog.info? 134).map (fun i=>(i.zero,i.size,i.bytes))=some (some Fb,2,32):=by kernel_rfl
theorem ak2(b:Nat)(s:ByteArray)(k:Nat)(a:ByteArray)(i:Nat)(w:World)(h:fG w b s k)(ha:a.size≤1000000)(hs:s.size≤1000000) :
 Calls prog 218 #[.pointer (some ⟨b,0,none⟩),.string a,.bool (decide (i=0))] w (qc w b s k (if i=0 then none else some a.data.toList)):=by
 by_cases hi:i=0
 ·rw[aA hi,bH hi]
  exact ak3 b s k a w h hs
 ·rw[ay hi,aO hi]
  exact ak4 b s k a w h ha hs
theorem ak5{o:Option (List UInt8)}{s:List UInt8}(ho:∀a,o=some a→a.length≤1000000)(hs:s.length≤1000000)(h:(iM o s).2.2=0):(iM o s).1.length≤2000000:=by
 unfold iM at *;have hA:(o.getD []).length≤1000000:=by
  cases o with
  |none=>simp
  |some a=>exact ho a rfl
 split
 ·simp
 split
 ·simp
 split
 ·simp
 split
 ·simp
 split
 ·simp
 split
 ·simp
 simp only[aC,bD,aN];omega
theorem akD{key s:List UInt8}(h:(jY dV key s).2.2=0):key.length≤1000000:=by
 obtain⟨_,h2,_,h4,_⟩:=Vw (chk:=dV) h;have hd:iZ dV (jY dV key s).1.1=0:=by
  unfold kJ at h4;by_cases hd:iZ dV (jY dV key s).1.1≠0
  ·rw[aA hd]at h4;exact aJ h4 hd
  omega
 obtain⟨h5,h6,_⟩:=uH hd;rw[← h2];have ha:∀e∈(jY dV key s).1.1,e.1.length≤64∧e.2.length≤256:=by
  unfold iZ at hd;split at hd
  ·rename_i q;exact aJ hd q
  exact fun e he=>Sv ((Jk _).1 (Jl hd) e he)
 have hl:∀d:List fD,(∀e∈d,e.1.length≤64∧e.2.length≤256)→(iR d).length≤d.length*400:=by
  intro d;induction d with
  |nil=>intro _;simp[iR]
  |cons e r ih=>
    intro hh;have h1:=hh e (by simp);have h2:=ih fun x hx=>hh x (by simp[hx]);have e1:iR (e::r)=jR e.1 e.2++iR r:=(by simp[iR]);have p1:fH e.1.length≤10:=iJ (by omega);have p2:fH e.2.length≤10:=iJ (by omega);rw[e1,aC,bK];unfold jR;simp only[aC,fO];omega
 have h7:=hl _ ha;have h8:fH (jY dV key s).1.1.length≤10:=iJ (by omega);unfold eG;rw[aC,fO];omega
theorem akB(W0:World)(hT:Tabs W0)(b:Nat)(s:ByteArray)(k:Nat)(w:World)(h0:Below W0.heap.size W0 w)(zZ:W0.heap.size≤b)(h:fG w b s k)(hs:s.size≤1000000) :
 Calls prog 180 #[.pointer (some ⟨b,0,none⟩)] w (zS w b s k):=by
 have hbl:=h.1.lt
 have HN:=ah (next_any b s k w h)
 have HT:=ah hT
 have H0:=ah h0
 obtain⟨i0,hi0,hz0,hz1,hz2⟩:=info_parts JY
 clear h h0 hT
 obtain⟨X,hX⟩:∃X,X=oJ dV (s.data.toList.drop k):=⟨_,rfl⟩
 have gB:Hid (∀(k':Nat) (v:Value) (w':World),l7 w.heap.size w' v X.1→fG w' b s k'→(X.2.2=0→k'=k+X.2.1)→w.grownBy w' (some b)→zS w b s k (.returned (.tuple #[v,.int .i64 X.2.2])) w'):=fun k' v w' h1 h2 h3 h4=>by
  unfold zS;rw[← hX];exact⟨k',v,rfl,h1,h2,h3,h4⟩
 unfold oJ at hX
 by_cases hv:(dQ (s.data.toList.drop k)).2.2=0
 ·rw[ay (by rw[hv];simp)]at hX
  obtain⟨v1,v2,v3,v4,v5⟩:=nZ hv;have iq:Hid (Calls prog 174 #[.pointer (some ⟨b,0,none⟩)] w fun e w'=>e=.returned (.tuple #[.int .u64 ((dQ (s.data.toList.drop k)).1:Int),.int .i64 0])∧fG w' b s (k+(dQ (s.data.toList.drop k)).2.1)∧w.grownBy w' (some b)):=by
   have:=HN.out;rw[hv]at this;exact this
  have hdd:∀m:Nat,((s.data.toList.drop k).drop m)=s.data.toList.drop (k+m):=fun m=>by rw[cZ]
  rw[hdd]at hX;have nM:(dQ (s.data.toList.drop k)).1<18446744073709551616:=by omega
  clear HN hv v5 v1 v2 v3 v4 hdd;generalize(dQ (s.data.toList.drop k)).1=n at *;generalize hmm:(dQ (s.data.toList.drop k)).2.1=m at *;clear hmm;by_cases hm:256<n
  ·rw[aA hm]at hX
   have GX:(256:Int)<(n:Int):=(by omega);have HE:Hid (∀k' w',fG w' b s k'→w.grownBy w' (some b)→zS w b s k (.returned (.tuple #[.slice none 0 0,.int .i64 13])) w'):=fun k' w' hc hg=>by
    have:=gB.out k' (.slice none 0 0) w' (by rw[hX];exact EU _ w') hc (fun h=>by rw[hX]at h;exact aJ h (by decide)) hg;rw[hX]at this;exact this
   clear hm hX gB;go_enter func180,ntmps180;go_wp2_with fail;refine iq.out.mono ?_;rintro e w1 ⟨rfl,hc1,hg1⟩;have CX:=ah (HE.out _ w1 hc1 hg1);clear hc1 hg1;go_wp2_with fail;go_ret2;exact CX.out
  rw[ay hm]at hX;have GX:¬(256:Int)<(n:Int):=by omega
  have hn16:n≤256:=by omega
  clear hm nM;generalize hD:jI dV n none (s.data.toList.drop (k+m))=D at hX;have xk:Hid (∀(L:List Rw) (a:Nat) (v:Value) (w':World),D=(L,a,0)→l7 w.heap.size w' v L→fG w' b s (k+m+a)→w.grownBy w' (some b)→zS w b s k (.returned (.tuple #[v,.int .i64 0])) w'):=fun L a v w' hd hs hc hg=>by
   rw[hd,ay (by simp)]at hX;have:=gB.out (k+m+a) v w' (by rw[hX];exact hs) hc (fun _=>by rw[hX];simp only;omega) hg;rw[hX]at this;exact this
  have CY:Hid (∀(E:Int) (k':Nat) (w':World),E≠0→D=([],0,E)→fG w' b s k'→w.grownBy w' (some b)→zS w b s k (.returned (.tuple #[.slice none 0 0,.int .i64 E])) w'):=fun E k' w' hE hd hc hg=>by
   rw[hd,aA hE]at hX;have:=gB.out k' (.slice none 0 0) w' (by rw[hX];exact EU _ w') hc (fun h=>by rw[hX]at h;exact aJ h hE) hg;rw[hX]at this;exact this
  clear hX gB;have HD:Hid (D=vW [] 0 (jI dV (n - 0) (if(0:Nat)=0 then none else some (ByteArray.mk #[]).data.toList) (s.data.toList.drop (k+m+0)))):=by
   show _=_;rw[← hD];exact am8 n none _
  clear hD;have wn:IntKind.i64.wrap (n:Int)=(n:Int):=by rw[IntKind.wrap_i64];omega
  go_enter func180,ntmps180;go_wp2_with fail;refine iq.out.mono ?_;rintro e w2 ⟨rfl,hc1,hg1⟩;have gK:=ah hc1;have iU:=ah hg1;clear hc1 hg1 iq;obtain⟨wM,hmk,hown,hgM⟩:=run_make_own (P:=prog) w2 w2.heap.size 26 134 i0 Fb 2 underlying26 hi0 hz0 hz1 .i64 .u64 n (by rw[hz2];omega) (by unfold maxLen;omega) (au _);have hbw2:b<w2.heap.size:=gK.out.1.lt;have hS0:Rq w2 b s (k+m) n D 0 (.slice (some ⟨w2.heap.size,0,none⟩) 0 n) (.string ⟨#[]⟩) wM :=
   ⟨[],0,⟨#[]⟩,rfl,hown,by simp,⟨gK.out.1.step hgM (by simp),gK.out.2⟩,rfl,aW _,HD.out,oH (below_of_grown hgM) _⟩
  have Dy:=ah hS0;clear hown hgM hS0 HD;go_wp2_with fail;clear hmk;go_loopg [6,7,26] n (fun gk out av vi wr=>∃i:Nat,i≤n∧n - i≤gk∧vi=.int .i64 (i:Int)∧Hid (Rq w2 b s (k+m) n D i out av wr))
  case atStart=>exact⟨0,aW _,by omega,rfl,Dy⟩
  case round=>
   obtain⟨i,hi,hgk,rfl,HS⟩:=hrel;obtain⟨l,a,K,uM,hown,hro,hcur,rfl,hKs,hd,hg⟩:=HS.out;have hbase:=(Bv (B:=W0.heap.size) iU.out zZ (H0.out.size));have Ei:Below W0.heap.size W0 wr:=(H0.out.trans hbase).trans (Bv hg zZ (aI H0.out.size iU.out.size));have hgw:w.grownBy wr (some b):=jB iU.out hg fun x e _=>e;obtain⟨A1,c1,hA1,hrd,hlc,hfr⟩:=Rd.own hown;by_cases hlt:i<n
   ·obtain⟨r,hr⟩:∃r,n - i=r+1:=⟨n - i - 1,by omega⟩
    obtain⟨o,ho⟩:∃o,o=if i=0 then none else some K.data.toList:=⟨_,rfl⟩
    have hol:∀a,o=some a→a.length≤1000000:=fun a ha=>by
     rw[ho]at ha;by_cases h0:i=0
     ·rw[aA h0]at ha;cases ha
     rw[ay h0]at ha;injection ha with ha;rw[← ha,fK];exact hKs
    have Bd:=ah (ak2 b s (k+m+a) K i wr hcur hKs hs);rw[← ho]at Bd hd;unfold qc at Bd;have hkl:=ak5 (s:=s.data.toList.drop (k+m+a)) hol (by rw[aN,fK];omega);obtain⟨P,hP⟩:∃P,iM o (s.data.toList.drop (k+m+a))=P:=⟨_,rfl⟩;obtain⟨R,hR⟩:∃R,jY dV P.1 (s.data.toList.drop (k+m+a+P.2.1))=R:=⟨_,rfl⟩;have hkey:=fun h=>akD (key:=P.1) (s:=s.data.toList.drop (k+m+a+P.2.1)) h;rw[hr,akA r o _ P R hP (by rw[cZ];exact hR),cZ]at hd;rw[hP]at Bd hkl;rw[hR]at hkey
    have HRW:Hid (∀x,Below W0.heap.size W0 x→fG x b s (k+m+a+P.2.1)→P.1.length≤2000000→Calls prog 219 #[.pointer (some ⟨b,0,none⟩),.string (txt P.1)] x fun e w'=>∃(k':Nat) (A:Option Addr) (c:Nat),e=.returned (.tuple #[.agg #[.slice A R.1.1.length c,.int .u64 (R.1.2:Int)],.int .i64 R.2.2])∧
     gJ w' (x.heap.size≤·) ⟨R.1.1,A,c,R.1.2⟩∧fG w' b s k'∧(R.2.2=0→k'=k+m+a+P.2.1+R.2.1)∧x.grownBy w' (some b)):=fun x hx hc hl=>by
     have:=ala b s (k+m+a+P.2.1) (txt P.1) x (HT.out.below hx) hc (by rw[gI];omega)
     unfold Bl at this
     rw[iD,hR]at this
     exact this
    clear hP hR ho;obtain⟨P0,q,E⟩:=P;obtain⟨⟨rd,rn⟩,q2,G⟩:=R;simp only at hd Bd HRW hkl hkey;subst hA1;have HD2:=ah hd;have HOWN:=ah hown;have qX:=ah hro;have HG:=ah hg;have Df:=ah hgw;have HW0:=ah Ei;have hdec:((i:Int)==0)=decide (i=0):=by
     by_cases h0:i=0
     ·rw[bH h0,h0];rfl
     rw[aO h0,aB];omega
    clear hd hown hrd hro hg hgw hcur Ei hbase HS Dy hfr hol;generalize decide (i=0)=fb at *;by_cases hE:E=0
    ·subst hE
     have hd:=HD2.out;have hkl2:=hkl rfl;rw[ay (by simp)]at hd;have HD3:=ah hd;clear hd HD2 hkl;go_wp2_with fail;refine Bd.out.mono ?_;rintro e w3 ⟨k3,rfl,hc3,hk3,hg3⟩;have Ul:k3=k+m+a+q:=hk3 trivial;subst Ul;have XT:=ah (HRW.out w3 (HW0.out.trans (Bv hg3 zZ HW0.out.size)) hc3 hkl2);have QI:=ah (Vs HOWN.out hg3 hbw2);have XZ:Hid (∀r∈l,gJ w3 (fun q=>w2.heap.size≤q∧(Value.slice A1 i c1).ownBlock≠some q) r):=fun r hr=>(qX.out r hr).fE (S:=fun g=>g=b) (dX.grown hg3 fun g hg _=>by injection hg with hg;exact hg.symm) fun g hg e=>(by omega);have jo:=ah (jB HG.out hg3 fun x e _=>e);have Xq:=ah (jB Df.out hg3 fun x e _=>e);clear hc3 hg3 hk3 Bd HRW HOWN qX HG Df HW0 hdec;go_wp2_with fail;refine XT.out.mono ?_;rintro e w4 ⟨k4,A4,c4,rfl,xY,hc4,hk4,hg4⟩
     have FP:=ah (Vs QI.out hg4 hbw2);have QM:Hid (∀r∈l,gJ w4 (fun q=>w2.heap.size≤q∧(Value.slice A1 i c1).ownBlock≠some q) r):=fun r hr=>(XZ.out r hr).fE (S:=fun g=>g=b) (dX.grown hg4 fun g hg _=>by injection hg with hg;exact hg.symm) fun g hg e=>(by omega);have rJ:=ah (jB jo.out hg4 fun x e _=>e);have Iq:=ah (jB Xq.out hg4 fun x e _=>e);have QO:Hid (gJ w4 (fun q=>w2.heap.size≤q∧(Value.slice A1 i c1).ownBlock≠some q) ⟨rd,A4,c4,rn⟩):=xY.imp fun g _ hg=>⟨aI jo.out.size hg,fun e=>by have:=(QI.out.lt g e).2;omega⟩;have pX:=ah hc4;have nT:=ah hk4;clear xY hc4 hk4 hg4 XT QI XZ jo Xq;by_cases hG:G=0
     ·subst hG
      have hd:=HD3.out;rw[ay (by simp),am9]at hd;have aij:=nT.out rfl;subst aij;have hkk:=hkey rfl;have eU:=ba (ba (a:=w4) b0 (.cells #[.slice A4 rd.length c4,.int .u64 (rn:Int)] 134)) (.cells #[.slice A4 rd.length c4,.int .u64 (rn:Int)] 134);have hy:=World.news_of_block (cs:=#[.slice A4 rd.length c4,.int .u64 (rn:Int)]) (t:=134) (fr:=(0,0)) (heap_alloc_new (w4.alloc (.cells #[.slice A4 rd.length c4,.int .u64 (rn:Int)] 134)) (.cells #[.slice A4 rd.length c4,.int .u64 (rn:Int)] 134));have Oo:Rd ((w4.alloc (.cells #[.slice A4 rd.length c4,.int .u64 (rn:Int)] 134)).alloc (.cells #[.slice A4 rd.length c4,.int .u64 (rn:Int)] 134)) (some ⟨(w4.alloc (.cells #[.slice A4 rd.length c4,.int .u64 (rn:Int)] 134)).heap.size,0,none⟩) (gZ [⟨rd,A4,c4,rn⟩]):=by
       refine .inr ⟨_,_,rfl,by simp,fun j u hj=>?_⟩;have:=hy j u hj
       rwa [rV,← aX j]at this
      have hown5:=own_below FP.out eU;have Ew:=eU.size;have aiw:=rJ.out.size;subst uM;obtain⟨A2,c2,w6,hrun,hown6,hgr,hat⟩:=VB 26 26 134 i0 underlying26 hi0 hz0 hz1 hz2 (d:=1) hown5 Oo (by omega) (by omega);have GN:∀g,(Value.slice A1 l.length c1).ownBlock=some g→w2.heap.size≤g:=fun g h=>(hown5.lt g h).1;have hgg:w2.grownBy w6 (some b):=by
       have h1:=jB rJ.out (oH eU (some b)) fun x e _=>e;exact jB h1 hgr fun x e hx=>by have:=GN x e;omega
      have hkeep:∀rv:Rv,gJ w4 (fun q=>w2.heap.size≤q∧(Value.slice A1 l.length c1).ownBlock≠some q) rv→gJ w6 (fun q=>w2.heap.size≤q∧(Value.slice A2 (l.length+1) c2).ownBlock≠some q) rv:=fun rv h=>by
       have h1:=h.imp (J:=fun q=>(w2.heap.size≤q∧(Value.slice A1 l.length c1).ownBlock≠some q)∧q<w4.heap.size) fun g hg hq=>⟨hq,hg⟩;have h2:=(h1.below eU).fE (S:=fun g=>(Value.slice A1 l.length c1).ownBlock=some g) (dX.grown hgr fun g hg _=>hg) fun g hg e=>hg.1.2 e;refine h2.imp fun g _ hg=>⟨hg.1.1,fun e=>?_⟩;rcases hat with hat|hat
       ·exact hg.1.2 (hat▸e)
       rw[hat]at e;injection e with e;have:=hg.2;omega
      have HN:Hid (Rq w2 b s (k+m) n D (l.length+1) (.slice A2 (l.length+1) c2) (.string (txt P0)) w6):=by
       refine⟨l++[⟨rd,A4,c4,rn⟩],a+(q+q2),txt P0,by simp,hown6,fun rv xY=>?_,?_,rfl,by rw[gI];exact hkk,?_,hgg⟩
       ·rcases bZ.1 xY with xY|xY
        ·exact hkeep rv (QM.out rv xY)
        simp only[List.mem_singleton]at xY;subst xY;exact hkeep _ QO.out
       ·have e1:k+m+(a+(q+q2))=k+m+a+q+q2:=by omega
        rw[e1];exact⟨(pX.out.1.below eU pX.out.1.lt).step hgr (fun e=>by have:=GN b e.symm;omega),pX.out.2⟩
       rw[hd,dB,ay (by omega),iD,show n - (l.length+1)=r by omega];rw[show k+m+(a+(q+q2))=k+m+a+(q+q2)by omega];rfl
      simp only[World.size_alloc]at hrun;have lC:=ah hrun;clear hd HD3 eU hy Oo hown5 hgr hat GN hgg hkeep hrun hown6 Ew FP QM rJ Iq QO pX nT;go_wp2_with(at_builtin;(refine wpList_append_run rfl _ _ _ _ rfl _ _ _ rfl rfl lC.out ?_));go_roundg (n - (l.length+1))
      case measure=>omega
      case rel=>exact⟨l.length+1,by omega,au _,by go_num,HN⟩
     have hd:=HD3.out;rw[aA hG,ads _ a G hG]at hd;have hGi:(G != 0)=true:=(by rw[aZ];exact hG);have HE:=ah (CY.out G k4 _ hG hd ⟨pX.out.1.more (.cells #[.slice A4 rd.length c4,.int .u64 (rn:Int)] 134),pX.out.2⟩ (Js Iq.out _));clear hd HD3 hG FP QM rJ Iq QO pX nT;go_wp2_with fail;go_ret2;exact HE.out
    have hEi:(E != 0)=true:=(by rw[aZ];exact hE);have hd:=HD2.out;rw[aA hE,ads _ a E hE]at hd;have HE:Hid (∀k' w',fG w' b s k'→w.grownBy w' (some b)→zS w b s k (.returned (.tuple #[.slice none 0 0,.int .i64 E])) w'):=fun k' w' hc hg=>CY.out E k' w' hE hd hc hg;clear hd HD2 hE;go_wp2_with fail;refine Bd.out.mono ?_;rintro e w3 ⟨k3,rfl,hc3,hk3,hg3⟩;have HE2:=ah (HE.out k3 _ hc3 (jB Df.out hg3 fun x e _=>e));clear hc3 hk3 hg3 Bd HE;go_wp2_with fail;go_ret2;exact HE2.out
   obtain rfl:i=n:=(by omega);rw[Nat.sub_self,jI,am7]at hd;subst hA1;have HE:=ah (xk.out (l.map Rv.rw) a (.slice A1 i c1) wr hd ⟨l,A1,c1,by rw[uM],rfl,hrd,fun rv xY=>(hro rv xY).imp fun g _ hg=>by have:=iU.out.size;have:=hg.1;omega,by rw[uM];exact hlc,fun b' off' e=>aI iU.out.size (hfr b' off' e).2⟩ hcur hgw);clear hd hown hrd hro hg hgw hcur Ei hbase HS Dy xk CY hfr uM;go_wp2_with fail;go_ret2;exact HE.out
 ·have Am:=PZ hv
  rw[aA hv]at hX;have xZ:(((dQ (s.data.toList.drop k)).2.2:Int) != 0)=true:=by rw[aZ];omega
  have HE:Hid (∀k' w',fG w' b s k'→w.grownBy w' (some b)→zS w b s k (.returned (.tuple #[.slice none 0 0,.int .i64 ((dQ (s.data.toList.drop k)).2.2:Int)])) w'):=fun k' w' hc hg=>by
   have:=gB.out k' (.slice none 0 0) w' (by rw[hX];exact EU _ w') hc (fun h=>by rw[hX]at h;simp only at h;omega) hg;rw[hX]at this;exact this
  generalize(dQ (s.data.toList.drop k)).2.2=G at *;clear Am hv hX gB;go_enter func180,ntmps180;go_wp2_with fail;refine HN.out.mono ?_;rintro e w1 ⟨rfl,hc1,hg1⟩;have CX:=ah (HE.out _ w1 hc1 hg1);clear hc1 hg1;go_wp2_with fail;go_ret2;exact CX.out
def DK(w:World)(s:ByteArray)(e:Ending)(w':World):Prop:=∃v,e=.returned (.tuple #[v,.int .i64 (lN dV s.data.toList).2])∧l7 w.heap.size w' v (lN dV s.data.toList).1∧Below w.heap.size w w'
theorem l7.below{B:Nat}{w w':World}{v:Value}{t:List Rw}(h:l7 B w v t)(hb:Below w.heap.size w w'):l7 B w' v t:=by
 obtain⟨l,A,c,h1,h2,h3,h4,h5,h6⟩:=h;exact⟨l,A,c,h1,h2,h3.below hb,fun r hr=>(h4 r hr).below hb,h5,h6⟩
theorem l7.mono{B C:Nat}{w:World}{v:Value}{t:List Rw}(h:l7 B w v t)(hb:C≤B):l7 C w v t:=by
 obtain⟨l,A,c,h1,h2,h3,h4,h5,h6⟩:=h;exact⟨l,A,c,h1,h2,h3,fun r hr=>(h4 r hr).imp fun g _ hg=>aI hb hg,h5,fun b off e=>aI hb (h6 b off e)⟩
theorem acG(s:ByteArray)(w:World)(hT:Tabs w)(hs:s.size≤1000000):Calls prog 143 #[.string s] w (DK w s):=by
 have hb1:=ba (a:=w) b0 (.cells #[.string s,.int .i64 0] 228);have HN:=ah (akB w hT w.heap.size s 0 (w.alloc (.cells #[.string s,.int .i64 0] 228)) hb1 (au _) ⟨dU.made w 228 #[.string s,.int .i64 0],aW _,by omega⟩ hs);unfold zS at HN;rw[dD]at HN;have HB1:=ah hb1;obtain⟨Z,hZ⟩:∃Z,Z=lN dV s.data.toList:=⟨_,rfl⟩;have gB:Hid (∀v w',l7 w.heap.size w' v Z.1→Below w.heap.size w w'→DK w s (.returned (.tuple #[v,.int .i64 Z.2])) w'):=fun v w' h1 h2=>by
  unfold DK;rw[← hZ];exact⟨v,rfl,h1,h2⟩
 unfold lN at hZ;rw[fK]at hZ;have hok:(oJ dV s.data.toList).2.2=0→(oJ dV s.data.toList).2.1≤s.size:=fun h=>by have:=(acL h).1;rwa [fK]at this
 clear hb1 hT;generalize oJ dV s.data.toList=X at *;obtain⟨L,m,E⟩:=X;simp only at HN hZ hok;go_enter func143,ntmps143;go_wp2_with fail;refine(Jj s w).mono ?_;rintro e w1 ⟨rfl,rfl⟩;by_cases hE:E=0
 ·subst hE
  rw[ay (by simp)]at hZ;have hm:=hok rfl;go_wp2_with fail;refine HN.out.mono ?_;rintro e w2 ⟨k',v,rfl,hsl,hc,hk,hg⟩;have hk2:k'=m:=by have:=hk trivial;omega
  subst hk2;have HB2:=ah (bg HB1.out hg (au _));have HSL:=ah hsl;have HL:=ah (D5 w.heap.size s k' w2 hc);clear hsl hc hk hg HN HB1 hok;obtain⟨l,A,c,hv,_,_,_,_,_⟩:=HSL.out;subst hv;by_cases hlt:k'<s.size
  ·rw[aA hlt]at hZ
   have HE:Hid (∀w',Below w.heap.size w w'→DK w s (.returned (.tuple #[.slice none 0 0,.int .i64 10])) w'):=fun w' hb=>by
    have:=gB.out (.slice none 0 0) w' (by rw[hZ];exact EU _ w') hb;rw[hZ]at this;exact this
   have hgt:(0:Int)<(s.size:Int) - (k':Int):=(by omega);clear hZ gB;go_wp2_with fail;refine HL.out.mono ?_;rintro e w3 ⟨rfl,hb3⟩;have HE2:=ah (HE.out _ (bb HB2.out hb3));clear hb3 HE;go_wp2_with fail;go_ret2;exact HE2.out
  rw[ay hlt]at hZ;have HE:Hid (∀w',Below w2.heap.size w2 w'→DK w s (.returned (.tuple #[.slice A l.length c,.int .i64 0])) w'):=fun w' hb=>by
   have:=gB.out (.slice A l.length c) w' (by rw[hZ];exact(HSL.out.below hb).mono (by rw[World.size_alloc];omega)) (bb HB2.out hb);rw[hZ]at this;exact this
  have hgt:¬(0:Int)<(s.size:Int) - (k':Int):=by omega
  clear hZ gB;go_wp2_with fail;refine HL.out.mono ?_;rintro e w3 ⟨rfl,hb3⟩;have HE2:=ah (HE.out _ hb3);clear hb3 HE;go_wp2_with fail;go_ret2;exact HE2.out
 rw[aA hE]at hZ;have hEi:(E != 0)=true:=by rw[aZ];exact hE
 have HE:Hid (∀w',Below w.heap.size w w'→DK w s (.returned (.tuple #[.slice none 0 0,.int .i64 E])) w'):=fun w' hb=>by
  have:=gB.out (.slice none 0 0) w' (by rw[hZ];exact EU _ w') hb;rw[hZ]at this;exact this
 clear hZ gB hE hok;go_wp2_with fail;refine HN.out.mono ?_;rintro e w2 ⟨k',v,rfl,hsl,hc,hk,hg⟩;have HB2:=ah (HE.out _ (bg HB1.out hg (au _)));obtain⟨l,A,c,hv,_,_,_,_,_⟩:=hsl;subst hv;clear hc hk hg HN HB1 HE;go_wp2_with fail;go_ret2;exact HB2.out
theorem ai4(R g n cap i j:Nat)(a b:ByteArray)(w:World)(hR:w.cell? ⟨R,0,none⟩=some (.slice (some ⟨g,0,none⟩) n cap))(hi:i<n)(hj:j<n)(ca:w.cell? ⟨g,i*3+2,none⟩=some (.string a))(cb:w.cell? ⟨g,j*3+2,none⟩=some (.string b)) :
 Calls prog 261 #[.int .i64 i,.int .i64 j,.pointer (some ⟨R,0,none⟩)] w fun e w'=>e=.returned (.bool (Op.bytesLess a.toList b.toList))∧∃q,w'=w.drewN q:=by
 have hii:(i:Int)<(n:Int):=by omega
 have hjj:(j:Int)<(n:Int):=by omega
 have ti:((i:Int)).toNat=i:=by omega
 have tj:((j:Int)).toNat=j:=by omega
 go_enter func261,ntmps261
 go_wp2_with fail
 go_quiet(fail)
 go_wp2_with fail
 go_ret
 exact⟨rfl,nq,rfl⟩
theorem RP{w:World}{A:Option Addr}{c:Nat}{l:List fD}(hr:Rd w A (ents l))(hl:l.length≤1000000)(h0:l≠[]) :
 Calls prog 137 #[.slice A l.length c] w fun e w'=>∃A' c',e=.returned (.slice A' l.length c')∧gJ w' (w.heap.size≤·) ⟨l,A',c',0⟩∧Below w.heap.size w w':=by
 obtain⟨i0,hi0,hz0,hz1,hz2⟩:=info_parts OG
 have hpos:=List.length_pos_iff.2 h0
 obtain⟨b,off,rfl,hb,_,_⟩:=hr.ent hpos
 have hc:∀j u,(ents l)[j]?=some u→w.cell? ⟨b,off+j,none⟩=some u:=by
  rcases hr with h|⟨b',off',e,_,hc⟩
  ·have h1:=yS l
   rw[h]at h1;simp only[cO]at h1;omega
  injection e with e;injection e with e1 e2;subst e1 e2;exact hc
 refine(AnyE.slices_Clone cloneDsc i0 E8 2 32 hi0 hz0 hz1 hz2 rfl (by decide) sizeOf132 b off l.length c (ents l) w (yS l) (by unfold maxLen;omega) (by omega) hc (SG l)).mono ?_
 rintro e w' ⟨v',rfl,hown,hne,hbel⟩
 obtain⟨_,A',c',rfl,hrd,hlc,hfr⟩:=aks hown
 exact⟨A',c',rfl,⟨hlc,hrd.zi fun b off e=>(hfr b off e).2⟩,hbel⟩
theorem acS{w:World}{A:Option Addr}{c n:Nat}{l:List fD}(hr:Rd w A (ents l))(hl:l.length≤1000000)(h0:l≠[]) :
 Calls prog 262 #[.agg #[.slice A l.length c,.int .u64 (n:Int)]] w fun e w'=>∃A' c',e=.returned (.agg #[.slice A' l.length c',.int .u64 (n:Int)])∧gJ w' (w.heap.size≤·) ⟨l,A',c',n⟩∧Below w.heap.size w w':=by
 have hb1:=ba (a:=w) b0 (.cells #[.slice A l.length c,.int .u64 (n:Int)] 134)
 have hb2:=ba hb1 (.cells #[.slice none 0 0,.int .u64 0] 134)
 have HX:=ah ((dU.made w 134 #[.slice A l.length c,.int .u64 (n:Int)]).more (.cells #[.slice none 0 0,.int .u64 0] 134))
 have HY:=ah (dU.made (w.alloc (.cells #[.slice A l.length c,.int .u64 (n:Int)] 134)) 134 #[.slice none 0 0,.int .u64 0])
 rw[World.size_alloc]at HY
 have HR:=ah (hr.below hb2)
 have HB:=ah hb2
 have hsz:w.heap.size+2=((w.alloc (.cells #[.slice A l.length c,.int .u64 (n:Int)] 134)).alloc (.cells #[.slice none 0 0,.int .u64 0] 134)).heap.size:=by simp
 have HZ:=ah hsz
 clear hr hb1 hb2 hsz
 go_enter func262,ntmps262
 go_wp2_with fail
 generalize((w.alloc (.cells #[.slice A l.length c,.int .u64 (n:Int)] 134)).alloc (.cells #[.slice none 0 0,.int .u64 0] 134))=wz at HX HY HR HB HZ⊢
 have HC:Hid (∀x:World,Below wz.heap.size wz x→Calls prog 137 #[.slice A l.length c] x fun e w'=>∃A' c',e=.returned (.slice A' l.length c')∧gJ w' (x.heap.size≤·) ⟨l,A',c',0⟩∧Below x.heap.size x w'):=fun x hx=>RP (HR.out.below hx) hl h0
 have lD:Hid (∀x:World,Below wz.heap.size wz x→(x.cell? ⟨w.heap.size,0,none⟩=some (.slice A l.length c)∧x.cell? ⟨w.heap.size,1,none⟩=some (.int .u64 (n:Int)))):=fun x h=>⟨(HX.out.below h HX.out.lt).cell 0,(HX.out.below h HX.out.lt).cell 1⟩
 have hbW:Below wz.heap.size wz wz:=b0
 obtain⟨k0,k1⟩:=lD.out _ hbW
 go_region_held3 (fun x=>x.cell? ⟨w.heap.size,0,none⟩=some (.slice A l.length c)∧x.cell? ⟨w.heap.size,1,none⟩=some (.int .u64 (n:Int))) (first|go_keep|exact lD.out _ hbW|exact lD.out _ (bd hbW))
  ((go_at_call 137;refine(HC.out _ (by repeat(first|exact hbW|refine bd ?_))).mono ?_;rintro e' W1 ⟨A1,c1,rfl,hro,hb1'⟩;replace hbW:Below wz.heap.size wz W1:=bb (by repeat(first|exact hbW|refine bd ?_)) hb1';obtain⟨k0,k1⟩:=lD.out _ hbW;have hy1:=HY.out.below hbW HY.out.lt;have f0:=hy1.free 0;have f1:=hy1.free 1;have d0:=hy1.cell 0;have d1:=hy1.cell 1;simp at d0 d1))
 have HE:Hid (∀w',dX (fun j=>j=w.heap.size+1) W1 w'→gJ w' (w.heap.size≤·) ⟨l,A1,c1,n⟩∧Below w.heap.size w w'):=fun w' ht=>
  ⟨((show gJ W1 (wz.heap.size≤·) ⟨l,A1,c1,n⟩from hro).fE ht fun g hg e=>by have:=HZ.out;omega).imp fun g _ hg=>by have:=HZ.out;omega,(HB.out.trans (hbW.mono HB.out.size)).trans (ht.iI (by have:=hbW.size;have:=HZ.out;omega) fun g hg e=>by omega)⟩
 clear hro hb1' hbW HX HY lD HC HR
 go_wp2_with fail
 refine bodyPost_ret (v:=.agg #[.slice A1 l.length c1,.int .u64 (n:Int)]) (by simp[results,results262,go_sem,d0,d1];try rfl) rfl ⟨A1,c1,rfl,HE.out _ (zk _ _ _ _)⟩
