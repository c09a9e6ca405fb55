/-
  Parts of the proof. Conditions: as each names.
-/
import Derived.Test.YtgidfnhfgiehjaaGreatDoorYbo
import Derived.Test.YtgidfnhfgiehjaaGreatDoorYbj
namespace Go.Proofs.YtgidfnhfgiehjaaGreatDoor
open Go.PM Go.RowKit Go.Proofs.Tryz
set_option maxRecDepth 100000
set_option maxHeartbeats 4000000
attribute [local go_sem ↓] Go.wp_at_zero Go.wp_at_succ
theorem AO{P:Program}{ops:Array Oper}{rest:List Oper}{op:Oper}{a:Act}{w:World}{Q:Exit→Act→World→Prop}(hw:Region.wanted op (yielded ops a.tmps)=true)(ty:TypeId)(x:Operand)(ho:op.op=.load ty x)
 (b:Nat) (hx:a.eval x=.pointer (some ⟨b,0,none⟩)) {t:TypeId} (cs:Array Value) (hc:dU w b t cs) {d:TypeDesc}
 (hu:P.underlying ty=some d) (hd:d.isRow=true) (hi:(P.info? ty).map (·.size)=some cs.size)
 (h:wpList P ops Q rest (a.put op.dst (.agg cs)) w):wpList P ops Q (op::rest) a w :=
 wpList_step fun K hK=>by
  rw[aA hw];exact wp_load_mid ty x ho b 0 hx cs.toList d (fun j v hv=>by rw[aX,hc.cell j,← bU];exact hv) hu hd (by rw[hi];simp) (hK _ _ (by simpa using h))
theorem Kt(w:World)(m:Mp)(hd:m.d=[])(ht:m.t=[])(hr:m.rest=.nil):gU w (fun _=>True) m (.slice none 0 0) (.slice none 0 0) (.slice none 0 0):=by
 refine⟨⟨none,0,by rw[hd];rfl,by rw[hd];exact au _,.inl hd⟩,by rw[ht];exact vF.nil _ _,by rw[hr];exact eF.nil _ _ _ _⟩
theorem O1{m:Mp}(hk:iK m.kind)(hm:∀i,i<22→(m.val i).may=0)(hg:∀i,i<22→(m.val i).good)(hr:m.rest=.nil):jV m:=by
 refine aci hk hm hg ?_ ?_ ?_<;>rw[hr]
 ·trivial
 ·exact aW _
 exact aW _
theorem agj:jV e18:=O1 (by unfold iK;decide) Va ab3 rfl
theorem ZC:jV vG:=O1 (by unfold iK;decide) (by refine kD ?_ ?_ ?_ ?_ ?_ ?_ ?_ ?_ ?_ ?_ ?_ ?_ ?_ ?_ ?_ ?_ ?_ ?_ ?_ ?_ ?_ ?_<;>first|rfl|exact Ia) (by
 refine kD ?_ ?_ ?_ ?_ ?_ ?_ ?_ ?_ ?_ ?_ ?_ ?_ ?_ ?_ ?_ ?_ ?_ ?_ ?_ ?_ ?_ ?_<;>simp[vG,m0,Mp.val,Mv.good,iK]) rfl
theorem agk:jV e19:=O1 (by unfold iK;decide) (by refine kD ?_ ?_ ?_ ?_ ?_ ?_ ?_ ?_ ?_ ?_ ?_ ?_ ?_ ?_ ?_ ?_ ?_ ?_ ?_ ?_ ?_ ?_<;>first|rfl|exact Ia) (by
 refine kD ?_ ?_ ?_ ?_ ?_ ?_ ?_ ?_ ?_ ?_ ?_ ?_ ?_ ?_ ?_ ?_ ?_ ?_ ?_ ?_ ?_ ?_<;>simp[e19,m0,Mp.val,Mv.good,iK]) rfl
theorem agl:jV e20:=O1 (by unfold iK;decide) (by refine kD ?_ ?_ ?_ ?_ ?_ ?_ ?_ ?_ ?_ ?_ ?_ ?_ ?_ ?_ ?_ ?_ ?_ ?_ ?_ ?_ ?_ ?_<;>first|rfl|exact Ia|exact adB) (by
 refine kD ?_ ?_ ?_ ?_ ?_ ?_ ?_ ?_ ?_ ?_ ?_ ?_ ?_ ?_ ?_ ?_ ?_ ?_ ?_ ?_ ?_ ?_<;>simp[e20,m0,Mp.val,Mv.good,iK]) rfl
theorem ae1(w:World)(hT:Tabs w) :
 Calls prog 231 #[] w (aj w (.bool true)):=by
 have HA:Hid (∀x:World,Below w.heap.size w x→Calls prog 236 #[] x (aj x (.bool true))):=fun x hx=>afk x (hT.below hx)
 have gK:Hid (∀x:World,Below w.heap.size w x→Calls prog 43 #[.agg (dR e18 (.slice none 0 0) (.slice none 0 0) (.slice none 0 0)),.int .i64 1] x (aj x (.int .i64 0))):=fun x hx=>by
  have:=Kr 1 (by decide) (by decide) x (Kt x e18 rfl rfl rfl) agj (hT.below hx);unfold wX at this;rw[agA]at this;exact this
 have HC2:Hid (∀x:World,Below w.heap.size w x→Calls prog 43 #[.agg (dR vG (.slice none 0 0) (.slice none 0 0) (.slice none 0 0)),.int .i64 2] x (aj x (.int .i64 26))):=fun x hx=>by
  have:=Kr 2 (by decide) (by decide) x (Kt x vG rfl rfl rfl) ZC (hT.below hx);unfold wX at this;rw[agB]at this;exact this
 have nS:Hid (∀x:World,Below w.heap.size w x→Calls prog 43 #[.agg (dR vG (.slice none 0 0) (.slice none 0 0) (.slice none 0 0)),.int .i64 3] x (aj x (.int .i64 0))):=fun x hx=>by
  have:=Kr 3 (by decide) (by decide) x (Kt x vG rfl rfl rfl) ZC (hT.below hx);unfold wX at this;rw[agC]at this;exact this
 clear hT
 have hm1:=dU.made w 35 fF
 have hm2:=ny (ds:=dR e18 (.slice none 0 0) (.slice none 0 0) (.slice none 0 0)) hm1 rfl
 have hs1:(World.jM (w.alloc (.cells fF 35)) w.heap.size (dR e18 (.slice none 0 0) (.slice none 0 0) (.slice none 0 0))).heap.size=w.heap.size+1:=by rw[Pm];simp
 have hb1:Below w.heap.size w (World.jM (w.alloc (.cells fF 35)) w.heap.size (dR e18 (.slice none 0 0) (.slice none 0 0) (.slice none 0 0))) :=
  (ba (a:=w) b0 (.cells fF 35)).trans ((mD _ w.heap.size _).iI (by simp) fun g hg e=>by omega)
 obtain⟨w1,hw1⟩:∃w1,w1=World.jM (w.alloc (.cells fF 35)) w.heap.size (dR e18 (.slice none 0 0) (.slice none 0 0) (.slice none 0 0)):=⟨_,rfl⟩
 rw[← hw1]at hm2 hs1 hb1
 have hn1:=dU.made w1 35 fF
 have hn2:=ny (ds:=dR vG (.slice none 0 0) (.slice none 0 0) (.slice none 0 0)) hn1 rfl
 have hs2:(World.jM (w1.alloc (.cells fF 35)) w1.heap.size (dR vG (.slice none 0 0) (.slice none 0 0) (.slice none 0 0))).heap.size=w1.heap.size+1:=by rw[Pm];simp
 have hb2:Below w1.heap.size w1 (World.jM (w1.alloc (.cells fF 35)) w1.heap.size (dR vG (.slice none 0 0) (.slice none 0 0) (.slice none 0 0))) :=
  (ba (a:=w1) b0 (.cells fF 35)).trans ((mD _ w1.heap.size _).iI (by simp) fun g hg e=>by omega)
 obtain⟨w2,hw2⟩:∃w2,w2=World.jM (w1.alloc (.cells fF 35)) w1.heap.size (dR vG (.slice none 0 0) (.slice none 0 0) (.slice none 0 0)):=⟨_,rfl⟩
 rw[← hw2]at hn2 hs2 hb2
 have gQ:=ah hm1
 have Bc:=ah hn1
 have jy:=ah (hm2.below hb2 hm2.lt)
 have jh:=ah hn2
 have HB2:=ah (bb hb1 hb2)
 simp only[fF]at gQ Bc hw1 hw2
 clear hm1 hm2 hb1 hn1 hn2 hb2 hs2 hs1
 go_enter func231,ntmps231
 go_wp2_with
  (with_reducible show wpList _ _ _ (Oper.mk _ (Op.store 35 _ _) _ _ _ _::_) _ _;apply pin)
 refine nO rfl _ _ _ rfl _ (dR e18 (.slice none 0 0) (.slice none 0 0) (.slice none 0 0)) rfl rfl gQ.out rfl (iC _ _ _ _) sF ?_
 rw[← hw1]
 clear hw1 gQ
 simp only[Act.put]
 go_wp2_with
  (with_reducible show wpList _ _ _ (Oper.mk _ (Op.store 35 _ _) _ _ _ _::_) _ _;apply pin)
 refine nO rfl _ _ _ rfl _ (dR vG (.slice none 0 0) (.slice none 0 0) (.slice none 0 0)) rfl rfl Bc.out rfl (iC _ _ _ _) sF ?_
 rw[← hw2]
 clear hw2 Bc
 simp only[Act.put]
 go_wp2_with fail
 refine(HA.out _ HB2.out).mono ?_
 rintro e w3 ⟨rfl,hb3⟩
 have AZ:=ah (jy.out.below hb3 jy.out.lt)
 have xE:=ah (jh.out.below hb3 jh.out.lt)
 have HB3:=ah (bb HB2.out hb3)
 clear hb3 jy jh HB2
 go_wp2_with
  (with_reducible show wpList _ _ _ (Oper.mk _ (Op.load 35 _) _ _ _ _::_) _ _;apply pin)
 refine AO (by rfl) _ _ rfl _ rfl _ AZ.out underlying35 rfl (iC _ _ _ _) ?_
 go_wp2_with fail
 refine(gK.out _ HB3.out).mono ?_
 rintro e w4 ⟨rfl,hb4⟩
 have LH:=ah (xE.out.below hb4 xE.out.lt)
 have HB4:=ah (bb HB3.out hb4)
 clear hb4 AZ xE HB3
 go_wp2_with
  (with_reducible show wpList _ _ _ (Oper.mk _ (Op.load 35 _) _ _ _ _::_) _ _;apply pin)
 refine AO (by rfl) _ _ rfl _ rfl _ LH.out underlying35 rfl (iC _ _ _ _) ?_
 go_wp2_with fail
 refine(HC2.out _ HB4.out).mono ?_
 rintro e w5 ⟨rfl,hb5⟩
 have XJ:=ah (LH.out.below hb5 LH.out.lt)
 have gY:=ah (bb HB4.out hb5)
 clear hb5 LH HB4
 go_wp2_with
  (with_reducible show wpList _ _ _ (Oper.mk _ (Op.load 35 _) _ _ _ _::_) _ _;apply pin)
 refine AO (by rfl) _ _ rfl _ rfl _ XJ.out underlying35 rfl (iC _ _ _ _) ?_
 go_wp2_with fail
 refine(nS.out _ gY.out).mono ?_
 rintro e w6 ⟨rfl,hb6⟩
 have iE:=ah (bb gY.out hb6)
 clear hb6 XJ gY
 go_wp2_with fail
 go_ret
 exact⟨rfl,iE.out⟩
theorem afl(w:World)(hT:Tabs w):Calls prog 211 #[] w (aj w (.bool true)):=by
 have H:=ah (ae1 w hT);clear hT;go_enter func211,ntmps211;go_wp2_with fail;refine H.out.mono ?_;rintro e w' ⟨rfl,hb⟩;go_wp2;go_ret;exact⟨rfl,hb⟩
theorem ae2(w:World)(hT:Tabs w) :
 Calls prog 172 #[] w (aj w (.bool true)):=by
 have HA:Hid (∀x:World,Below w.heap.size w x→Calls prog 211 #[] x (aj x (.bool true))):=fun x hx=>afl x (hT.below hx)
 have gK:Hid (Calls prog 11 #[.agg (dR e19 (.slice none 0 0) (.slice none 0 0) (.slice none 0 0)),.int .i64 1] w (aj w (.tuple #[.string ⟨#[7,4,7]⟩,.int .i64 0]))):=by
  have:=Nq 1 (by decide) (by decide) w (Kt w e19 rfl rfl rfl) agk hT;unfold DT at this;rw[agD]at this;exact this
 clear hT
 simp only[dR,e19,m0]at gK
 have hs:(ByteArray.mk #[7,4,7]).toList=[7,4,7]:=by rw[ByteArray.toList_eq]
 go_enter func172,ntmps172
 go_wp2_with fail
 refine gK.out.mono ?_
 rintro e w1 ⟨rfl,hb1⟩
 have HB1:=ah hb1
 clear hb1 gK
 go_wp2_with fail
 refine(HA.out _ HB1.out).mono ?_
 rintro e w2 ⟨rfl,hb2⟩
 have HB2:=ah (bb HB1.out hb2)
 clear hb2 HB1
 go_wp2_with fail
 go_ret
 exact⟨rfl,HB2.out⟩
theorem afm(w:World)(hT:Tabs w):Calls prog 123 #[] w (aj w (.bool true)):=by
 have H:=ah (ae2 w hT);clear hT;go_enter func123,ntmps123;go_wp2_with fail;refine H.out.mono ?_;rintro e w' ⟨rfl,hb⟩;go_wp2;go_ret;exact⟨rfl,hb⟩
def s20:List UInt8:=[1,4,1,8,2,17,2,101,117]
theorem aev(w:World)(hT:Tabs w):Calls prog 171 #[.agg (dR e20 (.slice none 0 0) (.slice none 0 0) (.slice none 0 0)),.int .i64 2,.int .i64 1] w (rG w (jL,0)):=by
 have HT:=ah hT;clear hT;have HM:=ah (dU.made w 35 (dR e20 (.slice none 0 0) (.slice none 0 0) (.slice none 0 0)));obtain⟨wz,hwz⟩:∃wz,wz=w.alloc (.cells (dR e20 (.slice none 0 0) (.slice none 0 0) (.slice none 0 0)) 35):=⟨_,rfl⟩;have hsz:wz.heap.size=w.heap.size+1:=by rw[hwz];simp
 have hbz:Below w.heap.size w wz:=by rw[hwz];exact ba b0 _
 rw[← hwz]at HM;have hmr:=dU.made wz 35 fF;rw[hsz]at hmr;obtain⟨wr,hwr⟩:∃wr,wr=wz.alloc (.cells fF 35):=⟨_,rfl⟩;have hbr:Below w.heap.size w wr:=by rw[hwr];exact ba hbz _
 have hsr:wr.heap.size=w.heap.size+1+1:=by rw[hwr,World.size_alloc,hsz]
 have hm2:dU wr w.heap.size 35 (dR e20 (.slice none 0 0) (.slice none 0 0) (.slice none 0 0)):=by rw[hwr];exact HM.out.more _
 rw[← hwr]at hmr;have iO:=ah hm2;have qR:=ah hmr;have pW:=ah hbr;simp only[dR,e20,m0]at hwz;simp only[fF]at hwr;have hwr2:(w.alloc (.cells #[.int .i64 1,.int .u64 0,.int .u64 1,.int .u64 2,.int .u64 0,.int .u64 0,.int .u64 0,.int .u64 0,.int .u64 0,.int .u64 0,.int .u64 0,.int .u64 0,.int .u64 0,.int .u64 0,.int .u64 0,.int .u64 0,.int .i64 0,.bool false,.string ⟨#[]⟩,.string ⟨#[101,117]⟩,.string ⟨#[]⟩,.slice none 0 0,.slice none 0 0,.slice none 0 0] 35)).alloc (.cells #[.int .i64 0,.int .u64 0,.int .u64 0,.int .u64 0,.int .u64 0,.int .u64 0,.int .u64 0,.int .u64 0,.int .u64 0,.int .u64 0,.int .u64 0,.int .u64 0,.int .u64 0,.int .u64 0,.int .u64 0,.int .u64 0,.int .i64 0,.bool false,.string ⟨#[]⟩,.string ⟨#[]⟩,.string ⟨#[]⟩,.slice none 0 0,.slice none 0 0,.slice none 0 0] 35)=wr:=by rw[hwr,hwz];rfl
 have zN:=ah hwr2;have IK:=ah hsr;clear hmr hwr hwz HM hbz hsz hbr hwr2 hm2 hsr;show Calls _ _ #[.agg #[.int .i64 1,.int .u64 0,.int .u64 1,.int .u64 2,.int .u64 0,.int .u64 0,.int .u64 0,.int .u64 0,.int .u64 0,.int .u64 0,.int .u64 0,.int .u64 0,.int .u64 0,.int .u64 0,.int .u64 0,.int .u64 0,.int .i64 0,.bool false,.string ⟨#[]⟩,.string ⟨#[101,117]⟩,.string ⟨#[]⟩,.slice none 0 0,.slice none 0 0,.slice none 0 0],.int .i64 2,.int .i64 1] _ _;have AV:Hid (Calls prog 11 #[.agg (dR e20 (.slice none 0 0) (.slice none 0 0) (.slice none 0 0)),.int .i64 2] wr (aj wr (.tuple #[.string (txt s20),.int .i64 0]))):=by
  have:=Nq 2 (by decide) (by decide) wr (Kt wr e20 rfl rfl rfl) agl (HT.out.below pW.out);unfold DT at this;rw[agF]at this;exact this
 have Il:Hid (∀x,Below w.heap.size w x→Calls prog 12 #[.string (txt s20),.int .i64 1] x (rG x (jL,0))):=fun x hx=>by
  have:=Zp 1 (by decide) (by decide) (txt s20) (by rw[gI];decide) x (HT.out.below hx);rw[show(txt s20).data.toList=s20 from by simp[txt],show vT s20 1=(jL,0)from agH]at this;exact this
 generalize txt s20=S at *;go_enter func171,ntmps171
 go_wp2_with
  (with_reducible show wpList _ _ _ (Oper.mk _ (Op.load 35 _) _ _ _ _::_) _ _;apply pin)
 rw[zN.out];refine nN rfl _ _ rfl _ rfl _ iO.out underlying35 rfl (iC _ _ _ _) ?_;simp only[Act.put];go_wp2_with fail;refine AV.out.mono ?_;rintro e w1 ⟨rfl,hb1⟩;have HB1:=ah (bb pW.out hb1);have HR1:=ah (qR.out.below hb1 qR.out.lt);have Dz:=hb1.size;have hsr:=IK.out;clear hb1 AV iO zN qR;go_wp2_with fail;refine(Il.out _ HB1.out).mono ?_;rintro e w2 ⟨dv,tv,rv,rfl,kU,hb2⟩;have HB2:=ah (bb HB1.out hb2);have HR2:=ah (HR1.out.below hb2 HR1.out.lt);have lD:Hid (w.heap.size+1<w1.heap.size):=by show _<_;omega
 clear hb2 Il HR1;obtain⟨dA,dc,tA,tc,rA,rc,rfl,rfl,rfl⟩:=kU.slices
 go_wp2_with
  (with_reducible show wpList _ _ _ (Oper.mk _ (Op.store 35 _ _) _ _ _ _::_) _ _;apply pin)
 refine nO rfl _ _ _ rfl _ _ rfl rfl HR2.out rfl (iC _ _ _ _) sF ?_;simp only[Act.put];go_wp2_with fail;refine bodyPost_ret (v:=.tuple #[.agg (dR jL (.slice dA jL.d.length dc) (.slice tA jL.t.length tc) (.slice rA jL.rest.len rc)),.int .i64 0]) (by exact vU rfl _ _ (w.heap.size+1) 35 _ _ (.int .i64 0) rfl (ny HR2.out rfl) underlying35 rfl (iC _ _ _ _) rfl) rfl ?_;have hpa:=mD w2 (w.heap.size+1) (dR jL (.slice dA jL.d.length dc) (.slice tA jL.t.length tc) (.slice rA jL.rest.len rc));have hsb:=lD.out;exact⟨_,_,_,rfl,(kU.fE hpa fun k hk e=>by omega).mono (by omega),(HB2.out).trans (hpa.iI (HB2.out).size fun g hg e=>by omega)⟩
theorem ajc(w:World)(hT:Tabs w):Calls prog 122 #[.agg (dR e20 (.slice none 0 0) (.slice none 0 0) (.slice none 0 0)),.int .i64 2,.int .i64 1] w (rG w (jL,0)):=by
 have HT:=ah hT;clear hT;have HM:=ah (dU.made w 35 (dR e20 (.slice none 0 0) (.slice none 0 0) (.slice none 0 0)));obtain⟨wz,hwz⟩:∃wz,wz=w.alloc (.cells (dR e20 (.slice none 0 0) (.slice none 0 0) (.slice none 0 0)) 35):=⟨_,rfl⟩;have hsz:wz.heap.size=w.heap.size+1:=by rw[hwz];simp
 have hbz:Below w.heap.size w wz:=by rw[hwz];exact ba b0 _
 rw[← hwz]at HM;have hmr:=dU.made wz 35 fF;rw[hsz]at hmr;obtain⟨wr,hwr⟩:∃wr,wr=wz.alloc (.cells fF 35):=⟨_,rfl⟩;have hbr:Below w.heap.size w wr:=by rw[hwr];exact ba hbz _
 have hsr:wr.heap.size=w.heap.size+1+1:=by rw[hwr,World.size_alloc,hsz]
 have hm2:dU wr w.heap.size 35 (dR e20 (.slice none 0 0) (.slice none 0 0) (.slice none 0 0)):=by rw[hwr];exact HM.out.more _
 rw[← hwr]at hmr;have iO:=ah hm2;have qR:=ah hmr;have pW:=ah hbr;simp only[dR,e20,m0]at hwz;simp only[fF]at hwr;have hwr2:(w.alloc (.cells #[.int .i64 1,.int .u64 0,.int .u64 1,.int .u64 2,.int .u64 0,.int .u64 0,.int .u64 0,.int .u64 0,.int .u64 0,.int .u64 0,.int .u64 0,.int .u64 0,.int .u64 0,.int .u64 0,.int .u64 0,.int .u64 0,.int .i64 0,.bool false,.string ⟨#[]⟩,.string ⟨#[101,117]⟩,.string ⟨#[]⟩,.slice none 0 0,.slice none 0 0,.slice none 0 0] 35)).alloc (.cells #[.int .i64 0,.int .u64 0,.int .u64 0,.int .u64 0,.int .u64 0,.int .u64 0,.int .u64 0,.int .u64 0,.int .u64 0,.int .u64 0,.int .u64 0,.int .u64 0,.int .u64 0,.int .u64 0,.int .u64 0,.int .u64 0,.int .i64 0,.bool false,.string ⟨#[]⟩,.string ⟨#[]⟩,.string ⟨#[]⟩,.slice none 0 0,.slice none 0 0,.slice none 0 0] 35)=wr:=by rw[hwr,hwz];rfl
 have zN:=ah hwr2;have IK:=ah hsr;clear hmr hwr hwz HM hbz hsz hbr hwr2 hm2 hsr;show Calls _ _ #[.agg #[.int .i64 1,.int .u64 0,.int .u64 1,.int .u64 2,.int .u64 0,.int .u64 0,.int .u64 0,.int .u64 0,.int .u64 0,.int .u64 0,.int .u64 0,.int .u64 0,.int .u64 0,.int .u64 0,.int .u64 0,.int .u64 0,.int .i64 0,.bool false,.string ⟨#[]⟩,.string ⟨#[101,117]⟩,.string ⟨#[]⟩,.slice none 0 0,.slice none 0 0,.slice none 0 0],.int .i64 2,.int .i64 1] _ _;have AV:=ah (aev wr (HT.out.below pW.out));go_enter func122,ntmps122
 go_wp2_with
  (with_reducible show wpList _ _ _ (Oper.mk _ (Op.load 35 _) _ _ _ _::_) _ _;apply pin)
 rw[zN.out];refine nN rfl _ _ rfl _ rfl _ iO.out underlying35 rfl (iC _ _ _ _) ?_;simp only[Act.put];go_wp2_with fail;refine AV.out.mono ?_;rintro e w2 ⟨dv,tv,rv,rfl,kU,hb2⟩;have HB2:=ah (bb pW.out hb2);have HR2:=ah (qR.out.below hb2 qR.out.lt);have lD:Hid (w.heap.size+1<wr.heap.size):=by
  have:=IK.out;show _<_;omega
 clear hb2 AV iO zN qR;obtain⟨dA,dc,tA,tc,rA,rc,rfl,rfl,rfl⟩:=kU.slices
 go_wp2_with
  (with_reducible show wpList _ _ _ (Oper.mk _ (Op.store 35 _ _) _ _ _ _::_) _ _;apply pin)
 refine nO rfl _ _ _ rfl _ _ rfl rfl HR2.out rfl (iC _ _ _ _) sF ?_;simp only[Act.put];go_wp2_with fail;refine bodyPost_ret (v:=.tuple #[.agg (dR jL (.slice dA jL.d.length dc) (.slice tA jL.t.length tc) (.slice rA jL.rest.len rc)),.int .i64 0]) (by exact vU rfl _ _ (w.heap.size+1) 35 _ _ (.int .i64 0) rfl (ny HR2.out rfl) underlying35 rfl (iC _ _ _ _) rfl) rfl ?_;have hpa:=mD w2 (w.heap.size+1) (dR jL (.slice dA jL.d.length dc) (.slice tA jL.t.length tc) (.slice rA jL.rest.len rc));have hsb:=lD.out;exact⟨_,_,_,rfl,(kU.fE hpa fun k hk e=>by omega).mono (by omega),(HB2.out).trans (hpa.iI (HB2.out).size fun g hg e=>by omega)⟩
theorem ae3(w:World)(hT:Tabs w) :
 Calls prog 75 #[] w (aj w (.bool true)):=by
 have HA:Hid (∀x:World,Below w.heap.size w x→Calls prog 123 #[] x (aj x (.bool true))):=fun x hx=>afm x (hT.below hx)
 have HL:Hid (Calls prog 122 #[.agg #[.int .i64 1,.int .u64 0,.int .u64 1,.int .u64 2,.int .u64 0,.int .u64 0,.int .u64 0,.int .u64 0,.int .u64 0,.int .u64 0,.int .u64 0,.int .u64 0,.int .u64 0,.int .u64 0,.int .u64 0,.int .u64 0,.int .i64 0,.bool false,.string ⟨#[]⟩,.string ⟨#[101,117]⟩,.string ⟨#[]⟩,.slice none 0 0,.slice none 0 0,.slice none 0 0],.int .i64 2,.int .i64 1] w (rG w (jL,0))):=ajc w hT
 clear hT
 go_enter func75,ntmps75
 go_wp2_with fail
 refine HL.out.mono ?_
 rintro e w1 ⟨dv,tv,rv,rfl,kU,hb1⟩
 obtain⟨dA,dc,tA,tc,rA,rc,rfl,rfl,rfl⟩:=kU.slices
 have hm1:=dU.made w1 35 fF
 have hm2:=ny (ds:=dR jL (.slice dA jL.d.length dc) (.slice tA jL.t.length tc) (.slice rA jL.rest.len rc)) hm1 rfl
 have hb2:Below w1.heap.size w1 (World.jM (w1.alloc (.cells fF 35)) w1.heap.size (dR jL (.slice dA jL.d.length dc) (.slice tA jL.t.length tc) (.slice rA jL.rest.len rc))) :=
  (ba (a:=w1) b0 (.cells fF 35)).trans ((mD _ w1.heap.size _).iI (by simp) fun g hg e=>by omega)
 obtain⟨w2,hw2⟩:∃w2,w2=World.jM (w1.alloc (.cells fF 35)) w1.heap.size (dR jL (.slice dA jL.d.length dc) (.slice tA jL.t.length tc) (.slice rA jL.rest.len rc)):=⟨_,rfl⟩
 rw[← hw2]at hm2 hb2
 obtain⟨q,hq⟩:∃q,q=w1.heap.size:=⟨_,rfl⟩
 rw[← hq]at hm2
 have gQ:=ah hm1
 have jK:=ah hm2
 have HB2:=ah (bb hb1 hb2)
 have HS2:=ah (kU.2.2.below hb2)
 simp only[fF]at gQ hw2
 clear hm1 hm2 hb2 hb1 kU HL
 go_wp2_with
  (with_reducible show wpList _ _ _ (Oper.mk _ (Op.store 35 _ _) _ _ _ _::_) _ _;apply pin)
 refine nO rfl _ _ _ rfl _ _ rfl rfl gQ.out rfl (iC _ _ _ _) sF ?_
 rw[← hw2]
 clear hw2 gQ
 simp only[Act.put]
 rw[← hq]
 clear hq
 go_wp2_with fail
 refine(HA.out _ HB2.out).mono ?_
 rintro e w3 ⟨rfl,hb3⟩
 have GV:=jK.out.below hb3 jK.out.lt
 have hlm:=GV.lt
 have c19:w3.cell? ⟨q,19,none⟩=some (.string ⟨#[]⟩):=GV.cell 19
 have c23:w3.cell? ⟨q,23,none⟩=some (.slice rA 1 rc):=GV.cell 23
 have HB3:=ah (bb HB2.out hb3)
 have hsl:=HS2.out.below hb3
 obtain⟨b,o,Ai,ci,hre,hbl,d0,_⟩:=PD hsl 0 (by decide)
 subst hre
 have d0':w3.cell? ⟨b,o,none⟩=some (.int .u64 4):=by
  rw[Nat.zero_mul,Nat.add_zero]at d0;exact d0
 clear hb3 jK HB2 HS2 GV hsl d0
 go_wp2_with fail
 go_ret
 exact⟨rfl,HB3.out⟩
theorem afn(w:World)(hT:Tabs w):Calls prog 30 #[] w (aj w (.bool true)):=by
 have H:=ah (ae3 w hT);clear hT;go_enter func30,ntmps30;go_wp2_with fail;refine H.out.mono ?_;rintro e w' ⟨rfl,hb⟩;go_wp2;go_ret;exact⟨rfl,hb⟩
def D7(l:List Nat):List Value:=l.map fun n:Nat=>.int .u16 (n:Int)
theorem aeD(w:World)(hT:Tabs w):Calls prog 8 #[] w (aj w (.bool true)):=by
 have H:=ah (afn w hT);clear hT;go_enter func8,ntmps8;go_wp2_with fail;refine H.out.mono ?_;rintro e w' ⟨rfl,hb⟩;go_wp2;go_ret;exact⟨rfl,hb⟩
def Ro(w:World)(s:ByteArray)(n:Nat)(e:Ending)(w':World):Prop :=
 ∃(P:List ByteArray) (A:Option Addr) (c:Nat),e=.returned (.slice A P.length c)∧P.length=n+1∧flat P=s.data.toList∧Rd w' A (strs P)∧(∀b off,A=some ⟨b,off,none⟩→w.heap.size≤b)∧Below w.heap.size w w'
def YL(w:World)(s:ByteArray)(j:Nat)(S:ByteArray)(vv:Value)(wr:World):Prop:=∃P:List ByteArray,P.length=j∧wr.ownsRow w.heap.size 9 1 vv j (strs P)∧flat P++S.data.toList=s.data.toList∧Below w.heap.size w wr
theorem aav(P:List ByteArray)(x:ByteArray):flat (P++[x])=flat P++x.data.toList:=by simp[flat]
theorem aku(s:ByteArray)(A:Option Addr)(cap:Nat)(l:List Nat)(w:World)(hs:s.size≤1000000)(hr:Rd w A (D7 l))(hl:l.length≤1000000)(hm:∀x∈l,x<65536) :
 Calls prog 54 #[.string s,.slice A l.length cap] w (Ro w s l.length):=by
 obtain⟨i0,hi0,hz0,hz1,hz2⟩:=info_parts OH
 have HR:=ah hr
 have HM:=ah hm
 have H0:Hid (YL w s 0 s (.slice none 0 0) w):=⟨[],rfl,World.ownsRow_nil _ _ _ _,rfl,b0⟩
 clear hr hm
 go_enter func54,ntmps54
 go_wp2_with fail
 go_loopg [0,5,11] l.length (fun gk sv vv ki wr=>∃(j:Nat) (S:ByteArray),j≤l.length∧l.length - j≤gk∧ki=.int .i64 (j:Int)∧sv=.string S∧S.size≤1000000∧Hid (YL w s j S vv wr))
 case atStart=>exact⟨0,s,aW _,by omega,rfl,rfl,hs,H0⟩
 case round=>
  obtain⟨j,S,hj,hgj,rfl,rfl,hSs,HS⟩:=hrel;obtain⟨P,hPl,hown,hfl,hbel⟩:=HS.out;by_cases hlt:j<l.length
  ·obtain⟨b,off,iL,hbl,hc⟩:=(HR.out.below hbel).at_ (k:=j) (by simpa[D7]using hlt)
   subst iL;have hcv:(D7 l)[j]'(by simpa[D7]using hlt)=.int .u16 (l[j]:Int):=(by simp[D7]);rw[hcv]at hc;have hx:=HM.out l[j] (aS hlt);generalize l[j]=x at *;have hwx:IntKind.i64.wrap (x:Int)=(x:Int):=(by rw[IntKind.wrap_i64];omega);have hmx:(x:Int)%((S.size:Int)+1)=((x%(S.size+1):Nat):Int):=(by simp);have hK:x%(S.size+1)≤S.size:=Nat.le_of_lt_succ (Nat.mod_lt _ (by omega));generalize x%(S.size+1)=K at *;have hnz:¬((S.size:Int)+1)=0:=(by omega);have hKi:(K:Int)≤(S.size:Int):=(by omega);have htk:((K:Int)).toNat=K:=(by omega);have HOWN:=ah hown;have eX:=ah hbel;have wE:=ah hfl;clear hcv hown hbel hfl HS H0;go_wp2_with fail
   go_region_held3 (fun _=>True) (trivial)
    ((refine step_append_lies _ (by rfl) _ _ _ (by rfl) w.heap.size 9 i0 _ 1 16 underlying50 hi0 hz0 hz1 hz2 rfl (by omega) u5 j (strs P) (by rfl) (HOWN.out.alloc (.cells #[.string (S.extract 0 K)] 9)) ⟨wr.heap.size,0,none⟩ 1 1 [.string (S.extract 0 K)] (by rfl) (by rfl) (World.news_of_block (cs:=#[.string (S.extract 0 K)]) (t:=9) (fr:=(0,0)) (heap_alloc_new wr _)) (by simp[Value.oneCell']) (by omega) (by unfold maxLen;omega) (by omega) (by have:=eX.out.size;simp;omega) (wr.heap.size+1) (by simp) ?_;intro g cap3 w3 hown3 hg3 iF hlt3;have jo:=ah hg3))
   go_wp2_with fail;go_roundg (l.length - (j+1))
   case measure=>omega
   case rel=>
    refine⟨j+1,S.extract K S.size,by omega,au _,by go_num,rfl,by rw[ByteArray.size_extract];omega,P++[S.extract 0 K],by simp[hPl],?_,?_,(bd (ba eX.out _)).grown jo.out (bd (ba eX.out _)).size fun q hq=>(HOWN.out.lt q hq).1⟩
    ·rw[show strs (P++[S.extract 0 K])=strs P++[.string (S.extract 0 K)]by simp[strs]]
     exact hown3
    rw[aav,bP,← wE.out];congr 1;have e1:(S.data.toList.drop K).take (S.size - K)=S.data.toList.drop K:=aU (by rw[aN,fK];exact au _);rw[ext_list,ext_list,dD,Nat.sub_zero,e1,dG]
  obtain rfl:j=l.length:=by omega
  have HOWN:=ah hown;have eX:=ah hbel;have wE:=ah hfl;have hnew:=Ku wr (.string S) 9;clear hown hbel hfl HS H0;go_wp2_with(at_builtin;go_must(refine wpList_append_lies _ rfl _ _ 50 rfl w.heap.size 9 i0 (.string ByteArray.empty) 1 16 underlying50 hi0 hz0 hz1 hz2 rfl (by decide) _ _ _ rfl (HOWN.out.alloc _) ⟨wr.heap.size,0,none⟩ 1 1 [.string S] rfl rfl hnew (Vp _) (by decide) (by unfold maxLen;omega) (by omega) (by have:=eX.out.size;simp;omega) (wr.heap.size+1) (by simp) ?_);intro g3 cap3 w3 hown3 hg3 iF hlt3);have hb3:Below w.heap.size w w3:=(ba eX.out _).grown hg3 (ba eX.out _).size fun q hq=>(HOWN.out.lt q hq).1;obtain⟨A9,c9,vO,BQ,TV,aa6⟩:=Rd.own hown3;injection vO with e1 e2 e3;subst e1 e3;have HE:Hid (Ro w s l.length (.returned (.slice (some ⟨g3,0,none⟩) (l.length+1) cap3)) w3):=by
   refine⟨P++[S],some ⟨g3,0,none⟩,cap3,by rw[aC,hPl];rfl,by simp[hPl],by rw[aav];exact wE.out,?_,fun b off e=>(aa6 b off e).2,hb3⟩;rw[show strs (P++[S])=strs P++[.string S]by simp[strs]];exact BQ
  clear hown3 hg3 iF hb3 BQ aa6;go_wp2_with fail;go_ret;exact HE.out
def KQ(w:World)(s:List UInt8)(e:Ending)(w':World):Prop :=
 ∃(A:Option Addr) (c:Nat),e=.returned (.tuple #[.slice A (fZ s).1.length c,.int .i64 ((fZ s).2.1:Int),.int .i64 ((fZ s).2.2.length:Int)])∧Rd w' A (strs ((fZ s).1.map txt))∧(fZ s).1.length≤c∧Below w.heap.size w w'
theorem ag3(s:ByteArray)(A:Option Addr)(cap:Nat)(l:List Nat)(w:World)(hs:s.size≤900000)(hr:Rd w A (D7 l))(hl:l.length≤1000000)(hm:∀x∈l,x<65536) :
 Calls prog 17 #[.string s,.slice A l.length cap] w (KQ w s.data.toList):=by
 have HP:Hid (∀x,Below w.heap.size w x→Calls prog 54 #[.string s,.slice A l.length cap] x (Ro x s l.length)):=fun x hx=>aku s A cap l x (by omega) (hr.below hx) hl hm
 clear hr hm
 go_enter func17,ntmps17
 go_wp2_with fail
 refine(acs w).mono ?_
 rintro e w1 ⟨d,rfl,hd,hF,hb1⟩
 have HF:=ah hF
 have HB1:=ah hb1
 have hld:=hF.1.1.lt
 clear hF hb1
 go_wp2_with fail
 refine(HP.out _ HB1.out).mono ?_
 rintro e w2 ⟨P,A2,c2,rfl,hPl,hfl,hrd,hfr,hb2⟩
 have hfd:=aan w.heap.size d (.slice none 0 0) [] 0 0 0 A2 c2 P w2 (HF.out.below hb2) (bb HB1.out hb2).size hrd (fun b off e=>⟨by have:=hfr b off e;omega,by simp[foot]⟩) (by rw[hfl,fK];simp;omega) (by omega) (by decide)
 rw[hfl,aam]at hfd
 have Xa:=ah hfd
 have HB2:=ah (bb HB1.out hb2)
 have hsz:=fK s
 clear hfd hrd hfr hb2 HF HP hfl hsz hPl
 have oM:Hid (∀A c w',Rd w' A (strs ((fZ s.data.toList).1.map txt))→(fZ s.data.toList).1.length≤c→Below w.heap.size w w'→KQ w s.data.toList (.returned (.tuple #[.slice A (fZ s.data.toList).1.length c,.int .i64 ((fZ s.data.toList).2.1:Int),.int .i64 ((fZ s.data.toList).2.2.length:Int)])) w'):=fun A c w' h1 h2 h3=>⟨A,c,rfl,h1,h2,h3⟩
 generalize fZ s.data.toList=X at *
 go_wp2_with fail
 refine Xa.out.mono ?_
 rintro e w3 ⟨r,v',need',rfl,hown,kV,hb3,hF3,_⟩
 obtain⟨A9,c9,vO,BQ,TV,_⟩:=Rd.own hown
 subst vO
 have FI:=ah (fun x (hx:Below w3.heap.size w3 x)=>SI d v' X.2.2 need' X.2.1 (0+X.1.length) x (hF3.below hx).1)
 have LW:=ah (fun x (hx:Below w3.heap.size w3 x)=>anS d v' X.2.2 need' X.2.1 (0+X.1.length) x (hF3.below hx).1)
 have HB3:=ah (HB2.out.trans (hb3.mono (au _)))
 have jq:=ah BQ
 have HC9:=ah TV
 clear hown kV hb3 hF3 BQ Xa TV
 have HE:Hid (∀w',Below w3.heap.size w3 w'→KQ w s.data.toList (.returned (.tuple #[.slice A9 X.1.length c9,.int .i64 (X.2.1:Int),.int .i64 (X.2.2.length:Int)])) w') :=
  fun w' h=>oM.out A9 c9 w' (jq.out.below h) HC9.out (bb HB3.out h)
 clear oM
 generalize X.1.length=XN at *
 generalize X.2.1=XE at *
 generalize X.2.2.length=XW at *
 go_wp2_with fail
 refine(FI.out _ b0).mono ?_
 rintro e w4 ⟨rfl,hb4⟩
 have HB4:=ah hb4
 clear hb4 FI
 go_wp2_with fail
 refine(LW.out _ HB4.out).mono ?_
 rintro e w5 ⟨rfl,hb5⟩
 have gY:=ah (bb HB4.out hb5)
 clear hb5 LW
 go_wp2_with fail
 exact bodyPost_ret (v:=.tuple #[.slice A9 XN c9,.int .i64 (XE:Int),.int .i64 (XW:Int)]) (by simp[results,results17,go_sem];try rfl) rfl (HE.out _ gY.out)
