/-
  Parts of the proof. Conditions: as each names.
-/
import Derived.Test.YtgidfnhfgiehjaaGreatDoorYax
import Derived.Test.YtgidfnhfgiehjaaGreatDoorYaw
import Derived.Lib.SmallJoins
namespace Go.Proofs.YtgidfnhfgiehjaaGreatDoor
open Go.PM Go.RowKit Go.Proofs.Tryz
theorem Ny{P:Nat→Int→Nat→ByteArray→Prop}(tags:List Nat)(yes:Bool):∀{f:Fs},f.All P→(gu tags yes f).All P
 |.nil,_=>trivial
 |.cons t y n s i r,h=>by
   rw[gu];split
   ·exact⟨h.1,h.2.1,Ny tags yes h.2.2⟩
   exact Ny tags yes h.2.2
theorem Tn(tags:List Nat)(yes:Bool):∀{f:Fs} {a w:Nat},kY f a w→kY (gu tags yes f) a w
 |.nil,_,_,_=>trivial
 |.cons t y n s i r,a,w,h=>by
   rw[gu];split
   ·exact⟨h.1,Tn tags yes h.2⟩
   exact ag2 (by have:=h.1.1;omega) (Tn tags yes h.2)
theorem Ed(tags:List Nat)(yes:Bool):∀f:Fs,(gu tags yes f).eP=f.eP.filter fun x=>decide (x.tag∈tags)==yes
 |.nil=>rfl
 |.cons t y n s i r=>by
   rw[gu,Fs.eP,List.filter_cons];by_cases h:decide (t∈tags)=yes
   ·rw[aA h,Fs.eP,Ed tags yes r,aA (by simpa using h)]
   rw[ay h,Ed tags yes r,ay (by simpa using h)]
theorem Jh:∀{f:Fs} {a w:Nat},kY f a w→f.eP.Pairwise (fun x y=>x.tag<y.tag)∧∀x∈f.eP,a<x.tag
 |.nil,_,_,_=>⟨List.Pairwise.nil,fun x hx=>by cases hx⟩
 |.cons t y n s i r,a,w,h=>by
   obtain⟨h1,h2⟩:=Jh h.2;have h3:=h.1.1;rw[Fs.eP];refine⟨cu.2 ⟨fun x hx=>h2 x hx,h1⟩,fun x hx=>?_⟩;rcases bC.1 hx with rfl|hx
   ·exact h3
   exact Nat.lt_trans h3 (h2 x hx)
theorem aaz{p q:Fs}(hp:fM p 0 0=0)(hq:fM q 0 0=0):jG [p,q]=vI (p.app q):=by
 have e:mO [p,q]=0:=by
  rw[mO,ay (by simpa using hp),mO,ay (by simpa using hq)];rfl
 unfold jG;rw[e,ay (by simp),iT,iT,iT,Fs.xJ]
end Go.Proofs.YtgidfnhfgiehjaaGreatDoor
namespace Go.Proofs.YtgidfnhfgiehjaaGreatDoor
open Go.PM Go.RowKit Go.Proofs.Tryz
set_option maxRecDepth 100000
set_option maxHeartbeats 4000000
attribute [local go_sem ↓] Go.wp_at_zero Go.wp_at_succ
theorem alh(k v:ByteArray)(w:World)(hk:k.size≤9223372036854775807)(hv:v.size≤9223372036854775807) :
 Calls prog 160 #[.agg #[.string k,.string v]] w (aj w (.int .i64 (dV k.data.toList v.data.toList))):=by
 have hx:=dU.made w 129 #[.string k,.string v]
 have HX:=ah hx
 have hb0:=ba (a:=w) b0 (.cells #[.string k,.string v] 129)
 have HB:=ah hb0
 have H1:=ah (VE k 1 64 (w.alloc (.cells #[.string k,.string v] 129)) hk trivial)
 have H2:Hid (∀x:World,Below w.heap.size w x→Calls prog 107 #[.string v,.int .i64 0,.int .i64 256] x (aj x (.int .i64 (jJ v.data.toList 0 256)))):=fun x _=>VE v 0 256 x hv trivial
 unfold dV
 clear hx hb0
 generalize jJ k.data.toList 1 64=a at *
 generalize jJ v.data.toList 0 256=b at *
 by_cases ha:a=0
 ·subst ha
  rw[ay (by simp)];go_enter func160,ntmps160;go_wp2_with fail;refine H1.out.mono ?_;rintro e w1 ⟨rfl,hb1⟩;have hx1:=HX.out.below hb1 HX.out.lt;have c1:=hx1.cell 1;simp at c1;have HB1:=ah (bb HB.out hb1);clear hb1 hx1;go_wp2_with fail;refine(H2.out _ HB1.out).mono ?_;rintro e w2 ⟨rfl,hb2⟩;have HB2:=ah (bb HB1.out hb2);clear hb2;go_wp2;go_ret;exact⟨rfl,HB2.out⟩
 ·rw[aA ha]
  have hai:(a != 0)=true:=by rw[aZ];exact ha
  clear ha;go_enter func160,ntmps160;go_wp2_with fail;refine H1.out.mono ?_;rintro e w1 ⟨rfl,hb1⟩;have HB1:=ah (bb HB.out hb1);clear hb1;go_wp2;go_ret;exact⟨rfl,HB1.out⟩
theorem al2(k v:ByteArray)(w:World)(hk:k.size≤1000000)(hv:v.size≤1000000) :
 Calls prog 165 #[.agg #[.string k,.string v]] w (aj w (.string (txt (jR k.data.toList v.data.toList)))):=by
 have hx:=dU.made w 129 #[.string k,.string v]
 have hb:=ba (a:=w) b0 (.cells #[.string k,.string v] 129)
 have HB:=ah hb
 have H1:Hid (∀x:World,Calls prog 70 #[.int .u64 (k.size:Int)] x (aj x (.string (txt (dY k.size))))):=fun x=>uV k.size x (by unfold In64;omega)
 have H2:Hid (∀x:World,Calls prog 70 #[.int .u64 (v.size:Int)] x (aj x (.string (txt (dY v.size))))):=fun x=>uV v.size x (by unfold In64;omega)
 have HE:Hid (((txt (dY k.size)++k)++txt (dY v.size))++v=txt (jR k.data.toList v.data.toList)):=by
  refine vX ?_;rw[wL,wL,wL,iD,iD,jR,fK,fK];simp
 have wk:IntKind.u64.wrap (k.size:Int)=(k.size:Int):=by rw[IntKind.wrap_u64];omega
 have wv:IntKind.u64.wrap (v.size:Int)=(v.size:Int):=by rw[IntKind.wrap_u64];omega
 have hP:(txt (dY k.size)).size≤10:=by rw[gI,fO];exact iJ (by omega)
 have hQ:(txt (dY v.size)).size≤10:=by rw[gI,fO];exact iJ (by omega)
 generalize txt (dY k.size)=P at *
 generalize txt (dY v.size)=Q at *
 have hr1:∀x:World,(Op.stringOp .add P k).run prog x=.ok (.string (P++k)) x:=fun x=>run_string_add_sum x P k (by omega)
 have hr2:∀x:World,(Op.stringOp .add (P++k) Q).run prog x=.ok (.string (P++k++Q)) x:=fun x=>run_string_add_sum x _ _ (by rw[ByteArray.size_append];omega)
 have hr3:∀x:World,(Op.stringOp .add (P++k++Q) v).run prog x=.ok (.string (P++k++Q++v)) x:=fun x=>run_string_add_sum x _ _ (by rw[ByteArray.size_append,ByteArray.size_append];omega)
 have lD:Hid (∀x:World,Below (w.alloc (.cells #[.string k,.string v] 129)).heap.size (w.alloc (.cells #[.string k,.string v] 129)) x→(x.cell? ⟨w.heap.size,0,none⟩=some (.string k)∧x.cell? ⟨w.heap.size,1,none⟩=some (.string v))):=fun x h=>⟨(hx.below h hx.lt).cell 0,(hx.below h hx.lt).cell 1⟩
 clear hx hb
 go_enter func165,ntmps165
 go_wp2_with fail
 generalize(w.alloc (.cells #[.string k,.string v] 129))=wz at lD HB⊢
 have hbW:Below wz.heap.size wz wz:=b0
 obtain⟨k0,k1⟩:=lD.out _ hbW
 go_region_held3 (fun x=>x.cell? ⟨w.heap.size,0,none⟩=some (.string k)∧x.cell? ⟨w.heap.size,1,none⟩=some (.string v)) (first|exact lD.out _ (by repeat(first|exact hbW|refine ba ?_ _|refine bd ?_))|go_keep)
  ((first
    |(go_at_call 70;with_reducible show Calls _ _ #[.int .u64 (k.size:Int)] _ _;refine(H1.out _).mono ?_;rintro e' W1 ⟨rfl,hb1'⟩;replace hbW:Below wz.heap.size wz W1:=bb (by repeat(first|exact hbW|refine ba ?_ _|refine bd ?_)) hb1';clear hb1';obtain⟨k0,k1⟩:=lD.out _ hbW)
    |(go_at_call 70;refine(H2.out _).mono ?_;rintro e' W1 ⟨rfl,hb1'⟩;replace hbW:Below wz.heap.size wz W1:=bb (by repeat(first|exact hbW|refine ba ?_ _|refine bd ?_)) hb1';clear hb1';obtain⟨k0,k1⟩:=lD.out _ hbW)))
 all_goals(go_wp2_with fail;go_ret;exact⟨by rw[← HE.out];rfl,bb HB.out (by repeat(first|exact hbW|refine ba ?_ _|refine bd ?_))⟩)
theorem acW(a b:ByteArray)(w:World)(ha:a.size≤9223372036854775807) :
 Calls prog 229 #[.string a,.string b] w (aj w (.bool (qY a.data.toList b.data.toList))):=by
 generalize hr:qY a.data.toList b.data.toList=r
 have HR:Hid (qY (a.data.toList.drop 0) (b.data.toList.drop 0)=r):=by rw[dD,dD];exact hr
 clear hr
 go_enter func229,ntmps229
 go_wp2_with fail
 go_loopg [5] a.size (fun gk vi wr=>∃i:Nat,i≤a.size∧i≤b.size∧a.size - i≤gk∧vi=.int .i64 (i:Int)∧Below w.heap.size w wr∧Hid (qY (a.data.toList.drop i) (b.data.toList.drop i)=r))
 case atStart=>exact⟨0,aW _,aW _,by omega,rfl,b0,HR⟩
 case round=>
  obtain⟨i,hia,hib,hgk,rfl,hbw,HI⟩:=hrel;have HB:=ah hbw;clear hbw;by_cases h1:i<a.size
  ·by_cases h2:i<b.size
   ·have hi:=HI.out
    rw[drop_at a i h1,drop_at b i h2,qY]at hi;have HI2:=ah hi;clear hi HI;have j1:(i:Int)<(a.size:Int):=(by omega);have j2:(i:Int)<(b.size:Int):=(by omega);by_cases he:a[i]=b[i]
    ·have hi:=HI2.out
     rw[ay (by simpa using he)]at hi;have HI3:Hid (qY (a.data.toList.drop (i+1)) (b.data.toList.drop (i+1))=r):=hi;have hne:(((a[i]).toNat:Int) != ((b[i]).toNat:Int))=false:=(by rw[he];simp);clear hi HI2;go_wp2_with fail;go_quiet(fail);go_wp2_with fail;go_roundg (a.size - (i+1))
     case measure=>omega
     case rel=>exact⟨i+1,by omega,by omega,au _,by go_num,bn HB.out _,HI3⟩
    have hi:=HI2.out;rw[aA he]at hi;have hne0:(a[i]).toNat≠(b[i]).toNat:=fun e=>he (UInt8.toNat_inj.1 e);have hne:(((a[i]).toNat:Int) != ((b[i]).toNat:Int))=true:=(by rw[aZ];omega);have hlt:decide (((a[i]).toNat:Int)<((b[i]).toNat:Int))=r:=(by rw[← hi];rw[decide_eq_decide];omega);have JO:decide ((a[i]).toNat<(b[i]).toNat)=r:=hi;have wH:=ah JO;clear hi HI2 he hne0 JO hlt;go_wp2_with fail;go_quiet(fail);go_wp2_with fail;go_quiet(fail);go_wp2_with fail;go_ret;exact⟨by rw[← wH.out];rfl,bn (bn HB.out _) _⟩
   have hi:=HI.out;rw[drop_at a i h1,drop_end b i (by omega),qY]at hi;subst hi;have hlt:decide ((a.size:Int)<(b.size:Int))=false:=aO (by omega);have JO:decide (a.size<b.size)=false:=aO (by omega);clear HI;go_wp2_with fail;go_ret;exact⟨rfl,HB.out⟩
  have hi:=HI.out;rw[drop_end a i (by omega)]at hi;by_cases h2:i<b.size
  ·rw[drop_at b i h2,qY]at hi
   subst hi;have hlt:decide ((a.size:Int)<(b.size:Int))=true:=bH (by omega);have JO:decide (a.size<b.size)=true:=bH (by omega);clear HI;go_wp2_with fail;go_ret;exact⟨rfl,HB.out⟩
  rw[drop_end b i (by omega),qY]at hi;subst hi;have hlt:decide ((a.size:Int)<(b.size:Int))=false:=aO (by omega);have JO:decide (a.size<b.size)=false:=aO (by omega);clear HI;go_wp2_with fail;go_ret;exact⟨rfl,HB.out⟩
theorem acT(ak av bk bv:ByteArray)(w:World)(h1:ak.size≤9223372036854775807)(h2:av.size≤9223372036854775807) :
 Calls prog 207 #[.agg #[.string ak,.string av],.agg #[.string bk,.string bv]] w (aj w (.int .i64 (qA ak.data.toList av.data.toList bk.data.toList bv.data.toList))):=by
 have hxa:=(dU.made w 129 #[.string ak,.string av]).more (.cells #[.string bk,.string bv] 129)
 have hxb:=dU.made (w.alloc (.cells #[.string ak,.string av] 129)) 129 #[.string bk,.string bv]
 simp only[World.size_alloc]at hxb
 have hb0:=ba (ba (a:=w) b0 (.cells #[.string ak,.string av] 129)) (.cells #[.string bk,.string bv] 129)
 have L6:=ah hxa
 have Bg:=ah hxb
 have HB:=ah hb0
 have HK:Hid (∀x:World,Calls prog 229 #[.string ak,.string bk] x (aj x (.bool (qY ak.data.toList bk.data.toList)))):=fun x=>acW ak bk x h1
 have HV:Hid (∀x:World,Calls prog 229 #[.string av,.string bv] x (aj x (.bool (qY av.data.toList bv.data.toList)))):=fun x=>acW av bv x h2
 rw[YV]at HK HV
 have e1:ak.data.toList=bk.data.toList↔ak=bk:=⟨fun h=>by rw[vX h];exact Ci bk,fun h=>by rw[h]⟩
 have e2:av.data.toList=bv.data.toList↔av=bv:=⟨fun h=>by rw[vX h];exact Ci bv,fun h=>by rw[h]⟩
 have z1:=wO ak.data.toList bk.data.toList
 have z2:=wO av.data.toList bv.data.toList
 have r1:=MZ ak.data.toList bk.data.toList
 have r2:=MZ av.data.toList bv.data.toList
 rw[e1]at z1
 rw[e2]at z2
 have hg:=als
 have G5:∀(x:ByteArray),(x.toList==x.toList)=true:=fun x=>by simp
 unfold qA
 clear hxa hxb hb0 e1 e2
 generalize Lib.compareBytes ak.data.toList bk.data.toList=p at *
 generalize Lib.compareBytes av.data.toList bv.data.toList=q at *
 have mG:Hid (∀x:World,Below ((w.alloc (.cells #[.string ak,.string av] 129)).alloc (.cells #[.string bk,.string bv] 129)).heap.size ((w.alloc (.cells #[.string ak,.string av] 129)).alloc (.cells #[.string bk,.string bv] 129)) x→(x.cell? ⟨w.heap.size,0,none⟩=some (.string ak)∧x.cell? ⟨w.heap.size,1,none⟩=some (.string av)∧x.cell? ⟨w.heap.size+1,0,none⟩=some (.string bk)∧x.cell? ⟨w.heap.size+1,1,none⟩=some (.string bv))):=fun x hx=>
  ⟨(L6.out.below hx L6.out.lt).cell 0,(L6.out.below hx L6.out.lt).cell 1,(Bg.out.below hx Bg.out.lt).cell 0,(Bg.out.below hx Bg.out.lt).cell 1⟩
 have hbW:Below ((w.alloc (.cells #[.string ak,.string av] 129)).alloc (.cells #[.string bk,.string bv] 129)).heap.size ((w.alloc (.cells #[.string ak,.string av] 129)).alloc (.cells #[.string bk,.string bv] 129)) ((w.alloc (.cells #[.string ak,.string av] 129)).alloc (.cells #[.string bk,.string bv] 129)):=b0
 obtain⟨p0,p1,p2,p3⟩:=mG.out _ hbW
 rcases r1 with rfl|rfl|rfl
 ·have uo:Hid (∀x:World,Calls prog 229 #[.string ak,.string bk] x (aj x (.bool true))):=HK.out
  rw[aA (by decide)];clear HK HV z1 z2;go_enter func207,ntmps207;go_wp2_with fail;refine(uo.out _).mono ?_;rintro e w1 ⟨rfl,hb2⟩;replace hbW:=bb hbW hb2
  clear hb2 p0 p1 p2 p3;obtain⟨p0,p1,p2,p3⟩:=mG.out _ hbW;go_wp2_with fail;go_ret;exact⟨rfl,bb HB.out hbW⟩
 ·obtain rfl:=z1.1 rfl
  have uo:Hid (∀x:World,Calls prog 229 #[.string ak,.string ak] x (aj x (.bool false))):=HK.out;rw[ay (by decide)];clear HK z1;rcases r2 with rfl|rfl|rfl
  ·have kQ:Hid (∀x:World,Calls prog 229 #[.string av,.string bv] x (aj x (.bool true))):=HV.out
   clear HV z2;go_enter func207,ntmps207;go_wp2_with fail;refine(uo.out _).mono ?_;rintro e w1 ⟨rfl,hb2⟩;replace hbW:=bb hbW hb2
   clear hb2 p0 p1 p2 p3;obtain⟨p0,p1,p2,p3⟩:=mG.out _ hbW;go_wp2_with fail;refine(kQ.out _).mono ?_;rintro e w2 ⟨rfl,hb2⟩;replace hbW:=bb hbW hb2
   clear hb2 p0 p1 p2 p3;obtain⟨p0,p1,p2,p3⟩:=mG.out _ hbW;go_wp2_with fail;go_ret;exact⟨rfl,bb HB.out hbW⟩
  ·obtain rfl:=z2.1 rfl
   have kQ:Hid (∀x:World,Calls prog 229 #[.string av,.string av] x (aj x (.bool false))):=HV.out;have heq:∀v:World,(binOp .eql 129 (.agg #[.string ak,.string av]) (.agg #[.string ak,.string av])).run prog v=.ok (.bool true) v:=fun v=>(by rw[VF];simp);clear HV z2;go_enter func207,ntmps207;go_wp2_with fail;refine(uo.out _).mono ?_;rintro e w1 ⟨rfl,hb2⟩;replace hbW:=bb hbW hb2
   clear hb2 p0 p1 p2 p3;obtain⟨p0,p1,p2,p3⟩:=mG.out _ hbW;go_wp2_with fail;refine(kQ.out _).mono ?_;rintro e w2 ⟨rfl,hb2⟩;replace hbW:=bb hbW hb2
   clear hb2 p0 p1 p2 p3;obtain⟨p0,p1,p2,p3⟩:=mG.out _ hbW;go_wp2_with fail;go_ret;exact⟨rfl,bb HB.out hbW⟩
  have hne:¬av=bv:=fun h=>aJ (z2.2 h) (by decide);have kQ:Hid (∀x:World,Calls prog 229 #[.string av,.string bv] x (aj x (.bool false))):=HV.out;have heq:∀v:World,(binOp .eql 129 (.agg #[.string ak,.string av]) (.agg #[.string ak,.string bv])).run prog v=.ok (.bool false) v:=fun v=>by rw[VF];simp[hne]
  clear HV z2 hne;go_enter func207,ntmps207;go_wp2_with fail;refine(uo.out _).mono ?_;rintro e w1 ⟨rfl,hb2⟩;replace hbW:=bb hbW hb2
  clear hb2 p0 p1 p2 p3;obtain⟨p0,p1,p2,p3⟩:=mG.out _ hbW;go_wp2_with fail;refine(kQ.out _).mono ?_;rintro e w2 ⟨rfl,hb2⟩;replace hbW:=bb hbW hb2
  clear hb2 p0 p1 p2 p3;obtain⟨p0,p1,p2,p3⟩:=mG.out _ hbW;go_wp2_with fail;go_ret;exact⟨rfl,bb HB.out hbW⟩
 ·have hne:¬ak=bk:=fun h=>aJ (z1.2 h) (by decide)
  have uo:Hid (∀x:World,Calls prog 229 #[.string ak,.string bk] x (aj x (.bool false))):=HK.out;have heq:∀v:World,(binOp .eql 129 (.agg #[.string ak,.string av]) (.agg #[.string bk,.string bv])).run prog v=.ok (.bool false) v:=fun v=>by rw[VF];simp[hne]
  have hsk:(ak.toList==bk.toList)=false:=by rw[aB,ByteArray.toList_eq,ByteArray.toList_eq];exact fun h=>hne (by rw[vX h];exact Ci bk)
  rw[aA (by decide)];clear HK HV z1 z2 hne;go_enter func207,ntmps207;go_wp2_with fail;refine(uo.out _).mono ?_;rintro e w1 ⟨rfl,hb2⟩;replace hbW:=bb hbW hb2
  clear hb2 p0 p1 p2 p3;obtain⟨p0,p1,p2,p3⟩:=mG.out _ hbW;go_wp2_with fail;go_ret;exact⟨rfl,bb HB.out hbW⟩
end Go.Proofs.YtgidfnhfgiehjaaGreatDoor
section
namespace Go.Proofs.YtgidfnhfgiehjaaGreatDoor
open Go.RowKit Go.ChangeShapes Go.WideShapes Go.Deep Go.PM
section
variable {H:Type} {enc:TypeId×Value→H} {P:Program} {w:World} {spare:Nat→Bool} {held:Bool}
theorem adN{n:Nat}:∀{ts:List TypeId} {ds:List (DataW H)} {i:Nat} {t:TypeId} {d:DataW H},ts[i]?=some t→ds[i]?=some d→n∈DataW.weights P t d→n∈DataW.weightsEach P ts ds
 |[],_,_,_,_,h,_,_=>by simp at h
 |_::_,[],_,_,_,_,h,_=>by simp at h
 |t::ts,d::ds,0,_,_,h1,h2,hn=>by
   simp only[List.getElem?_cons_zero,bJ]at h1 h2;subst h1 h2;rw[DataW.weightsEach,bZ];exact .inl hn
 |t::ts,d::ds,i+1,_,_,h1,h2,hn=>by
   rw[DataW.weightsEach,bZ];exact .inr (adN (by simpa using h1) (by simpa using h2) hn)
theorem P5{e:TypeId}{fs:Array Field}{ds:List (DataW H)}{i:Nat}{f:Field}{d:DataW H}{n:Nat}(he:P.underlying e=some (.struct fs))(hf:fs[i]?=some f)(hd:ds[i]?=some d)(hn:n∈DataW.weights P f.type d):n∈DataW.weights P e (.agg ds):=by
 unfold DataW.weights;rw[he];exact adN (by rw[List.getElem?_map,bU,hf];rfl) hd hn
theorem adn{e:TypeId}{fs:Array Field}{n:Nat}{cs:List Value}{D:DataW H}{Pl:List MemPlace}(he:P.underlying e=some (.struct fs))(hone:oneCellFields P fs=true)(hsz:P.cellsOf e=fs.size)
 (h:DataW.trod enc P w 0 spare held n e cs=some (D,Pl)) :
 cs.length=fs.size∧∃(k:Nat) (ys:List (DataW H×List MemPlace)),D=.agg (ys.map (·.1))∧∀(i:Nat) (f:Field) (v:Value),fs[i]?=some f→cs[i]?=some v→∃y,ys[i]?=some y∧DataW.trod enc P w 0 spare held k f.type [v]=some y:=by
 obtain⟨xs,k,_,hx,hlen,hxl,hf⟩:=DataW.trod_struct he h
 simp only[Prod.mk.injEq]at hx
 refine⟨by rw[hlen,hsz],k,xs,hx.1,fun i f v hfi hv=>?_⟩
 obtain⟨o,c⟩:=hone_of hone i f hfi
 have hy:=hf i f hfi
 have hlt:i<xs.length:=by rw[hxl];exact(bY.1 hfi).1
 rw[aP hlt,o,c]at hy
 have ht:(cs.drop i).take 1=[v]:=by
  obtain⟨hi,e⟩:=List.getElem?_eq_some_iff.1 hv;rw[bI hi,e];rfl
 rw[ht]at hy
 exact⟨xs[i],aP hlt,hy⟩
theorem akh{t e:TypeId}{f0 f1:Field}{n:Nat}{v:Value}{d:DataW H}{ps:List MemPlace}(ht:P.underlying t=some (.slice e))(he:P.underlying e=some (.struct #[f0,f1]))(ce:P.cellsOf e=2)
 (o:f0.offset=0∧f1.offset=1) (c:P.cellsOf f0.type=1∧P.cellsOf f1.type=1) (t0:P.underlying f0.type=some .string) (t1:P.underlying f1.type=some .string)
 (h:DataW.trod enc P w 0 spare held n t [v]=some (d,ps)) (hw:∀n∈DataW.weights P t d,n≤140737488351232) :
 ∃(A:Option Addr) (c:Nat) (l:List fD),v=.slice A l.length c∧pG w (fun _=>True) A l∧lg l∧l.length≤c∧c≤maxLen:=by
 have hv:∃A len c,v=.slice A len c:=by
  rcases open_slice ht h with⟨hcs,_⟩|⟨x,ln,c',_,_,_,_,hcs,_⟩
  ·simp only[List.cons.injEq,and_true]at hcs
   exact⟨_,_,_,hcs⟩
  simp only[List.cons.injEq,and_true]at hcs;exact⟨_,_,_,hcs⟩
 obtain⟨A,len,cp,rfl⟩:=hv
 obtain⟨l,rfl,hr,hz,hl,hm⟩:=akg ht he ce o c t0 t1 (a:=A) (len:=len) (cap:=cp) ⟨n,h⟩ hw
 exact⟨A,cp,l,rfl,Rd.zi hr fun _ _ _=>trivial,hz,hl,hm⟩
instance ao7:Inhabited Rv:=⟨⟨[],none,0,0⟩⟩
def FY(w:World)(r:Rv):Prop:=gJ w (fun _=>True) r∧lg r.d∧r.c≤maxLen∧r.n<18446744073709551616
theorem akj{t e:TypeId}{g0 g1:Field}{n:Nat}{v:Value}{d:DataW H}{ps:List MemPlace}(ht:P.underlying t=some (.slice e))(he:P.underlying e=some (.struct #[g0,g1]))(hone:oneCellFields P #[g0,g1]=true)(ce:P.cellsOf e=2)
 (t1:P.underlying g1.type=some (.int .u64))
 (hd:∀(k:Nat) (v:Value) (d:DataW H) (ps:List MemPlace),DataW.trod enc P w 0 spare held k g0.type [v]=some (d,ps)→(∀n∈DataW.weights P g0.type d,n≤140737488351232)→∃(A:Option Addr) (c:Nat) (l:List fD),v=.slice A l.length c∧pG w (fun _=>True) A l∧lg l∧l.length≤c∧c≤maxLen)
 (h:DataW.trod enc P w 0 spare held n t [v]=some (d,ps)) (hw:∀n∈DataW.weights P t d,n≤140737488351232) :
 ∃(A:Option Addr) (c:Nat) (l:List Rv),v=.slice A l.length c∧Rd w A (gZ l)∧(∀r∈l,FY w r)∧l.length≤c∧c≤maxLen:=by
 rcases open_slice ht h with⟨hcs,_⟩|⟨x,len,c',m,k,D,Pl,hcs,_,hl,hm,hmm,hx,hall⟩
 ·simp only[List.cons.injEq,and_true]at hcs
  exact⟨none,0,[],hcs,.inl rfl,(fun e he=>by cases he),au _,by unfold maxLen;omega⟩
 simp only[List.cons.injEq,and_true]at hcs
 subst hcs
 injection hx with hdd _
 have hlm:len≤m:=by rw[hmm];split<;>omega
 by_cases hz:len=0
 ·subst hz
  exact⟨_,c',[],rfl,.inl rfl,(fun e he=>by cases he),hl,hm⟩
 obtain⟨b,off,spot⟩:=x
 have hs:spot=none:=by
  obtain⟨cs,h1,_⟩:=hall 0 (by omega);obtain⟨_,hlen,hcell⟩:=World.cells?_some h1;have h0:=hcell 0 (by rw[ce];decide);rw[aP (by omega)]at h0;simpa[Addr.add]using World.cell?_spot h0
 subst hs
 have ha:∀q j,(⟨b,q,none⟩:Addr).add j=⟨b,q+j,none⟩:=fun q j=>by unfold Addr.add;split<;>simp_all
 have each:∀i,i<len→∃r:Rv,w.cell? ⟨b,off+i*2,none⟩=some (.slice r.A r.d.length r.c)∧w.cell? ⟨b,off+i*2+1,none⟩=some (.int .u64 (r.n:Int))∧FY w r:=by
  intro i hi;obtain⟨cs,h1,h2⟩:=hall i (by omega);obtain⟨_,hlen,hcell⟩:=World.cells?_some h1;rw[ce]at hlen hcell;obtain⟨hcl,k2,ys,hD,hat⟩:=adn he hone (by rw[ce];rfl) h2
  match cs,hlen with
  |[v0,v1],_=>
    obtain⟨y0,hy0,q0⟩:=hat 0 g0 v0 rfl rfl;obtain⟨y1,hy1,q1⟩:=hat 1 g1 v1 rfl rfl;obtain⟨d0,p0⟩:=y0;have hin:∀q∈DataW.weights P e (D i),q≤140737488351232:=fun q hq=>by
     refine hw q ?_;rw[hdd];unfold DataW.weights;rw[ht];simp only[bC,bZ];exact .inr (.inl (weightsAll_mem (dL.2 ⟨i,List.mem_range.2 hi,rfl⟩) hq))
    rw[hD]at hin;obtain⟨A,c,l,rfl,hr,hez,hlc,hcm⟩:=hd k2 v0 d0 p0 q0 fun q hq=>hin q (P5 he (i:=0) rfl (by rw[List.getElem?_map,hy0];rfl) hq);obtain⟨N,hN,_,hwf⟩:=DataW.trod_int t1 q1;simp only[List.cons.injEq,and_true]at hN;subst hN;have hb:=bounds_u64 hwf;obtain⟨N,rfl⟩:=bM hb.1;have k0:=hcell 0 (by decide);have k1:=hcell 1 (by decide);rw[ha,ha]at k0 k1;exact⟨⟨l,A,c,N⟩,by simpa using k0,by simpa using k1,⟨hlc,hr⟩,hez,hcm,by show N<_;omega⟩
 obtain⟨q,hq⟩:=choose_lt each
 have hb:b<w.heap.size:=World.block_lt_of_cell? w _ (hq 0 (by omega)).1
 have hlq:((List.range len).map q).length=len:=by simp
 refine⟨some ⟨b,off,none⟩,c',(List.range len).map q,by rw[hlq],.inr ⟨b,off,rfl,hb,fun j u hj=>?_⟩,fun y hy=>?_,by rw[hlq];exact hl,hm⟩
 ·have hjl:j<len*2:=by
   have:=(List.getElem?_eq_some_iff.1 hj).1;rw[VL,hlq]at this;exact this
  obtain⟨p1,p2⟩:=VK ((List.range len).map q) (j / 2) (by rw[hlq];omega);simp only[List.getElem_map,List.getElem_range]at p1 p2;obtain⟨r1,r2,_⟩:=hq (j / 2) (by omega);by_cases hj2:j%2=0
  ·have e1:j=j / 2*2:=by omega
   rw[e1,p1]at hj;injection hj with hj;rw[e1,r1,hj]
  have e1:j=j / 2*2+1:=by omega
  rw[e1,p2]at hj;injection hj with hj;rw[e1,← Nat.add_assoc,r2,hj]
 ·obtain⟨i,hi,rfl⟩:=dL.1 hy
  exact(hq i (List.mem_range.1 hi)).2.2
end
end Go.Proofs.YtgidfnhfgiehjaaGreatDoor
end
namespace Go.Proofs.YtgidfnhfgiehjaaGreatDoor
open Go.ChangeShapes Go.Deep Go.PM Go.RowKit Go.WideShapes Go.Proofs.Tryz
set_option maxRecDepth 100000
set_option maxHeartbeats 4000000
def yM(w:World)(m:Mp)(dv tv:Value):Prop:=(∃A c,dv=.slice A m.d.length c∧m.d.length≤c∧c≤maxLen∧pG w (fun _=>True) A m.d)∧∃(l:List Rv) (A:Option Addr) (c:Nat),tv=.slice A l.length c∧m.t=l.map Rv.rw∧Rd w A (gZ l)∧(∀r∈l,FY w r)∧l.length≤c∧c≤maxLen
structure I7 (m:Mp):Prop where
 kind:iK m.kind
 good:∀i,i<22→(m.val i).good
 nm:m.nm.length≤9223372036854775807
 rg:m.rg.length≤9223372036854775807
 nt:m.nt.length≤9223372036854775807
 d:lg m.d
 t:∀r∈m.t,lg r.1
 rest:m.rest=.nil
theorem open_raw{H:Type}{enc:TypeId×Value→H}{w W:World}{r:Reach}{b0:Nat}{spare:Nat→Bool}{held:Bool}{v:Value}{d:DataW H}{ps:List MemPlace}(hv:Value.okWide prog W r b0 31 v)
 (h:DataW.Trod enc prog w 0 spare held 31 v d ps) (hw:∀n∈DataW.weights prog 31 d,n≤140737488351232) :
 ∃(m:Mp) (dv tv:Value) (oA:Option Addr) (oc:Nat) (l:List One),v=.agg (dR m dv tv (.slice oA l.length oc))∧yM w m dv tv∧I7 m∧nD w.heap.size w oA l∧(∀x∈l,x.ok)∧l.length≤oc∧oc≤maxLen:=by
 have hcR:prog.cellsOf 31=24:=by kernel_rfl
 have hcB:prog.cellsOf 28=23:=by kernel_rfl
 have hcO:prog.cellsOf 29=1:=by kernel_rfl
 obtain⟨cs,rfl,hsz⟩:=okWide_struct underlying31 hv
 rw[hcR]at hsz
 obtain⟨fuel,hf⟩:=h
 obtain⟨xs,k,_,hx,hlen,hxl,hfs⟩:=DataW.trod_struct underlying31 hf
 simp only[Prod.mk.injEq]at hx
 obtain⟨hd,_⟩:=hx
 have hf0:DataW.trod enc prog w 0 spare held k 28 (((Value.agg cs).cells.toList.drop 0).take (prog.cellsOf 28))=xs[0]?:=hfs 0 _ rfl
 have hf1:DataW.trod enc prog w 0 spare held k 29 (((Value.agg cs).cells.toList.drop 23).take (prog.cellsOf 29))=xs[1]?:=hfs 1 _ rfl
 rw[hcB]at hf0
 rw[hcO]at hf1
 obtain⟨l,rfl⟩:∃l:List Value,cs=l.toArray:=⟨cs.toList,by simp⟩
 have nK:l.length=24:=by simpa using hsz
 obtain⟨v0,l,rfl⟩:=aK nK
 obtain⟨v1,l,rfl⟩:=aK (by simpa using nK:l.length=23)
 obtain⟨v2,l,rfl⟩:=aK (by simpa using nK:l.length=22)
 obtain⟨v3,l,rfl⟩:=aK (by simpa using nK:l.length=21)
 obtain⟨v4,l,rfl⟩:=aK (by simpa using nK:l.length=20)
 obtain⟨v5,l,rfl⟩:=aK (by simpa using nK:l.length=19)
 obtain⟨v6,l,rfl⟩:=aK (by simpa using nK:l.length=18)
 obtain⟨v7,l,rfl⟩:=aK (by simpa using nK:l.length=17)
 obtain⟨v8,l,rfl⟩:=aK (by simpa using nK:l.length=16)
 obtain⟨v9,l,rfl⟩:=aK (by simpa using nK:l.length=15)
 obtain⟨v10,l,rfl⟩:=aK (by simpa using nK:l.length=14)
 obtain⟨v11,l,rfl⟩:=aK (by simpa using nK:l.length=13)
 obtain⟨v12,l,rfl⟩:=aK (by simpa using nK:l.length=12)
 obtain⟨v13,l,rfl⟩:=aK (by simpa using nK:l.length=11)
 obtain⟨v14,l,rfl⟩:=aK (by simpa using nK:l.length=10)
 obtain⟨v15,l,rfl⟩:=aK (by simpa using nK:l.length=9)
 obtain⟨v16,l,rfl⟩:=aK (by simpa using nK:l.length=8)
 obtain⟨v17,l,rfl⟩:=aK (by simpa using nK:l.length=7)
 obtain⟨v18,l,rfl⟩:=aK (by simpa using nK:l.length=6)
 obtain⟨v19,l,rfl⟩:=aK (by simpa using nK:l.length=5)
 obtain⟨v20,l,rfl⟩:=aK (by simpa using nK:l.length=4)
 obtain⟨v21,l,rfl⟩:=aK (by simpa using nK:l.length=3)
 obtain⟨v22,l,rfl⟩:=aK (by simpa using nK:l.length=2)
 obtain⟨v23,l,rfl⟩:=aK (by simpa using nK:l.length=1)
 obtain rfl:l=[]:=aV (by simpa using nK)
 match xs,hxl with
 |[x0,x1],_=>
 obtain⟨xd,xp⟩:=x0
 obtain⟨yd,yp⟩:=x1
 have hB:DataW.trod enc prog w 0 spare held k 28 [v0,v1,v2,v3,v4,v5,v6,v7,v8,v9,v10,v11,v12,v13,v14,v15,v16,v17,v18,v19,v20,v21,v22]=some (xd,xp):=hf0
 have hO:DataW.trod enc prog w 0 spare held k 29 [v23]=some (yd,yp):=hf1
 simp only[dK,List.map_nil]at hd
 subst hd
 have hwB:∀n∈DataW.weights prog 28 xd,n≤140737488351232:=fun n hn=>hw n (P5 underlying31 (i:=0) rfl rfl hn)
 obtain⟨_,kb,ys,hxd,hat⟩:=adn underlying28 (by kernel_rfl) (by kernel_rfl) hB
 subst hxd
 obtain⟨y0,hy0,q0⟩:=hat 0 _ v0 rfl rfl
 obtain⟨y1,hy1,q1⟩:=hat 1 _ v1 rfl rfl
 obtain⟨y2,hy2,q2⟩:=hat 2 _ v2 rfl rfl
 obtain⟨y3,hy3,q3⟩:=hat 3 _ v3 rfl rfl
 obtain⟨y4,hy4,q4⟩:=hat 4 _ v4 rfl rfl
 obtain⟨y5,hy5,q5⟩:=hat 5 _ v5 rfl rfl
 obtain⟨y6,hy6,q6⟩:=hat 6 _ v6 rfl rfl
 obtain⟨y7,hy7,q7⟩:=hat 7 _ v7 rfl rfl
 obtain⟨y8,hy8,q8⟩:=hat 8 _ v8 rfl rfl
 obtain⟨y9,hy9,q9⟩:=hat 9 _ v9 rfl rfl
 obtain⟨y10,aoW,q10⟩:=hat 10 _ v10 rfl rfl
 obtain⟨y11,aoX,q11⟩:=hat 11 _ v11 rfl rfl
 obtain⟨y12,aoY,q12⟩:=hat 12 _ v12 rfl rfl
 obtain⟨y13,aoZ,q13⟩:=hat 13 _ v13 rfl rfl
 obtain⟨y14,ao0,q14⟩:=hat 14 _ v14 rfl rfl
 obtain⟨y15,ao1,q15⟩:=hat 15 _ v15 rfl rfl
 obtain⟨y16,ao2,q16⟩:=hat 16 _ v16 rfl rfl
 obtain⟨y17,ao3,q17⟩:=hat 17 _ v17 rfl rfl
 obtain⟨y18,ao4,q18⟩:=hat 18 _ v18 rfl rfl
 obtain⟨y19,ao5,q19⟩:=hat 19 _ v19 rfl rfl
 obtain⟨y20,ao6,q20⟩:=hat 20 _ v20 rfl rfl
 obtain⟨y21,aiD,q21⟩:=hat 21 _ v21 rfl rfl
 obtain⟨y22,aiE,q22⟩:=hat 22 _ v22 rfl rfl
 obtain⟨N0,e0,_,z0⟩:=DataW.trod_int underlying3 q0
 obtain⟨N1,e1,_,z1⟩:=DataW.trod_int underlying22 q1
 obtain⟨N2,e2,_,z2⟩:=DataW.trod_int underlying22 q2
 obtain⟨N3,e3,_,z3⟩:=DataW.trod_int underlying22 q3
 obtain⟨N4,e4,_,z4⟩:=DataW.trod_int underlying22 q4
 obtain⟨N5,e5,_,z5⟩:=DataW.trod_int underlying22 q5
 obtain⟨N6,e6,_,z6⟩:=DataW.trod_int underlying22 q6
 obtain⟨N7,e7,_,z7⟩:=DataW.trod_int underlying22 q7
 obtain⟨N8,e8,_,z8⟩:=DataW.trod_int underlying22 q8
 obtain⟨N9,e9,_,z9⟩:=DataW.trod_int underlying22 q9
 obtain⟨N10,e10,_,z10⟩:=DataW.trod_int underlying22 q10
 obtain⟨N11,e11,_,z11⟩:=DataW.trod_int underlying22 q11
 obtain⟨N12,e12,_,z12⟩:=DataW.trod_int underlying22 q12
 obtain⟨N13,e13,_,z13⟩:=DataW.trod_int underlying22 q13
 obtain⟨N14,e14,_,z14⟩:=DataW.trod_int underlying22 q14
 obtain⟨N15,e15,_,z15⟩:=DataW.trod_int underlying22 q15
 obtain⟨N16,e16,_,z16⟩:=DataW.trod_int underlying2 q16
 obtain⟨B17,e17,_⟩:=DataW.trod_bool underlying4 q17
 obtain⟨YN,e18,_,z18⟩:=DataW.trod_string underlying9 q18
 obtain⟨YO,e19,_,z19⟩:=DataW.trod_string underlying9 q19
 obtain⟨YP,e20,_,z20⟩:=DataW.trod_string underlying9 q20
 simp only[List.cons.injEq,and_true]at e0 e1 e2 e3 e4 e5 e6 e7 e8 e9 e10 e11 e12 e13 e14 e15 e16 e17 e18 e19 e20
 subst e0 e1 e2 e3 e4 e5 e6 e7 e8 e9 e10 e11 e12 e13 e14 e15 e16 e17 e18 e19 e20
 have b0:=bounds_i64 z0
 have b1:=bounds_u64 z1
 have b2:=bounds_u64 z2
 have b3:=bounds_u64 z3
 have b4:=bounds_u64 z4
 have b5:=bounds_u64 z5
 have b6:=bounds_u64 z6
 have b7:=bounds_u64 z7
 have b8:=bounds_u64 z8
 have b9:=bounds_u64 z9
 have b10:=bounds_u64 z10
 have b11:=bounds_u64 z11
 have b12:=bounds_u64 z12
 have b13:=bounds_u64 z13
 have b14:=bounds_u64 z14
 have b15:=bounds_u64 z15
 have b16:=bounds_i64 z16
 obtain⟨n1,rfl⟩:=bM b1.1
 obtain⟨n2,rfl⟩:=bM b2.1
 obtain⟨n3,rfl⟩:=bM b3.1
 obtain⟨n4,rfl⟩:=bM b4.1
 obtain⟨n5,rfl⟩:=bM b5.1
 obtain⟨n6,rfl⟩:=bM b6.1
 obtain⟨n7,rfl⟩:=bM b7.1
 obtain⟨n8,rfl⟩:=bM b8.1
 obtain⟨n9,rfl⟩:=bM b9.1
 obtain⟨n10,rfl⟩:=bM b10.1
 obtain⟨n11,rfl⟩:=bM b11.1
 obtain⟨n12,rfl⟩:=bM b12.1
 obtain⟨n13,rfl⟩:=bM b13.1
 obtain⟨n14,rfl⟩:=bM b14.1
 obtain⟨n15,rfl⟩:=bM b15.1
 obtain⟨Nb,p21⟩:=y21
 obtain⟨Zl,p22⟩:=y22
 have aa2:∀(k:Nat) (v:Value) (d:DataW H) (ps:List MemPlace),DataW.trod enc prog w 0 spare held k 24 [v]=some (d,ps)→(∀n∈DataW.weights prog 24 d,n≤140737488351232)→∃(A:Option Addr) (c:Nat) (l:List fD),v=.slice A l.length c∧pG w (fun _=>True) A l∧lg l∧l.length≤c∧c≤maxLen:=fun k v d ps h hw=>
  akh underlying24 underlying132 (by kernel_rfl) ⟨rfl,rfl⟩ ⟨by kernel_rfl,by kernel_rfl⟩ underlying9 underlying9 h hw
 obtain⟨dA,dc,dl,rfl,hdr,hdz,hdl,hdm⟩:=aa2 kb v21 Nb p21 q21 fun n hn=>hwB n (P5 underlying28 (i:=21) rfl (by rw[List.getElem?_map,aiD];rfl) hn)
 obtain⟨tA,tc,tl,rfl,htr,htz,htl,Ak⟩:=akj underlying26 underlying134 (by kernel_rfl) (by kernel_rfl) underlying22 aa2 q22 fun n hn=>hwB n (P5 underlying28 (i:=22) rfl (by rw[List.getElem?_map,aiE];rfl) hn)
 obtain⟨oA,ake,oc,rfl⟩:∃A len c,v23=.slice A len c:=by
  rcases open_slice underlying29 hO with⟨hcs,_⟩|⟨x,ln,c',_,_,_,_,hcs,_⟩
  ·simp only[List.cons.injEq,and_true]at hcs
   exact⟨_,_,_,hcs⟩
  simp only[List.cons.injEq,and_true]at hcs;exact⟨_,_,_,hcs⟩
 obtain⟨ol,rfl,ord,oin,olc,ocm⟩:=aki underlying29 underlying138 (by kernel_rfl) ⟨rfl,rfl,rfl,rfl,rfl⟩ ⟨by kernel_rfl,by kernel_rfl,by kernel_rfl,by kernel_rfl,by kernel_rfl⟩ underlying5 underlying22 underlying136 underlying22 underlying9 (a:=oA) (len:=ake) (cap:=oc) ⟨k,hO⟩
 refine⟨⟨N0,n1,n2,n3,n4,n5,n6,n7,n8,n9,n10,n11,n12,n13,n14,n15,N16,B17,YN.data.toList,YO.data.toList,YP.data.toList,dl,tl.map Rv.rw,.nil⟩,.slice dA dl.length dc,.slice tA tl.length tc,oA,oc,ol,?_,⟨⟨dA,dc,rfl,hdl,hdm,hdr⟩,tl,tA,tc,rfl,rfl,htr,htz,htl,Ak⟩,?_,ord,oin,olc,ocm⟩
 ·simp only[dR,Ci]
 ·unfold maxLen at z18 z19 z20
  refine⟨b0,?_,?_,?_,?_,hdz,fun r hr=>?_,rfl⟩
  ·refine kD ?_ ?_ ?_ ?_ ?_ ?_ ?_ ?_ ?_ ?_ ?_ ?_ ?_ ?_ ?_ ?_ ?_ ?_ ?_ ?_ ?_ ?_<;>simp only[Mp.val,Mv.good]
   all_goals first|trivial|omega|exact b16|(intro x hx;obtain⟨r,hr,rfl⟩:=dL.1 hx;exact(htz r hr).2.2.2)
  ·show YN.data.toList.length≤_;rw[fK];exact z18
  ·show YO.data.toList.length≤_;rw[fK];exact z19
  ·show YP.data.toList.length≤_;rw[fK];exact z20
  obtain⟨q,hq,rfl⟩:=dL.1 hr;exact(htz q hq).2.1
