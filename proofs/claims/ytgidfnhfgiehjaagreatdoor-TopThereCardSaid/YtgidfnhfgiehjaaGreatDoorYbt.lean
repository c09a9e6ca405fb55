/-
  Parts of the proof. Conditions: as each names.
-/
import Derived.Test.YtgidfnhfgiehjaaGreatDoorYbr
import Derived.Test.YtgidfnhfgiehjaaGreatDoorYbq
namespace Go.Proofs.YtgidfnhfgiehjaaGreatDoor
open Go.PM Go.RowKit Go.Proofs.Tryz
set_option maxRecDepth 100000
set_option maxHeartbeats 8000000
attribute [local go_sem ↓] Go.wp_at_zero Go.wp_at_succ
theorem abW:∀k v,k≤8→1≤v→v≤3→((fJ k v).length=0↔iP k=0∨v<iP k)
 |0,1,_,_,_|0,2,_,_,_|0,3,_,_,_|1,1,_,_,_|1,2,_,_,_|1,3,_,_,_|2,1,_,_,_|2,2,_,_,_|2,3,_,_,_|3,1,_,_,_|3,2,_,_,_|3,3,_,_,_=>by decide
 |4,1,_,_,_|4,2,_,_,_|4,3,_,_,_|5,1,_,_,_|5,2,_,_,_|5,3,_,_,_|6,1,_,_,_|6,2,_,_,_|6,3,_,_,_|7,1,_,_,_|7,2,_,_,_|7,3,_,_,_|8,1,_,_,_|8,2,_,_,_|8,3,_,_,_=>by decide
 |k+9,_,h,_,_=>aJ h (by omega)
 |_,0,_,h,_=>aJ h (by omega)
 |_,v+4,_,_,h=>aJ h (by omega)
theorem abV(k:Int):eH k≤8:=by unfold eH;split<;>omega
theorem ajp(v:Mv)(h:v.use≤2):v.may=0:=by
 cases v<;>first|rfl|(simp[Mv.use]at h)
theorem ajq(v:Mv)(h:v.use=3):v.may=jJ v.field.2 0 256:=by
 cases v<;>first|rfl|(simp[Mv.use]at h)
theorem adE:∀i,i<22→(gy i=4→i=6)∧(gy i=5→i=20):=by
 refine kD ?_ ?_ ?_ ?_ ?_ ?_ ?_ ?_ ?_ ?_ ?_ ?_ ?_ ?_ ?_ ?_ ?_ ?_ ?_ ?_ ?_ ?_<;>decide
theorem anZ{m:Mp}(hz:jV m):∀i,i<22→gy i=3→(m.val i).field.2.length≤9223372036854775807:=by
 refine kD ?_ ?_ ?_ ?_ ?_ ?_ ?_ ?_ ?_ ?_ ?_ ?_ ?_ ?_ ?_ ?_ ?_ ?_ ?_ ?_ ?_ ?_<;>intro h
 all_goals first
  |exact aJ h (by decide)
  |exact hz.nm
  |exact hz.nt
  |exact hz.rg
theorem ali(v:Nat)(h1:1≤v)(h3:v≤3){I:Nat→Prop}{m:Mp}{dv tv rv:Value}(w:World)(hv:gU w I m dv tv rv)(hL:(fJ (eH m.kind) v).length=0) :
 Calls prog 61 #[.agg (dR m dv tv rv),.int .i64 (v:Int)] w (aj w (.int .i64 15)):=by
 have nU:=ah (fun x=>VH m.kind v x h3)
 have hlo:¬(v:Int)<1:=by omega
 have hhi:¬(3:Int)<(v:Int):=by omega
 generalize fJ (eH m.kind) v=L at *
 obtain⟨dA,dc,tA,tc,rA,rc,rfl,rfl,rfl⟩:=hv.slices
 obtain⟨wz,hwz,-,HM,fC⟩:=lM w 68 (dR m (.slice dA m.d.length dc) (.slice tA m.t.length tc) (.slice rA m.rest.len rc))
 have HV:=ah (hv.below fC.out)
 clear hv
 simp only[dR]at hwz
 unfold dR
 go_enter func61,ntmps61
 go_wp2_with fail
 rw[← hwz]
 refine(nU.out _).mono ?_
 rintro e w1 ⟨A,c,rfl,hrd,hlc,hb1⟩
 have HB1:=ah (bb fC.out hb1)
 clear hb1 nU hwz HM HV hrd hlc
 rw[hL]
 clear hL
 go_wp2_with fail
 go_ret
 exact⟨rfl,HB1.out⟩
theorem alj(v:Nat)(h1:1≤v)(h3:v≤3){I:Nat→Prop}{m:Mp}{dv tv rv:Value}(w:World)(hv:gU w I m dv tv rv)(hz:jV m)(hL:(fJ (eH m.kind) v).length≠0) :
 Calls prog 61 #[.agg (dR m dv tv rv),.int .i64 (v:Int)] w (wX w m v):=by
 have pK:¬(iP (eH m.kind)=0∨v<iP (eH m.kind)):=fun h=>hL ((abW (eH m.kind) v (abV _) h1 h3).2 h)
 have nU:=ah (fun x=>VH m.kind v x h3)
 have hok:=zh (eH m.kind) v
 have hll:(fJ (eH m.kind) v).length≤5:=aI (List.length_filter_le _ _) (Au _)
 have qV:Hid (∀e w',e=.returned (.int .i64 (if ql m (fJ (eH m.kind) v)then 26
  else if iQ m (fJ (eH m.kind) v)≠0 then iQ m (fJ (eH m.kind) v)
  else if m.bounds≠0 then m.bounds
  else if fM m.rest 0 0≠0 then(fM m.rest 0 0:Int)
  else if m.rest.eP.any (fun f=>decide (f.tag∈(fJ (eH m.kind) v).map Sp.tag))then 14 else 0))→Below w.heap.size w w'→wX w m v e w'):=fun e w' he hb=>by
  have e:iG m v=if ql m (fJ (eH m.kind) v)then 26
   else if iQ m (fJ (eH m.kind) v)≠0 then iQ m (fJ (eH m.kind) v)
   else if m.bounds≠0 then m.bounds
   else if fM m.rest 0 0≠0 then(fM m.rest 0 0:Int)
   else if m.rest.eP.any (fun f=>decide (f.tag∈(fJ (eH m.kind) v).map Sp.tag))then 14 else 0:=by
   unfold iG
   rw[ay pK]
   rfl
  exact⟨by rw[he,e],hb⟩
 have hlo:¬(v:Int)<1:=by omega
 have hhi:¬(3:Int)<(v:Int):=by omega
 generalize fJ (eH m.kind) v=L at *
 generalize wX w m v=Q at *
 have HZ:=ah hz
 have lT:=ah hok
 have hL0:((L.length:Int)==0)=false:=by rw[aB];omega
 clear hz hok pK hL
 obtain⟨dA,dc,tA,tc,rA,rc,rfl,rfl,rfl⟩:=hv.slices
 obtain⟨wz,hwz,-,HM,fC⟩:=lM w 68 (dR m (.slice dA m.d.length dc) (.slice tA m.t.length tc) (.slice rA m.rest.len rc))
 have HV:=ah (hv.below fC.out)
 clear hv
 simp only[dR]at hwz
 unfold dR
 go_enter func61,ntmps61
 go_wp2_with fail
 rw[← hwz]
 refine(nU.out _).mono ?_
 rintro e w2 ⟨A,c,rfl,hrd,hlc,hb2⟩
 have jq:=ah hrd
 have KZ:=ah hb2
 clear hrd hb2 nU hwz hlo hhi
 go_wp2_with fail
 refine(acX _).mono ?_
 rintro e w4 ⟨rfl,hnm,hb4⟩
 have FD:Hid (Below wz.heap.size wz w4):=bb KZ.out hb4
 have CQ:=ah hb4
 have zH:=ah hnm
 have ou:Hid (AQ L m 0):=fun i hi=>aJ hi (by omega)
 clear hnm hb4 KZ
 go_wp2_with fail
 go_loopg [34] 22 (fun gk ki wr=>∃j:Nat,j≤22∧22 - j≤gk∧ki=.int .i64 (j:Int)∧Hid (AQ L m j)∧Hid (Below w4.heap.size w4 wr))
 case atStart=>exact⟨0,by omega,by omega,rfl,ou,b0⟩
 case round=>
  obtain⟨j,hj,hgj,rfl,HN,HB⟩:=hrel;obtain⟨wo,rfl⟩:∃wo,wo=wr:=⟨_,rfl⟩;obtain⟨G,hG⟩:∃G,G=gk:=⟨_,rfl⟩;rw[← hG]at hgj;have iW:=ah (bb FD.out HB.out);by_cases jl:j<22
  ·obtain⟨b,off,iL,hbl,hcn⟩:=(zH.out.below HB.out).at_ (k:=j) (by simpa[oU,tH]using jl)
   injection iL with iL;injection iL with e1 e2;subst e1 e2;rw[O4,aX]at hcn;have hji:(j:Int)<22:=(by omega);have jh:Hid ((L.any fun s=>decide (s.nm=dW j))=true∨(m.val j).nothing=true→AQ L m (j+1)):=fun h i hi=>by
    rcases Nat.lt_or_ge i j with h2|h2
    ·exact HN.out i h2
    obtain rfl:i=j:=(by omega);exact h
   have rO:Hid (∀x dv tv rv,gU x I m dv tv rv→Calls prog 106 #[.agg (dR m dv tv rv),.string (txt (dW j))] x (aj x (.bool (m.val j).nothing))):=fun x dv tv rv h=>alI x h HZ.out j jl;have zM:Hid ((L.any fun s=>decide (s.nm=dW j))=false→(m.val j).nothing=false→ql m L=true):=fun h2 h3=>adl jl h2 h3;have HI0:Hid (((L.take 0).any fun s=>decide (s.nm=dW j))=false):=rfl;have Dx:Hid (Rd wo A (lS L)):=(jq.out.below CQ.out).below HB.out;generalize dW j=N at *;clear HN ou;go_wp2_with fail;go_loopg [8,40] L.length (fun gk vi ki wi=>∃q:Nat,q≤L.length∧L.length - q≤gk∧ki=.int .i64 (q:Int)∧vi=.bool ((L.take q).any fun s=>decide (s.nm=N))∧Hid (Below wo.heap.size wo wi))
   case atStart=>exact⟨0,by omega,by omega,rfl,rfl,b0⟩
   case round=>
    obtain⟨q,hq,hgq,rfl,rfl,nC⟩:=hrel;by_cases abh:q<L.length
    ·obtain⟨b,off,iL,hbl,c0,c1,c2,c3⟩:=uU (Dx.out.below nC.out) abh
     have KU:=ah iL;subst iL;have hst:((L.take (q+1)).any fun s=>decide (s.nm=N))=(((L.take q).any fun s=>decide (s.nm=N))||decide (L[q].nm=N)):=by
      rw[← aT abh,List.any_append];simp
     have HST:=ah hst;generalize L[q]=s at *;have hbe:((txt s.nm).toList==(txt N).toList)=decide (s.nm=N):=by
      rw[ByteArray.toList_eq,ByteArray.toList_eq,Bool.eq_iff_iff];simp[txt]
     have iy:=ah (ba nC.out (.cells #[.int .u64 (s.tag:Int),.int .i64 (s.use:Int),.int .i64 (s.from_:Int),.string (txt s.nm)] 198));clear nC hst;generalize(L.take q).any (fun s=>decide (s.nm=N))=V at *;cases V with
     |true=>
       rw[Bool.true_or]at HST;clear hbe;go_wp2_with fail;go_roundg (L.length - (q+1))
       case measure=>omega
       case rel=>exact⟨q+1,by omega,au _,by go_num,by rw[HST.out],iy⟩
     |false=>
       rw[Bool.false_or]at HST;generalize decide (s.nm=N)=D at *;go_wp2_with fail;go_roundg (L.length - (q+1))
       case measure=>omega
       case rel=>exact⟨q+1,by omega,au _,by go_num,by rw[HST.out],iy⟩
    ·obtain rfl:q=L.length:=by omega
     rw[aU (au _)];have hm:=HM.out.below (bb iW.out nC.out) HM.out.lt;have pz:=ah hm;have kU:=HV.out.below (bb iW.out nC.out);have Dk:=ah kU;clear hm kU;cases hk:(L.any fun s=>decide (s.nm=N))with
     |true=>
       have iq:=ah (jh.out (.inl hk));have qP:=ah (bb HB.out nC.out);clear hk jh zM rO Dk nC;go_wp2_with fail;go_roundg (22 - (j+1))
       case measure=>omega
       case rel=>exact⟨j+1,by omega,au _,by go_num,iq,qP⟩
     |false=>
       have Dp:Hid ((m.val j).nothing=true→AQ L m (j+1)):=fun h=>jh.out (.inr h);have DC:Hid ((m.val j).nothing=false→ql m L=true):=zM.out hk;clear hk jh zM;generalize(m.val j).nothing=D at *
       go_wp2_with
        (with_reducible show wpList _ _ _ (Oper.mk _ (Op.load 68 _) _ _ _ _::_) _ _;apply pin)
       refine AO (by rfl) _ _ rfl _ rfl _ pz.out underlying68 rfl (tu _ _ _ _) ?_;go_wp2_with fail;refine(rO.out _ _ _ _ Dk.out).mono ?_;rintro e w6 ⟨rfl,hb6⟩;have iE:=ah (bb (bb HB.out nC.out) hb6);clear hb6 rO Dk pz nC;cases D with
       |true=>
         have iq:=ah (Dp.out rfl);clear Dp DC;go_wp2_with fail;go_roundg (22 - (j+1))
         case measure=>omega
         case rel=>exact⟨j+1,by omega,au _,by go_num,iq,iE⟩
       |false=>
         have hs:=DC.out rfl;rw[hs]at qV;clear Dp DC hs;go_wp2_with fail;exact qV.out _ _ rfl (bb fC.out (bb FD.out iE.out))
  ·obtain rfl:j=22:=by omega
   have hsn:ql m L=false:=adk HN.out;rw[hsn]at qV
   have pF:Hid (∀e w',e=.returned (.int .i64 (if iQ m L≠0 then iQ m L
    else if m.bounds≠0 then m.bounds
    else if fM m.rest 0 0≠0 then(fM m.rest 0 0:Int)
    else if m.rest.eP.any (fun f=>decide (f.tag∈L.map Sp.tag))then 14 else 0))→Below w.heap.size w w'→Q e w'):=fun e w' he hb=>qV.out e w' (by rw[he];rfl) hb
   have HRW:Hid (Rd wo A (lS L)):=(jq.out.below CQ.out).below HB.out;have HI:Hid (iQ m (L.drop 0)=iQ m L):=rfl;clear HN hsn qV zH HB ou jq CQ;go_wp2_with fail;go_loopg [63] L.length (fun gk ki wx=>∃j:Nat,j≤L.length∧L.length - j≤gk∧ki=.int .i64 (j:Int)∧Hid (iQ m (L.drop j)=iQ m L)∧Hid (Below wo.heap.size wo wx))
   case atStart=>exact⟨0,by omega,by omega,rfl,HI,b0⟩
   case round=>
    obtain⟨j,hj,hgj,rfl,jy,HB⟩:=hrel;obtain⟨wx,rfl⟩:∃wx,wx=wr:=⟨_,rfl⟩;have iy:=ah (bb iW.out HB.out);by_cases jl:j<L.length
    ·obtain⟨b,off,iL,hbl,c0,c1,c2,c3⟩:=uU (HRW.out.below HB.out) jl
     have KU:=ah iL;subst iL;obtain⟨s1,su,su5,_,_,s6,_⟩:=lT.out.2 L[j] (aS jl);have HST:=ah (acg m jl);generalize L[j]=s at *;rw[s6]at c3;have hbs:=ba (a:=wx) b0 (.cells #[.int .u64 (s.tag:Int),.int .i64 (s.use:Int),.int .i64 (s.from_:Int),.string (txt (dW (six s)))] 198);have gY:=ah hbs;have hmx:=HM.out.below (bb iy.out hbs) HM.out.lt;have pz:=ah hmx;have zL:=ah (dU.made wx 198 #[.int .u64 (s.tag:Int),.int .i64 (s.use:Int),.int .i64 (s.from_:Int),.string (txt (dW (six s)))]);have hvu:(m.val (six s)).use=s.use:=(by rw[Mp.CB,su]);clear hbs s6 HI;by_cases hu2:s.use≤2
     ·have hm0:=ajp (m.val (six s)) (by omega)
      have u3:((s.use:Int)==3)=false:=(by rw[aB];omega);have u4:((s.use:Int)==4)=false:=(by rw[aB];omega);have u5:((s.use:Int)==5)=false:=(by rw[aB];omega);have iq:Hid (iQ m (L.drop (j+1))=iQ m L):=by
       have h1:=HST.out;rw[hm0,ay (by simp)]at h1;exact h1.symm.trans jy.out
      have iV:=ah (bb HB.out gY.out);clear HST jy hm0 hvu su hmx;go_wp2_with fail;go_roundg (L.length - (j+1))
      case measure=>omega
      case rel=>exact⟨j+1,by omega,au _,by go_num,iq,iV⟩
     have FT:Hid (∀x,Below (wx.alloc (.cells #[.int .u64 (s.tag:Int),.int .i64 (s.use:Int),.int .i64 (s.from_:Int),.string (txt (dW (six s)))] 198)).heap.size (wx.alloc (.cells #[.int .u64 (s.tag:Int),.int .i64 (s.use:Int),.int .i64 (s.from_:Int),.string (txt (dW (six s)))] 198)) x→x.cell? ⟨wx.heap.size,1,none⟩=some (.int .i64 (s.use:Int))∧wx.heap.size<x.heap.size):=fun x hx=>⟨(zL.out.below hx zL.out.lt).cell 1,(zL.out.below hx zL.out.lt).lt⟩;by_cases hu3:s.use=3
     ·have hmw:=ajq (m.val (six s)) (by omega)
      have hwl:=anZ HZ.out (six s) s1 (by omega);have Yr:=ah (fun(dA tA rA:Option Addr) (dn dc tn tc rn rc:Nat) x=>ac3 m dA tA rA dn dc tn tc rn rc x (six s) s1 (by omega));have u3:((s.use:Int)==3)=true:=(by rw[hu3];rfl);have u4:((s.use:Int)==4)=false:=(by rw[hu3];rfl);have u5:((s.use:Int)==5)=false:=(by rw[hu3];rfl);rw[hmw]at HST;generalize(m.val (six s)).field.2=fs at *;have WX:Hid (∀x,Calls prog 107 #[.string (txt fs),.int .i64 0,.int .i64 256] x (aj x (.int .i64 (jJ fs 0 256)))):=fun x=>by
       have:=VE (txt fs) 0 256 x (by rw[gI];exact hwl) trivial
       rwa [iD]at this
      clear hmw hwl hvu su hmx hu2 hu3 zL;generalize jJ fs 0 256=E at *
      go_wp2_with
       (with_reducible show wpList _ _ _ (Oper.mk _ (Op.load 68 _) _ _ _ _::_) _ _;apply pin)
      refine nN rfl _ _ rfl _ rfl _ pz.out underlying68 rfl (tu m _ _ _) ?_;go_wp2_with fail;refine(Yr.out _ _ _ _ _ _ _ _ _ _).mono ?_;rintro e w5 ⟨rfl,hb5⟩;have hs5:=hb5;replace gY:=ah (bb gY.out hb5)
      clear hb5 Yr;go_wp2_with fail;refine(WX.out _).mono ?_;rintro e w6 ⟨rfl,hb6⟩;obtain⟨k1,k2⟩:=FT.out _ (bb hs5 hb6);clear WX hs5 FT pz c0 c1 c2 c3;have iE:=ah (bb gY.out hb6);clear hb6;by_cases hE:E=0
      ·subst hE
       have iq:Hid (iQ m (L.drop (j+1))=iQ m L):=by
        have h1:=HST.out;rw[ay (by simp)]at h1;exact h1.symm.trans jy.out
       have iV:=ah (bb HB.out iE.out);clear HST jy;go_wp2_with fail;go_roundg (L.length - (j+1))
       case measure=>omega
       case rel=>exact⟨j+1,by omega,au _,by go_num,iq,iV⟩
      have hL:iQ m L=E:=by
       have h1:=HST.out;rw[aA hE]at h1;exact jy.out.symm.trans h1
      rw[hL,aA hE]at pF;have yU:(E != 0)=true:=(by rw[aZ];exact hE);clear hL HST jy hE;go_wp2_with fail;exact pF.out _ _ rfl (bb fC.out (bb iy.out iE.out))
     by_cases JW:s.use=4
     ·have h6:six s=6:=(adE (six s) s1).1 (by omega)
      have u3:((s.use:Int)==3)=false:=(by rw[JW];rfl);have u4:((s.use:Int)==4)=true:=(by rw[JW];rfl);have u5:((s.use:Int)==5)=false:=(by rw[JW];rfl);have hcd:=hmx.cell 21;have hld:=hmx.lt;have hmw:(m.val (six s)).may=if m.d=[]then 0 else iZ dV m.d:=by rw[h6];rfl
      rw[hmw]at HST;clear hmw hvu su hu2 hu3 JW zL;by_cases hd:m.d=[]
      ·rw[aA hd]at HST
       have hcd2:(wx.alloc (.cells #[.int .u64 (s.tag:Int),.int .i64 (s.use:Int),.int .i64 (s.from_:Int),.string (txt (dW (six s)))] 198)).cell? ⟨w.heap.size,21,none⟩=some (.slice dA 0 dc):=by
        have h:=hmx.cell 21;rw[h];show some (Value.slice dA m.d.length dc)=_;rw[hd];rfl
       have iq:Hid (iQ m (L.drop (j+1))=iQ m L):=by
        have h1:=HST.out;rw[ay (by simp)]at h1;exact h1.symm.trans jy.out
       have iV:=ah (bb HB.out gY.out);clear HST jy hmx pz FT hcd hd h6;go_wp2_with fail;go_roundg (L.length - (j+1))
       case measure=>omega
       case rel=>exact⟨j+1,by omega,au _,by go_num,iq,iV⟩
      rw[ay hd]at HST;have hcd2:(wx.alloc (.cells #[.int .u64 (s.tag:Int),.int .i64 (s.use:Int),.int .i64 (s.from_:Int),.string (txt (dW (six s)))] 198)).cell? ⟨w.heap.size,21,none⟩=some (.slice dA m.d.length dc):=hmx.cell 21;have h0:0<m.d.length:=List.length_pos_iff.2 hd;have h0i:(0:Int)<(m.d.length:Int):=(by omega);have HC2:Hid (∀x,Below wx.heap.size wx x→Calls prog 109 #[.slice dA m.d.length dc] x (aj x (.int .i64 (iZ dV m.d)))):=fun x hx=>by
       obtain⟨⟨A',c',e1,_,hrd⟩,_⟩:=HV.out.below (bb iy.out hx);injection e1 with e1 _ e3;subst e1 e3;exact acP dA dc m.d x hrd.rd HZ.out.d HZ.out.dl
      clear hmx pz hcd hd h6;generalize iZ dV m.d=E at *;generalize m.d.length=dl at *;go_wp2_with fail;refine(HC2.out _ gY.out).mono ?_;rintro e w6 ⟨rfl,hb6⟩;obtain⟨k1,k2⟩:=FT.out _ hb6;clear HC2 FT c0 c1 c2 c3 hcd2 hld;have iE:=ah (bb gY.out hb6);clear hb6;by_cases hE:E=0
      ·subst hE
       have iq:Hid (iQ m (L.drop (j+1))=iQ m L):=by
        have h1:=HST.out;rw[ay (by simp)]at h1;exact h1.symm.trans jy.out
       have iV:=ah (bb HB.out iE.out);clear HST jy;go_wp2_with fail;go_roundg (L.length - (j+1))
       case measure=>omega
       case rel=>exact⟨j+1,by omega,au _,by go_num,iq,iV⟩
      have hL:iQ m L=E:=by
       have h1:=HST.out;rw[aA hE]at h1;exact jy.out.symm.trans h1
      rw[hL,aA hE]at pF;have yU:(E != 0)=true:=(by rw[aZ];exact hE);clear hL HST jy hE;go_wp2_with fail;exact pF.out _ _ rfl (bb fC.out (bb iy.out iE.out))
     have Ox:s.use=5:=(by omega);have h20:six s=20:=(adE (six s) s1).2 (by omega);have u3:((s.use:Int)==3)=false:=(by rw[Ox];rfl);have u4:((s.use:Int)==4)=false:=(by rw[Ox];rfl);have u5:((s.use:Int)==5)=true:=(by rw[Ox];rfl);have hld:=hmx.lt;have hcd2:(wx.alloc (.cells #[.int .u64 (s.tag:Int),.int .i64 (s.use:Int),.int .i64 (s.from_:Int),.string (txt (dW (six s)))] 198)).cell? ⟨w.heap.size,22,none⟩=some (.slice tA m.t.length tc):=hmx.cell 22;have hmw:(m.val (six s)).may=jv dV m.t:=(by rw[h20];rfl);have HC2:Hid (∀x,Below wx.heap.size wx x→Calls prog 110 #[.slice tA m.t.length tc] x (aj x (.int .i64 (jv dV m.t)))):=fun x hx=>by
      obtain⟨_,⟨l,A',c',e1,et,hrd,hro,_⟩,_⟩:=HV.out.below (bb iy.out hx);injection e1 with e1 e2 e3;subst e1 e3;have:=ac1 tA tc l I x hrd hro (fun r hr=>HZ.out.t r.rw (by rw[et];exact List.mem_map_of_mem hr)) (by have:=HZ.out.tl;omega);rw[← et,← e2]at this;exact this
     rw[hmw]at HST;clear hmw hvu su hu2 hu3 JW Ox zL hmx pz h20;generalize jv dV m.t=E at *;generalize m.t.length=tl at *;go_wp2_with fail;refine(HC2.out _ gY.out).mono ?_;rintro e w6 ⟨rfl,hb6⟩;clear HC2 FT c0 c1 c2 c3 hcd2 hld;have iE:=ah (bb gY.out hb6);clear hb6;by_cases hE:E=0
     ·subst hE
      have iq:Hid (iQ m (L.drop (j+1))=iQ m L):=by
       have h1:=HST.out;rw[ay (by simp)]at h1;exact h1.symm.trans jy.out
      have iV:=ah (bb HB.out iE.out);clear HST jy;go_wp2_with fail;go_roundg (L.length - (j+1))
      case measure=>omega
      case rel=>exact⟨j+1,by omega,au _,by go_num,iq,iV⟩
     have hL:iQ m L=E:=by
      have h1:=HST.out;rw[aA hE]at h1;exact jy.out.symm.trans h1
     rw[hL,aA hE]at pF;have yU:(E != 0)=true:=(by rw[aZ];exact hE);clear hL HST jy hE;go_wp2_with fail;exact pF.out _ _ rfl (bb fC.out (bb iy.out iE.out))
    obtain rfl:j=L.length:=(by omega);have hm0:iQ m L=0:=(by rw[← jy.out,List.drop_length];rfl);rw[hm0]at pF;have vw:Hid (∀e w',e=.returned (.int .i64 (if m.bounds≠0 then m.bounds else if fM m.rest 0 0≠0 then(fM m.rest 0 0:Int)else if m.rest.eP.any (fun f=>decide (f.tag∈L.map Sp.tag))then 14 else 0))→Below w.heap.size w w'→Q e w'):=fun e w' he hb=>pF.out e w' (by rw[he];rfl) hb;have hmx:=HM.out.below iy.out HM.out.lt;have pz:=ah hmx;have wY:=ah (alE wx (HV.out.below iy.out));have sN:Hid (∀x,Below wx.heap.size wx x→Calls prog 112 #[.slice rA m.rest.len rc,.int .i64 0] x (aj x (.int .i64 (fM m.rest 0 0:Int)))):=fun x hx=>
     acR m.rest.count rA rc m.rest I 0 x (au _) (HV.out.below (bb iy.out hx)).2.2 HZ.out.good.2 (aI HZ.out.rest (by decide)) (.inl (by omega))
    have tq:wx.cell? ⟨w.heap.size,23,none⟩=some (.slice rA m.rest.len rc):=hmx.cell 23;have hlx:=hmx.lt;have hrl:m.rest.len≤1000000:=aI m.rest.kH (aI HZ.out.rest (by decide));have Dx:Hid (Rd wx A (lS L)):=HRW.out.below HB.out;clear hm0 pF hmx jy HI HRW;generalize m.bounds=BD at *
    go_wp2_with
     (with_reducible show wpList _ _ _ (Oper.mk _ (Op.load 68 _) _ _ _ _::_) _ _;refine nN rfl _ _ rfl _ rfl _ pz.out underlying68 rfl (tu _ _ _ _) ?_)
    refine wY.out.mono ?_;rintro e w7 ⟨rfl,hb7⟩;have iV:=ah hb7;clear hb7 wY pz tq hlx;by_cases hB0:BD=0
    ·subst hB0
     have Es:=HM.out.below (bb iy.out iV.out) HM.out.lt;have tq:w7.cell? ⟨w.heap.size,23,none⟩=some (.slice rA m.rest.len rc):=Es.cell 23;have hlx:=Es.lt;clear Es;go_wp2_with fail;refine(sN.out _ iV.out).mono ?_;rintro e w8 ⟨rfl,hb8⟩;have kN:=ah (bb (bb iy.out iV.out) hb8);have yE:Hid (Rd w8 A (lS L)):=(Dx.out.below iV.out).below hb8;clear hb8 sN Dx tq hlx;generalize fM m.rest 0 0=FC at *;by_cases yV:FC=0
     ·subst yV
      have qW:Hid (∀e w',e=.returned (.int .i64 (if m.rest.eP.any (fun f=>decide (f.tag∈L.map Sp.tag))then 14 else 0))→Below w.heap.size w w'→Q e w'):=fun e w' he hb=>vw.out e w' (by rw[he];rfl) hb;have Et:=HM.out.below kN.out HM.out.lt;have tq:w8.cell? ⟨w.heap.size,23,none⟩=some (.slice rA m.rest.len rc):=Et.cell 23;have hlx:=Et.lt;have ou:Hid (∀k h,k<0→((m.rest.eP[k]'h).tag) ∉ L.map Sp.tag):=fun k _ h=>aJ h (by omega);clear Et vw;go_wp2_with fail;clear tq;go_loopg [110] m.rest.len (fun gk ki wy=>∃k:Nat,k≤m.rest.len∧m.rest.len - k≤gk∧ki=.int .i64 (k:Int)∧Hid (∀q h,q<k→((m.rest.eP[q]'h).tag) ∉ L.map Sp.tag)∧Hid (Below w8.heap.size w8 wy))
      case atStart=>exact⟨0,by omega,by omega,rfl,ou,b0⟩
      case round=>
       obtain⟨k,hk,hgk,rfl,HN,HB⟩:=hrel;obtain⟨wy,rfl⟩:∃wy,wy=wr:=⟨_,rfl⟩;have qP:=ah (bb kN.out HB.out);by_cases hltk:k<m.rest.len
       ·obtain⟨b,o,Ai,ci,hre,hbl,d0,d1,d2,d3,d4⟩:=PD (HV.out.below qP.out).2.2 k hltk
        subst hre;have hkt:k<m.rest.eP.length:=(by rw[oK];exact hltk);have jh:Hid ((m.rest.eP[k]'hkt).tag ∉ L.map Sp.tag→∀q h,q<k+1→((m.rest.eP[q]'h).tag) ∉ L.map Sp.tag):=fun h q hq hlt=>by
         rcases Nat.lt_or_ge q k with h2|h2
         ·exact HN.out q hq h2
         obtain rfl:q=k:=(by omega);exact h
        have zO:Hid ((m.rest.eP[k]'hkt).tag∈L.map Sp.tag→m.rest.eP.any (fun f=>decide (f.tag∈L.map Sp.tag))=true):=fun h=>List.any_eq_true.2 ⟨_,aS hkt,by simpa using h⟩;generalize hfe:m.rest.eP[k]'hkt=F at *;obtain⟨tg,ty,nu,tx,inn⟩:=F;simp only at d0 d1 d2 d3 d4 jh zO;have hfm:=dU.made wy 207 #[.int .u64 (tg:Int),.int .i64 ty,.int .u64 (nu:Int),.string tx,.slice Ai inn.len ci];have hbf:=ba (a:=wy) b0 (.cells #[.int .u64 (tg:Int),.int .i64 ty,.int .u64 (nu:Int),.string tx,.slice Ai inn.len ci] 207);generalize inn.len=il at *;clear hfe hkt HN ou;go_wp2_with fail;have iY:=ah hfm;have fU:=ah hbf;have wJ:Hid (Rd (wy.alloc (.cells #[.int .u64 (tg:Int),.int .i64 ty,.int .u64 (nu:Int),.string tx,.slice Ai il ci] 207)) A (lS L)):=(yE.out.below HB.out).below hbf;have HI0:Hid (∀q h,q<0→(L[q]'h).tag≠tg):=fun q _ h=>aJ h (by omega)
        clear hfm hbf d0 d1 d2 d3 d4;generalize wy.alloc (.cells #[.int .u64 (tg:Int),.int .i64 ty,.int .u64 (nu:Int),.string tx,.slice Ai il ci] 207)=wf at iY fU wJ⊢;obtain⟨G,hG⟩:∃G,G=gk:=⟨_,rfl⟩;rw[← hG]at hgk;go_loopg [116] L.length (fun gk ki wi=>∃j:Nat,j≤L.length∧L.length - j≤gk∧ki=.int .i64 (j:Int)∧Hid (∀q h,q<j→(L[q]'h).tag≠tg)∧Hid (Below wf.heap.size wf wi))
        case atStart=>exact⟨0,by omega,by omega,rfl,HI0,b0⟩
        case round=>
         obtain⟨j,hj,hgj,rfl,HJ,nC⟩:=hrel;obtain⟨wi,rfl⟩:∃wi,wi=wr:=⟨_,rfl⟩;by_cases jl:j<L.length
         ·obtain⟨b2,off2,iL,rC,c0,c1,c2,c3⟩:=uU (wJ.out.below nC.out) jl
          subst iL;have hfc:=iY.out.below nC.out iY.out.lt;have q0:=hfc.cell 0;have hlf:=hfc.lt;simp at q0;have xw:Hid ((L[j]'jl).tag≠tg→∀q h,q<j+1→(L[q]'h).tag≠tg):=fun h q hq hlt=>by
           rcases Nat.lt_or_ge q j with h2|h2
           ·exact HJ.out q hq h2
           obtain rfl:q=j:=(by omega);exact h
          have Di:Hid ((L[j]'jl).tag=tg→tg∈L.map Sp.tag):=fun h=>dL.2 ⟨_,aS jl,h⟩;generalize L[j]'jl=s at *;have Ik:=ah (ba nC.out (.cells #[.int .u64 (s.tag:Int),.int .i64 (s.use:Int),.int .i64 (s.from_:Int),.string (txt s.nm)] 198));clear hfc HJ HI0;by_cases he:s.tag=tg
          ·have hany:=zO.out (Di.out he)
           rw[hany]at qW;have heb:((tg:Int)==(s.tag:Int))=true:=(by rw[he];simp);clear hany zO jh xw Di he;go_wp2_with fail;exact qW.out _ _ rfl (bb fC.out (bb qP.out (bb fU.out Ik.out)))
          have HJ2:=ah (xw.out he);have heb:((tg:Int)==(s.tag:Int))=false:=(by rw[aB];omega);clear xw Di he;go_wp2_with fail;go_roundg (L.length - (j+1))
          case measure=>omega
          case rel=>exact⟨j+1,by omega,au _,by go_num,HJ2,Ik⟩
         obtain rfl:j=L.length:=(by omega);have iq:=ah (jh.out fun hm=>by
          obtain⟨s,hs,e⟩:=dL.1 hm;obtain⟨q,hq,e2⟩:=List.getElem_of_mem hs;exact HJ.out q hq hq (by rw[e2];exact e))
         have Fz:=ah (bb HB.out (bb fU.out nC.out));clear HJ HI0 jh zO;go_wp2_with fail;go_roundg (m.rest.len - (k+1))
         case measure=>omega
         case rel=>exact⟨k+1,by omega,au _,by go_num,iq,Fz⟩
       obtain rfl:k=m.rest.len:=(by omega);have hany:m.rest.eP.any (fun f=>decide (f.tag∈L.map Sp.tag))=false:=by
        rw[List.any_eq_false];intro f hf;obtain⟨q,hq,e2⟩:=List.getElem_of_mem hf;rw[← e2];simpa using HN.out q hq (by rw[oK]at hq;exact hq)
       rw[hany]at qW;clear hany HN ou;go_wp2_with fail;exact qW.out _ _ rfl (bb fC.out qP.out)
     have TJ:¬(FC:Int)=0:=(by omega);have hFb:((FC:Int)==0)=false:=(by rw[aB];exact TJ);have qW:Hid (∀e w',e=.returned (.int .i64 (FC:Int))→Below w.heap.size w w'→Q e w'):=fun e w' he hb=>vw.out e w' (by rw[he,ay (by simp),aA yV]) hb;clear vw yV;go_wp2_with fail;exact qW.out _ _ rfl (bb fC.out kN.out)
    have hBb:(BD==0)=false:=(by rw[aB];exact hB0);have qW:Hid (∀e w',e=.returned (.int .i64 BD)→Below w.heap.size w w'→Q e w'):=fun e w' he hb=>vw.out e w' (by rw[he,aA hB0]) hb;clear vw;go_wp2_with fail;exact qW.out _ _ rfl (bb fC.out (bb iy.out iV.out))
theorem acQ(v:Nat)(h1:1≤v)(h3:v≤3){I:Nat→Prop}{m:Mp}{dv tv rv:Value}(w:World)(hv:gU w I m dv tv rv)(hz:jV m) :
 Calls prog 61 #[.agg (dR m dv tv rv),.int .i64 (v:Int)] w (wX w m v):=by
 by_cases hL:(fJ (eH m.kind) v).length=0
 ·have hb:=(abW (eH m.kind) v (abV _) h1 h3).1 hL
  refine(ali v h1 h3 w hv hL).mono fun e w' ⟨h4,h5⟩=>⟨?_,h5⟩;rw[h4];unfold iG;rw[aA hb]
 ·exact alj v h1 h3 w hv hz hL
def I4(w:World)(r:Fs×Int)(e:Ending)(w':World):Prop :=
 ∃(A:Option Addr) (c:Nat),e=.returned (.tuple #[.slice A r.1.len c,.int .i64 r.2])∧eF w' (fun _=>True) (.slice A r.1.len c) r.1∧Below w.heap.size w w'
def MP(w:World)(f:Fs)(vv:Value)(wr:World):Prop:=∃A c xs,vv=.slice A f.len c∧wr.ownsRow w.heap.size 207 5 (.slice A f.len c) f.len xs∧Cls wr (fun _=>False) xs f∧Below w.heap.size w wr
theorem alA{w2 wr W6:World}{i0:TypeInfo}(hi0:prog.info? 207=some i0)(hz0:i0.zero=some oL)(hz1:i0.size=5)(hz2:i0.bytes=64){F:List Fl}{Av:Option Addr}{cv:Nat}{xs:List Value}{x:Fl}{g:Nat}(hown:wr.ownsRow w2.heap.size 207 5 (.slice Av (fB F).len cv) (fB F).len xs)
 (hcls:Cls wr (fun _=>False) xs (fB F)) (hbel:Below w2.heap.size w2 wr) (hb:Below wr.heap.size wr W6) (hg:dU W6 g 207 #[.int .u64 (x.tag:Int),.int .i64 x.ty,.int .u64 (x.num:Int),.string x.text,.slice none 0 0]) (hgl:wr.heap.size≤g) (hx:x.inner=.nil) (hF:∀y∈F,y.inner=.nil) (h5:(fB F).len≤100) :
 ∃(A':Option Addr) (c':Nat) (w':World),(Builtin.append_ #[66,66] 66 #[.slice Av (fB F).len cv,.slice (some ⟨g,0,none⟩) 1 1]).run prog W6=.ok (.slice A' (fB (F++[x])).len c') w'∧MP w2 (fB (F++[x])) (.slice A' (fB (F++[x])).len c') w':=by
 have hsl:eF W6 (fun k=>k=g) (.slice (some ⟨g,0,none⟩) (fB [x]).len 1) (fB [x]):=by
  refine⟨_,1,rfl,au _,.inr ⟨g,0,rfl,rfl,hg.lt,?_⟩⟩;refine Cls.at_ (xs:=[.int .u64 (x.tag:Int),.int .i64 x.ty,.int .u64 (x.num:Int),.string x.text,.slice none 0 0]) ?_ fun j u hj=>?_
  ·obtain⟨t,y,n,s,i⟩:=x
   simp only at hx;subst hx;exact⟨rfl,rfl,rfl,rfl,eF.nil _ _ _ _,trivial⟩
  rw[aX,hg.cell j,List.getElem?_toArray];exact hj
 obtain⟨A',c',w',xs',hrun,hown',Ud,hgr,_⟩:=Gu (P:=prog) 66 66 207 i0 underlying66 hi0 hz0 hz1 hz2 (own_below hown hb) (hcls.below hb) (fun k hk=>hk.elim) hsl (fun k hk e=>by have:=(hown.lt k e).2;omega) (by
  have:(fB [x]).len=1:=rfl;omega) (aI hbel.size hb.size)
 rw[Vl]
 refine⟨A',c',w',hrun,A',c',xs',rfl,hown',Cls.bare Ud fun y hy=>?_,(hbel.trans (hb.mono hbel.size)).grown hgr (aI hbel.size hb.size) fun k hk=>(hown.lt k hk).1⟩
 rw[uX,qM,qM,bZ]at hy
 rcases hy with hy|hy
 ·exact hF y hy
 ·rw[List.mem_singleton.1 hy,hx]
theorem alv(v:Nat)(h1:1≤v)(h3:v≤3){I:Nat→Prop}{m:Mp}{dv tv rv:Value}(w:World)(hv:gU w I m dv tv rv)(hz:jV m)(hT:Tabs w) :
 Calls prog 113 #[.agg (dR m dv tv rv),.int .i64 (v:Int)] w (I4 w (fQ m v)):=by
 obtain⟨i0,hi0,hz0,hz1,hz2⟩:=info_parts UR
 have Dq:Hid (iG m v≠0→fQ m v=(.nil,iG m v)):=fun h=>by unfold fQ;rw[aA h]
 have rQ:Hid (iG m v=0→fQ m v=((jG [mQ m (fJ (eH m.kind) v),m.rest]).1,((jG [mQ m (fJ (eH m.kind) v),m.rest]).2:Int))):=fun h=>by unfold fQ;rw[ay (by simpa using h)]
 have HZ:=ah hz
 have HT:=ah hT
 obtain⟨dA,dc,tA,tc,rA,rc,rfl,rfl,rfl⟩:=hv.slices
 obtain⟨wz,hwz,-,HM,fC⟩:=lM w 68 (dR m (.slice dA m.d.length dc) (.slice tA m.t.length tc) (.slice rA m.rest.len rc))
 have HV:=ah (hv.below fC.out)
 clear hv
 simp only[dR]at hwz
 have jw:=ah (acQ v h1 h3 wz HV.out HZ.out)
 have iO:=HM
 rw[hwz]at iO
 unfold dR
 go_enter func113,ntmps113
 go_wp2_with
  (with_reducible show wpList _ _ _ (Oper.mk _ (Op.load 68 _) _ _ _ _::_) _ _;refine nN rfl _ _ rfl _ rfl _ iO.out underlying68 rfl (tu _ _ _ _) ?_)
 rw[← hwz]
 refine jw.out.mono ?_
 rintro e w1 ⟨rfl,hb1⟩
 have HB1:=ah hb1
 clear hb1 jw hwz iO hz hT
 by_cases hc0:iG m v≠0
 ·have h:=Dq.out hc0
  have hcb:(iG m v==0)=false:=by rw[aB];exact hc0
  have HE:Hid (∀w',Below w.heap.size w w'→I4 w (fQ m v) (.returned (.tuple #[.slice none 0 0,.int .i64 (iG m v)])) w'):=fun w' hb=>by
   rw[h];exact⟨none,0,rfl,eF.nil _ _ _ _,hb⟩
  clear h Dq rQ;generalize iG m v=E at *;generalize I4 w (fQ m v)=Q at *;go_wp2_with fail;exact HE.out _ (bb fC.out HB1.out)
 ·have hce:iG m v=0:=by simpa using hc0
  have hmf:=rQ.out hce;have hE:=Kq (RJ hce 6 (by decide));obtain⟨c1,_,_,c4,_,_,_⟩:=vS hce;have hk4:=EJ c1;have hkv:iP (eH m.kind)≤v:=(vS hce).2.1;have nU:=ah (fun x=>VH m.kind v x h3);have Ba:=ah (RJ hce);have lT:=ah (zh (eH m.kind) v);have hll:(fJ (eH m.kind) v).length≤5:=aI (List.length_filter_le _ _) (Au (eH m.kind));have yB:=ah (G8 c4 HZ.out.good);have qV:Hid (∀e w' w2,Below w.heap.size w w2→FX w2 (jG [mQ m (fJ (eH m.kind) v),m.rest]) e w'→I4 w (fQ m v) e w'):=fun e w' w2 hb hme=>by
   rw[hmf];obtain⟨A,c,h1,h2,h3⟩:=hme;exact⟨A,c,h1,h2,bb hb h3⟩
  have W9:=ah hE;rw[hce];clear hmf Dq rQ hc0 hce c1 c4 hk4 hkv hE;generalize I4 w (fQ m v)=Q at *;generalize fJ (eH m.kind) v=L at *;have hm1:=HM.out.below HB1.out HM.out.lt;have hc0:w1.cell? ⟨w.heap.size,0,none⟩=some (.int .i64 m.kind):=hm1.cell 0;have hl1:=hm1.lt;clear hm1;go_wp2_with fail;refine(nU.out _).mono ?_;rintro e w2 ⟨A,c,rfl,hrd,hlc,hb2⟩;have jq:=ah hrd;have HB2:=ah (bb HB1.out hb2);have H0:Hid (MP w2 (fB ((L.take 0).filterMap (iH m))) (.slice none 0 0) w2):=⟨none,0,[],rfl,World.ownsRow_nil _ _ _ _,trivial,b0⟩;clear hrd hb2 nU hc0 hl1 HB1;go_wp2_with fail;go_loopg [7,23] L.length (fun gk vv ki wr=>∃j:Nat,j≤L.length∧L.length - j≤gk∧ki=.int .i64 (j:Int)∧Hid (MP w2 (fB ((L.take j).filterMap (iH m))) vv wr))
  case atStart=>exact⟨0,aW _,by omega,rfl,H0⟩
  case round=>
   obtain⟨j,hj,hgj,rfl,HS⟩:=hrel;obtain⟨Av,cv,xs,rfl,hown,hcls,hbel⟩:=HS.out;have pW:=ah (bb HB2.out hbel);by_cases hlt:j<L.length
   ·obtain⟨b,off,iL,hbl,c0,c1,c2,c3⟩:=uU (jq.out.below hbel) hlt
    subst iL;obtain⟨s1,s2,s3,_,_,s6,_⟩:=lT.out.2 L[j] (aS hlt);have hst:(L.take (j+1)).filterMap (iH m)=(L.take j).filterMap (iH m)++(iH m L[j]).toList:=by
     rw[← aT hlt,List.filterMap_append,List.filterMap_cons,List.filterMap_nil];cases iH m L[j]<;>rfl
    have HST:=ah hst;have Ug:(fB ((L.take j).filterMap (iH m))).len≤5:=by
     rw[wU];exact aI (List.length_filterMap_le _ _) (by rw[bD];omega)
    generalize hs:L[j]=s at *;rw[s6]at c3;have wF:Hid (∀y∈(L.take j).filterMap (iH m),y.inner=.nil):=fun y hy=>by
     obtain⟨s',_,hs'⟩:=dJ.1 hy;rw[(tY hs').2]
    generalize(L.take j).filterMap (iH m)=F at *;have hbs:=ba (a:=wr) b0 (.cells #[.int .u64 (s.tag:Int),.int .i64 (s.use:Int),.int .i64 (s.from_:Int),.string (txt (dW (six s)))] 198);have hms:=dU.made wr 198 #[.int .u64 (s.tag:Int),.int .i64 (s.use:Int),.int .i64 (s.from_:Int),.string (txt (dW (six s)))];have hmm:=(HM.out.below pW.out HM.out.lt).below hbs (HM.out.below pW.out HM.out.lt).lt;have yI:=ah (Po (wr.alloc (.cells #[.int .u64 (s.tag:Int),.int .i64 (s.use:Int),.int .i64 (s.from_:Int),.string (txt (dW (six s)))] 198)) (HV.out.below (bb pW.out hbs)) HZ.out (six s) s1 (.inr (Ba.out _ s1)));have nR:=ah hbs;have Dl:=ah hms;have jy:=ah hmm;have HOW:=ah hown;have mG:=ah hcls;have jd:=ah hbel;have pO:=jy.out.lt;simp only[World.size_alloc]at pO;have G6:(if s.use≤2 then(0:Int)else 1)=(s.use:Int) / 3:=by
     rcases(by omega:s.use=0∨s.use=1∨s.use=2∨s.use=3∨s.use=4∨s.use=5)with h|h|h|h|h|h<;>rw[h]<;>rfl
    clear hbs hms hmm hown hcls hbel HS H0 hs hst s6 s2;generalize txt (dW (six s))=N at *
    go_wp2_with
     (with_reducible show wpList _ _ _ (Oper.mk _ (Op.load 68 _) _ _ _ _::_) _ _;refine nN rfl _ _ rfl _ rfl _ jy.out underlying68 rfl (tu _ _ _ _) ?_)
    refine yI.out.mono ?_;rintro e w5 ⟨rfl,hb5⟩;have kZ:=Dl.out.below hb5 Dl.out.lt;have q0:=kZ.cell 0;have q1:=kZ.cell 1;have hlq:=kZ.lt;simp at q0 q1;have gY:=ah (bb nR.out hb5);clear kZ hb5 yI nR Dl jy;have yH:Hid (iH m s=if(m.val (six s)).field.1=0∧(m.val (six s)).field.2=[]then none else some ⟨s.tag,if s.use≤2 then 0 else 1,(m.val (six s)).field.1,txt (m.val (six s)).field.2,.nil⟩):=rfl;generalize(m.val (six s)).field.1=n at *;generalize(m.val (six s)).field.2=S at *;rw[G6]at yH;clear G6;have hwb:=jd.out.size;rcases Decidable.em (n=0∧S=[])with⟨hn0,hS0⟩|hne
    ·have hst:=HST.out
     rw[yH.out,aA ⟨hn0,hS0⟩,Option.toList_none,bQ]at hst;have HN:Hid (MP w2 (fB ((L.take (j+1)).filterMap (iH m))) (.slice Av (fB F).len cv) w5):=by
      rw[hst];exact⟨Av,cv,xs,rfl,own_below HOW.out gY.out,mG.out.below gY.out,jd.out.trans (gY.out.mono hwb)⟩
     have he:(txt S).toList.isEmpty=true:=(by rw[BF];simpa using hS0);clear HST yH hst;subst hn0;have HWX:=ah hwb;clear hwb hS0;go_wp2_with fail;go_roundg (L.length - (j+1))
     case measure=>omega
     case rel=>exact⟨j+1,by omega,au _,by go_num,HN⟩
    have hst:=HST.out;rw[yH.out,ay hne,Option.toList_some]at hst;have hbk:=ba gY.out (.cells #[.int .u64 (s.tag:Int),.int .i64 ((s.use:Int) / 3),.int .u64 (n:Int),.string (txt S),.slice none 0 0] 207);have hmk:=dU.made w5 207 #[.int .u64 (s.tag:Int),.int .i64 ((s.use:Int) / 3),.int .u64 (n:Int),.string (txt S),.slice none 0 0];obtain⟨A',c',w7,hrun,pK⟩:=alA (x:=⟨s.tag,(s.use:Int) / 3,n,txt S,.nil⟩) hi0 hz0 hz1 hz2 HOW.out mG.out jd.out hbk hmk (by have:=gY.out.size;omega) rfl wF.out (by omega);rw[← hst]at hrun pK;have lC:=ah hrun;have HN:=ah pK;obtain⟨G,hG⟩:∃G,G=fB ((L.take (j+1)).filterMap (iH m)):=⟨_,rfl⟩;rw[← hG]at lC HN;have Dc:=ah hG;clear hst hbk hmk hrun pK HST yH hG wF HOW mG jd;by_cases hn0:n=0
    ·have hS0:S≠[]:=fun h=>hne ⟨hn0,h⟩
     have he:(txt S).toList.isEmpty=false:=(by rw[BF];simpa using hS0);subst hn0;clear hS0 hne;go_wp2_with(at_builtin;(refine wpList_append_run rfl _ _ _ _ rfl _ _ _ rfl rfl lC.out ?_));go_roundg (L.length - (j+1))
     case measure=>omega
     case rel=>exact⟨j+1,by omega,au _,by go_num,by rw[← Dc.out];exact HN⟩
    have hnb:((n:Int)==0)=false:=(by rw[aB];omega);have hnc:((n:Int) != 0)=true:=(by rw[bne,hnb];rfl);clear hne hn0;go_wp2_with(at_builtin;(refine wpList_append_run rfl _ _ _ _ rfl _ _ _ rfl rfl lC.out ?_));go_roundg (L.length - (j+1))
    case measure=>omega
    case rel=>exact⟨j+1,by omega,au _,by go_num,by rw[← Dc.out];exact HN⟩
   obtain rfl:j=L.length:=(by omega);rw[aU (au _)]at hown hcls;have hsl:eF wr (fun _=>True) (.slice Av (fB (L.filterMap (iH m))).len cv) (fB (L.filterMap (iH m))):=O6 hown hcls;have HSL:=ah hsl;have pF:Hid (∀e w' w2,Below w.heap.size w w2→FX w2 (jG [fB (L.filterMap (iH m)),m.rest]) e w'→Q e w'):=qV;have Dj:Hid ((fB (L.filterMap (iH m))).All mF):=yB;have JL:(fB (L.filterMap (iH m))).count≤100:=by
    rw[Gl];refine aI (KE _ 1 _ fun f hf=>?_) ?_
    ·obtain⟨s',_,hs'⟩:=dJ.1 hf
     rw[(tY hs').2];exact au _
    have:=List.length_filterMap_le (iH m) L;omega
   have Qw:=ah JL;have hm1:=HM.out.below pW.out HM.out.lt;have tq:wr.cell? ⟨w.heap.size,23,none⟩=some (.slice rA m.rest.len rc):=hm1.cell 23;have pO:=hm1.lt;rw[aU (au _)];clear hown hcls hsl hbel HS H0 hm1 qV yB JL;generalize fB (L.filterMap (iH m))=F at *;have hbk:=ba (a:=wr) b0 (.cells #[.slice Av F.len cv,.slice rA m.rest.len rc] 66);have hrd:Rd (wr.alloc (.cells #[.slice Av F.len cv,.slice rA m.rest.len rc] 66)) (some ⟨wr.heap.size,0,none⟩) [.slice Av F.len cv,.slice rA m.rest.len rc]:=Hq wr _ [.slice Av F.len cv,.slice rA m.rest.len rc]
   have oq:=ah (alD (some ⟨wr.heap.size,0,none⟩) 2 [F,m.rest] [.slice Av F.len cv,.slice rA m.rest.len rc] (fun _=>True) (wr.alloc (.cells #[.slice Av F.len cv,.slice rA m.rest.len rc] 66)) hrd
    ⟨HSL.out.below hbk,((HV.out.below (bb pW.out hbk)).2.2).imp fun _ _=>trivial,trivial⟩ (fun f hf=>by
      simp only[bC,bW,or_false]at hf;rcases hf with rfl|rfl
      ·exact Dj.out
      ·exact HZ.out.good.2) (by
      show(F.app (m.rest.app .nil)).count≤1000000;rw[Fs.Bq,Fs.xJ];have:=Qw.out;have:=HZ.out.rest;omega) (by simp))
   have zB:=ah hbk;clear hbk hrd HSL;generalize jG [F,m.rest]=R at *;generalize F.len=FL at *;generalize m.rest.len=RL at *;simp only[bK,cO,aX,Nat.reduceAdd]at oq;go_wp2_with fail;refine oq.out.mono ?_;rintro e w7 hme;have HQ:=pF.out e w7 _ (bb fC.out (bb pW.out zB.out)) hme;obtain⟨A',c',rfl,_,_⟩:=hme;have Du:=ah HQ;clear HQ pF oq;generalize R.1.len=RRL at *;go_wp2_with fail;exact Du.out
theorem ami{t:List Rw}{va vb:Value}{I:Nat→Prop}(w:World)(ha:vF w I va t)(hb:vF w I vb t)(hl:∀r∈t,r.1.length≤9223372036854775807)(hll:t.length≤9223372036854775807) :
 Calls prog 68 #[va,vb] w (aj w (.bool true)):=by
 obtain⟨x,A,c,rfl,rfl,h3,h4,h5⟩:=ha
 obtain⟨y,B,c',rfl,hxy,k3,k4,k5⟩:=hb
 exact amh A B c c' x y I w h3 k3 (fun r hr=>⟨h4 r hr,hl _ (List.mem_map_of_mem hr)⟩) k4 (by rw[aY]at hll;exact hll) hxy
theorem ajI:∀j,j<22→j≠6→j≠20→gy j≤3∧((txt (dW j)).toList==[100,101,115,99,114])=false∧((txt (dW j)).toList==[116,97,98,108,101])=false:=by
 refine kD ?_ ?_ ?_ ?_ ?_ ?_ ?_ ?_ ?_ ?_ ?_ ?_ ?_ ?_ ?_ ?_ ?_ ?_ ?_ ?_ ?_ ?_
 all_goals first
  |exact fun h=>aJ rfl h
  |exact fun _ h=>aJ rfl h
  |exact fun _ _=>⟨by decide,by rw[ByteArray.toList_eq];rfl,by rw[ByteArray.toList_eq];rfl⟩
theorem al3{I:Nat→Prop}{m:Mp}{dv tv rv jC tv' rv':Value}(w:World)(hv:gU w I m dv tv rv)(hv':gU w I m jC tv' rv')(hz:jV m) :
 Calls prog 23 #[.agg (dR m dv tv rv),.agg (dR m jC tv' rv')] w (aj w (.bool true)):=by
 obtain⟨dA,dc,tA,tc,rA,rc,rfl,rfl,rfl⟩:=hv.slices
 obtain⟨uF,dc',tA',vV,mX,rc',rfl,rfl,rfl⟩:=hv'.slices
 have hm1:=(dU.made w 68 (dR m (.slice dA m.d.length dc) (.slice tA m.t.length tc) (.slice rA m.rest.len rc))).more (.cells (dR m (.slice uF m.d.length dc') (.slice tA' m.t.length vV) (.slice mX m.rest.len rc')) 68)
 have hm2:=dU.made (w.alloc (.cells (dR m (.slice dA m.d.length dc) (.slice tA m.t.length tc) (.slice rA m.rest.len rc)) 68)) 68 (dR m (.slice uF m.d.length dc') (.slice tA' m.t.length vV) (.slice mX m.rest.len rc'))
 have hbm:=ba (ba (a:=w) b0 (.cells (dR m (.slice dA m.d.length dc) (.slice tA m.t.length tc) (.slice rA m.rest.len rc)) 68)) (.cells (dR m (.slice uF m.d.length dc') (.slice tA' m.t.length vV) (.slice mX m.rest.len rc')) 68)
 obtain⟨wz,hwz⟩:∃wz,wz=((w.alloc (.cells (dR m (.slice dA m.d.length dc) (.slice tA m.t.length tc) (.slice rA m.rest.len rc)) 68)).alloc (.cells (dR m (.slice uF m.d.length dc') (.slice tA' m.t.length vV) (.slice mX m.rest.len rc')) 68)):=⟨_,rfl⟩
 rw[← hwz]at hm1 hm2 hbm
 simp only[World.size_alloc]at hm2
 have gQ:=ah hm1
 have jK:=ah hm2
 have fC:=ah hbm
 have HV:=ah (hv.below hbm)
 have kQ:=ah (hv'.below hbm)
 have HZ:=ah hz
 have hnn:(m.kind != m.kind)=false:=by simp
 have X8:Hid (∀x,Below wz.heap.size wz x→Calls prog 68 #[.slice tA m.t.length tc,.slice tA' m.t.length vV] x (aj x (.bool true))):=fun x hx=>ami x ((HV.out.2.1).below hx) ((kQ.out.2.1).below hx) (fun r hr=>(HZ.out.t r hr).2) HZ.out.tl
 have Xe:Hid (∀x,Below wz.heap.size wz x→Calls prog 69 #[.slice rA m.rest.len rc,.slice mX m.rest.len rc'] x (aj x (.bool true))):=fun x hx=>by
  have:=al4 m.rest.count rA mX rc rc' m.rest m.rest I x (au _) ((HV.out.2.2).below hx) ((kQ.out.2.2).below hx) (by have:=HZ.out.rest;omega) (by have:=HZ.out.rest;omega)
  rwa [amA]at this
 have WZ:Hid (Rd wz dA (ents m.d)∧Rd wz uF (ents m.d)):=by
  obtain⟨⟨A1,c1,e1,_,r1⟩,_⟩:=HV.out;obtain⟨⟨A2,c2,e2,_,r2⟩,_⟩:=kQ.out;injection e1 with e1;injection e2 with e2;subst e1 e2;exact⟨r1.rd,r2.rd⟩
 have hdl:=HZ.out.dl
 have htl:=HZ.out.tl
 clear hm1 hm2 hbm hv hv' hz
 simp only[dR]at hwz
 unfold dR
 go_enter func23,ntmps23
 go_wp2_with fail
 rw[← hwz]
 clear hwz
 refine(acX wz).mono ?_
 rintro e w4 ⟨rfl,hnm,hb4⟩
 have HB4:=ah hb4
 have zH:=ah hnm
 clear hnm hb4
 go_wp2_with fail
 go_loopg [14] 22 (fun gk ki wr=>∃j:Nat,j≤22∧22 - j≤gk∧ki=.int .i64 (j:Int)∧Hid (Below w4.heap.size w4 wr))
 case atStart=>exact⟨0,by omega,by omega,rfl,b0⟩
 case round=>
  obtain⟨j,hj,hgj,rfl,HB⟩:=hrel;have iW:Hid (Below wz.heap.size wz wr):=bb HB4.out HB.out;by_cases jl:j<22
  ·obtain⟨b,off,iL,hbl,hcn⟩:=(zH.out.below HB.out).at_ (k:=j) (by simpa[oU,tH]using jl)
   injection iL with iL;injection iL with e1 e2;subst e1 e2;rw[O4,aX]at hcn;have hji:(j:Int)<22:=(by omega);by_cases h6:j=6
   ·subst h6
    have hs:(txt (dW 6)).toList=[100,101,115,99,114]:=(by rw[ByteArray.toList_eq];rfl);generalize txt (dW 6)=nm at *;go_wp2_with fail;go_roundg (22 - (6+1))
    case measure=>omega
    case rel=>exact⟨6+1,by omega,au _,by go_num,HB⟩
   by_cases h20:j=20
   ·subst h20
    have hs:(txt (dW 20)).toList=[116,97,98,108,101]:=(by rw[ByteArray.toList_eq];rfl);generalize txt (dW 20)=nm at *;go_wp2_with fail;go_roundg (22 - (20+1))
    case measure=>omega
    case rel=>exact⟨20+1,by omega,au _,by go_num,HB⟩
   obtain⟨hu,hs6,aoR⟩:=ajI j jl h6 h20;have pz:=ah (gQ.out.below iW.out gQ.out.lt);have Ba:=ah (jK.out.below iW.out jK.out.lt);have ku:=ah (Po wr (HV.out.below iW.out) HZ.out j jl (.inl hu));have Q7:Hid (∀x,Below wr.heap.size wr x→Calls prog 67 #[.agg (dR m (.slice uF m.d.length dc') (.slice tA' m.t.length vV) (.slice mX m.rest.len rc')),.string (txt (dW j))] x (oD x m j)):=fun x hx=>Po x (kQ.out.below (bb iW.out hx)) HZ.out j jl (.inl hu);unfold oD at ku Q7;generalize(m.val j).field.1=fn at *;generalize(m.val j).field.2=fs at *;generalize txt (dW j)=nm at *;generalize txt fs=ft at *;have hq1:((fn:Int) != (fn:Int))=false:=(by simp);clear hu h6 h20
   go_wp2_with
    (with_reducible show wpList _ _ _ (Oper.mk _ (Op.load 68 _) _ _ _ _::_) _ _;apply pin)
   refine AO (by rfl) _ _ rfl _ rfl _ pz.out underlying68 rfl (tu _ _ _ _) ?_;go_wp2_with fail;refine ku.out.mono ?_;rintro e w5 ⟨rfl,hb5⟩;have gY:=ah hb5;have XH:=ah (Ba.out.below hb5 Ba.out.lt);clear hb5 ku pz Ba
   go_wp2_with
    (with_reducible show wpList _ _ _ (Oper.mk _ (Op.load 68 _) _ _ _ _::_) _ _;apply pin)
   refine AO (by rfl) _ _ rfl _ rfl _ XH.out underlying68 rfl (tu _ _ _ _) ?_;go_wp2_with fail;refine(Q7.out _ gY.out).mono ?_;rintro e w6 ⟨rfl,hb6⟩;have iE:=ah (bb HB.out (bb gY.out hb6));clear hb6 Q7 gY XH;go_wp2_with fail;go_roundg (22 - (j+1))
   case measure=>omega
   case rel=>exact⟨j+1,by omega,au _,by go_num,iE⟩
  obtain rfl:j=22:=by omega
  have hm1:=gQ.out.below iW.out gQ.out.lt;have hm2:=jK.out.below iW.out jK.out.lt;have a0:wr.cell? ⟨w.heap.size,0,none⟩=some (.int .i64 m.kind):=hm1.cell 0;have a21:wr.cell? ⟨w.heap.size,21,none⟩=some (.slice dA m.d.length dc):=hm1.cell 21;have a22:wr.cell? ⟨w.heap.size,22,none⟩=some (.slice tA m.t.length tc):=hm1.cell 22;have d0:wr.cell? ⟨w.heap.size+1,0,none⟩=some (.int .i64 m.kind):=hm2.cell 0;have Nb:wr.cell? ⟨w.heap.size+1,21,none⟩=some (.slice uF m.d.length dc'):=hm2.cell 21;have Zl:wr.cell? ⟨w.heap.size+1,22,none⟩=some (.slice tA' m.t.length vV):=hm2.cell 22;have l1:=hm1.lt;have l2:=hm2.lt;clear hm1 hm2;go_wp2_with fail;refine(X8.out _ iW.out).mono ?_;rintro e w5 ⟨rfl,hb5⟩;have gY:Hid (Below wz.heap.size wz w5):=bb iW.out hb5;have hm1:=gQ.out.below gY.out gQ.out.lt;have hm2:=jK.out.below gY.out jK.out.lt
  have a23:w5.cell? ⟨w.heap.size,23,none⟩=some (.slice rA m.rest.len rc):=hm1.cell 23;have d23:w5.cell? ⟨w.heap.size+1,23,none⟩=some (.slice mX m.rest.len rc'):=hm2.cell 23;have l3:=hm1.lt;have l4:=hm2.lt;clear hm1 hm2 hb5 a0 a21 a22 d0 Nb Zl l1 l2;go_wp2_with fail;refine(Xe.out _ gY.out).mono ?_;rintro e w6 ⟨rfl,hb6⟩;have iE:Hid (Below wz.heap.size wz w6):=bb gY.out hb6;have hm1:=gQ.out.below iE.out gQ.out.lt;have a21:w6.cell? ⟨w.heap.size,21,none⟩=some (.slice dA m.d.length dc):=hm1.cell 21;have l3:=hm1.lt;clear hm1 hb6 a23 d23 l4 X8 Xe;go_wp2_with fail;go_loopg [78] m.d.length (fun gi ki wx=>∃q:Nat,q≤m.d.length∧m.d.length - q≤gi∧ki=.int .i64 (q:Int)∧Hid (Below w6.heap.size w6 wx))
  case atStart=>exact⟨0,aW _,by omega,rfl,b0⟩
  case round=>
   obtain⟨q,hq,hgq,rfl,iy⟩:=hrel;have qP:Hid (Below wz.heap.size wz wr):=bb iE.out iy.out;by_cases hqt:q<m.d.length
   ·have hm1:=gQ.out.below qP.out gQ.out.lt
    have hm2:=jK.out.below qP.out jK.out.lt;have a21:wr.cell? ⟨w.heap.size,21,none⟩=some (.slice dA m.d.length dc):=hm1.cell 21;have Nb:wr.cell? ⟨w.heap.size+1,21,none⟩=some (.slice uF m.d.length dc'):=hm2.cell 21;have l3:=hm1.lt;have l4:=hm2.lt;obtain⟨p,po,rfl,hpl,p0,p1⟩:=(WZ.out.1.below qP.out).ent hqt;obtain⟨r,ro,rfl,hrl,r0,r1⟩:=(WZ.out.2.below qP.out).ent hqt;generalize m.d[q]=z at *;obtain⟨z0,z1⟩:=z;simp only at p0 p1 r0 r1;have hneq:=fun x y x' y'=>alu x y x' y';have hd:decide (txt z0=txt z0∧txt z1=txt z1)=true:=(by simp);clear hm1 hm2;go_wp2_with fail;go_quiet(fail);go_wp2_with fail;go_roundg (m.d.length - (q+1))
    case measure=>omega
    case rel=>exact⟨q+1,by omega,au _,by go_num,bn iy.out _⟩
   obtain rfl:q=m.d.length:=(by omega);have qI:=ah (bb fC.out qP.out);go_wp2_with fail;go_ret;exact⟨rfl,qI.out⟩
