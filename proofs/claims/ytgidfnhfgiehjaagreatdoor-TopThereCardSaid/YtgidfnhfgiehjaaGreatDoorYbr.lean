/-
  Parts of the proof. Conditions: as each names.
-/
import Derived.Test.YtgidfnhfgiehjaaGreatDoorYbn
namespace Go.Proofs.YtgidfnhfgiehjaaGreatDoor
open Go.PM Go.RowKit Go.Proofs.Tryz
set_option maxRecDepth 100000
set_option maxHeartbeats 4000000
attribute [local go_sem ↓] Go.wp_at_zero Go.wp_at_succ
theorem acX(w:World):Calls prog 66 #[] w fun e w'=>e=.returned (.slice (some ⟨w.heap.size,0,none⟩) 22 22)∧Rd w' (some ⟨w.heap.size,0,none⟩) (oU tH)∧Below w.heap.size w w':=by
 have HE:Hid (Rd (w.alloc (.cells (oU tH).toArray 9)) (some ⟨w.heap.size,0,none⟩) (oU tH)∧Below w.heap.size w (w.alloc (.cells (oU tH).toArray 9))):=⟨Hq w _ _,ba b0 _⟩;go_enter func66,ntmps66;go_wp2_with fail;go_ret;exact⟨rfl,HE.out⟩
theorem Po{I:Nat→Prop}{m:Mp}{dv tv rv:Value}(w:World)(hv:gU w I m dv tv rv)(hz:jV m)(i:Nat)(hi:i<22)(hm:gy i≤3∨(m.val i).may=0) :
 Calls prog 67 #[.agg (dR m dv tv rv),.string (txt (dW i))] w (oD w m i):=by
 have aiv:iK m.rem:=hz.good.1 18 (by decide)
 have hn:∀r∈m.t,r.2<18446744073709551616:=hz.good.1 20 (by decide)
 revert hm
 revert i
 refine kD ?_ ?_ ?_ ?_ ?_ ?_ ?_ ?_ ?_ ?_ ?_ ?_ ?_ ?_ ?_ ?_ ?_ ?_ ?_ ?_ ?_ ?_<;>intro hm
 ·exact amm w hv
 ·exact tX 1 (by decide) rfl w hv
 ·exact tX 2 (by decide) rfl w hv
 ·exact tX 3 (by decide) rfl w hv
 ·exact tX 4 (by decide) rfl w hv
 ·exact tX 5 (by decide) rfl w hv
 ·exact amo w hv (hm.resolve_left (by decide))
 ·exact tX 7 (by decide) rfl w hv
 ·exact tX 8 (by decide) rfl w hv
 ·exact tX 9 (by decide) rfl w hv
 ·exact tX 10 (by decide) rfl w hv
 ·exact tX 11 (by decide) rfl w hv
 ·exact tX 12 (by decide) rfl w hv
 ·exact tX 13 (by decide) rfl w hv
 ·exact VJ 14 (by decide) rfl w hv
 ·exact VJ 15 (by decide) rfl w hv
 ·exact tX 16 (by decide) rfl w hv
 ·exact VJ 17 (by decide) rfl w hv
 ·exact amn w hv aiv
 ·exact tX 19 (by decide) rfl w hv
 ·exact amq w hv hz.t hn hz.tl
 ·exact tX 21 (by decide) rfl w hv
theorem ajQ(v:Mv)(hu:v.use≤3):v.nothing=(decide (v.field.1=0)&&decide (v.field.2=[])):=by
 cases v with
 |num n=>
   show decide (n=0)=(decide (n=0)&&true);rw[Bool.and_true]
 |flag b=>cases b<;>simp[Mv.nothing,Mv.field]
 |qG z=>simp[Mv.nothing,Mv.field,Wv]
 |word s=>rfl
 |of d=>simp[Mv.use]at hu
 |rows t=>simp[Mv.use]at hu
theorem alH{I:Nat→Prop}{m:Mp}{dv tv rv:Value}(w:World)(hv:gU w I m dv tv rv) :
 Calls prog 106 #[.agg (dR m dv tv rv),.string (txt (dW 6))] w (aj w (.bool (m.val 6).nothing)):=by
 have hs:(txt (dW 6)).toList=[100,101,115,99,114]:=by rw[ByteArray.toList_eq];rfl
 have HN:Hid (((m.d.length:Int)==0)=(m.val 6).nothing):=by
  show _=decide (m.d=[]);rw[Gq,Bool.eq_iff_iff];simp
 obtain⟨dA,dc,tA,tc,rA,rc,rfl,rfl,rfl⟩:=hv.slices
 have HB:=ah (ba (a:=w) b0 (.cells (dR m (.slice dA m.d.length dc) (.slice tA m.t.length tc) (.slice rA m.rest.len rc)) 68))
 clear hv
 simp only[dR]at HB⊢
 go_enter func106,ntmps106
 go_wp2_with fail
 go_ret
 exact⟨congrArg (fun x=>Ending.returned (.bool x)) HN.out,HB.out⟩
theorem alG{I:Nat→Prop}{m:Mp}{dv tv rv:Value}(w:World)(hv:gU w I m dv tv rv) :
 Calls prog 106 #[.agg (dR m dv tv rv),.string (txt (dW 20))] w (aj w (.bool (m.val 20).nothing)):=by
 have hs:(txt (dW 20)).toList=[116,97,98,108,101]:=by rw[ByteArray.toList_eq];rfl
 have HN:Hid (((m.t.length:Int)==0)=(m.val 20).nothing):=by
  show _=decide (m.t=[]);rw[Gq,Bool.eq_iff_iff];simp
 obtain⟨dA,dc,tA,tc,rA,rc,rfl,rfl,rfl⟩:=hv.slices
 have HB:=ah (ba (a:=w) b0 (.cells (dR m (.slice dA m.d.length dc) (.slice tA m.t.length tc) (.slice rA m.rest.len rc)) 68))
 clear hv
 simp only[dR]at HB⊢
 go_enter func106,ntmps106
 go_wp2_with fail
 go_ret
 exact⟨congrArg (fun x=>Ending.returned (.bool x)) HN.out,HB.out⟩
theorem alJ{I:Nat→Prop}{m:Mp}{dv tv rv:Value}(w:World)(hv:gU w I m dv tv rv)(hz:jV m)(i:Nat)(hi:i<22)(hu:gy i≤3)(hn6:((txt (dW i)).toList==[100,101,115,99,114])=false)(aip:((txt (dW i)).toList==[116,97,98,108,101])=false) :
 Calls prog 106 #[.agg (dR m dv tv rv),.string (txt (dW i))] w (aj w (.bool (m.val i).nothing)):=by
 have yI:Hid (∀x dv tv rv,gU x I m dv tv rv→Calls prog 67 #[.agg (dR m dv tv rv),.string (txt (dW i))] x (oD x m i)):=fun x dv tv rv h=>Po x h hz i hi (.inl hu)
 rw[ajQ (m.val i) (by rw[Mp.CB];exact hu)]
 unfold oD at yI
 generalize(m.val i).field=X at *
 obtain⟨n,s⟩:=X
 simp only at yI⊢
 obtain⟨R,hR⟩:∃R,R=(decide (n=0)&&decide (s=[])):=⟨_,rfl⟩
 rw[← hR]
 have HR:=ah hR
 clear hz hi hu hR
 generalize txt (dW i)=nm at *
 obtain⟨dA,dc,tA,tc,rA,rc,rfl,rfl,rfl⟩:=hv.slices
 obtain⟨wz,hwz,-,HM,fC⟩:=lM w 68 (dR m (.slice dA m.d.length dc) (.slice tA m.t.length tc) (.slice rA m.rest.len rc))
 have HV:=ah (hv.below fC.out)
 clear hv
 simp only[dR]at hwz
 have iO:=HM
 rw[hwz]at iO
 have hn0:((n:Int)==0)=decide (n=0):=Gq n
 have hs0:(txt s).toList.isEmpty=decide (s=[]):=BF s
 unfold dR
 go_enter func106,ntmps106
 go_wp2_with
  (with_reducible show wpList _ _ _ (Oper.mk _ (Op.load 68 _) _ _ _ _::_) _ _;refine nN rfl _ _ rfl _ rfl _ iO.out underlying68 rfl (tu m _ _ _) ?_)
 rw[← hwz]
 refine(yI.out _ _ _ _ HV.out).mono ?_
 rintro e w1 ⟨rfl,hb1⟩
 have HB1:=ah (bb fC.out hb1)
 clear hb1 yI HV fC HM iO hwz hn6 aip
 by_cases h0:n=0
 ·have hr:=HR.out
  rw[bH h0,Bool.true_and]at hr;rw[bH h0]at hn0;have HR2:=ah hr;clear h0 HR hr;go_wp2_with fail;go_ret;rw[HR2.out];exact⟨rfl,HB1.out⟩
 ·have hr:=HR.out
  rw[aO h0,Bool.false_and]at hr;rw[aO h0]at hn0;have HR2:=ah hr;clear h0 hs0 HR hr;go_wp2_with fail;go_ret;rw[HR2.out];exact⟨rfl,HB1.out⟩
theorem alI{I:Nat→Prop}{m:Mp}{dv tv rv:Value}(w:World)(hv:gU w I m dv tv rv)(hz:jV m):∀i,i<22→
 Calls prog 106 #[.agg (dR m dv tv rv),.string (txt (dW i))] w (aj w (.bool (m.val i).nothing)):=by
 refine kD ?_ ?_ ?_ ?_ ?_ ?_ ?_ ?_ ?_ ?_ ?_ ?_ ?_ ?_ ?_ ?_ ?_ ?_ ?_ ?_ ?_ ?_
 all_goals first
  |exact alH w hv
  |exact alG w hv
  |exact alJ w hv hz _ (by decide) (by decide) (by rw[ByteArray.toList_eq];rfl) (by rw[ByteArray.toList_eq];rfl)
theorem alE{I:Nat→Prop}{m:Mp}{dv tv rv:Value}(w:World)(hv:gU w I m dv tv rv) :
 Calls prog 111 #[.agg (dR m dv tv rv)] w (aj w (.int .i64 m.bounds)):=by
 obtain⟨dA,dc,tA,tc,rA,rc,rfl,rfl,rfl⟩:=hv.slices
 have HB:=ah (ba (a:=w) b0 (.cells (dR m (.slice dA m.d.length dc) (.slice tA m.t.length tc) (.slice rA m.rest.len rc)) 68))
 clear hv
 by_cases hk:m.kind=1
 ·have JZ:(m.kind==1)=true:=by first|(rw[bF];omega)|(rw[aB];omega)
  have kb2:(m.kind==2)=false:=by first|(rw[bF];omega)|(rw[aB];omega)
  have J3:(m.kind==3)=false:=by first|(rw[bF];omega)|(rw[aB];omega)
  have J4:(m.kind==5)=false:=by first|(rw[bF];omega)|(rw[aB];omega)
  have J5:(m.kind==6)=false:=by first|(rw[bF];omega)|(rw[aB];omega)
  by_cases h1:m.min_=0
  ·have e1:((m.min_:Int)==0)=true:=by rw[bF];omega
   have hbn:m.bounds=18:=(by unfold Mp.bounds;repeat(first|rw[aA (by omega)]|rw[ay (by omega)]));clear h1;rw[hbn];clear hbn hk;simp only[dR]at HB⊢;go_enter func111,ntmps111;go_wp2_with fail;go_ret;exact⟨rfl,HB.out⟩
  have e1:((m.min_:Int)==0)=false:=by rw[aB];omega
  by_cases h2:m.max_<m.min_
  ·have e2:decide ((m.max_:Int)<(m.min_:Int))=true:=bH (by omega)
   have e2n:decide (m.max_<m.min_)=true:=bH h2;have hbn:m.bounds=18:=(by unfold Mp.bounds;repeat(first|rw[aA (by omega)]|rw[ay (by omega)]));clear h1 h2;rw[hbn];clear hbn hk;simp only[dR]at HB⊢;go_enter func111,ntmps111;go_wp2_with fail;go_ret;exact⟨rfl,HB.out⟩
  have e2:decide ((m.max_:Int)<(m.min_:Int))=false:=aO (by omega);have e2n:decide (m.max_<m.min_)=false:=aO h2;by_cases h3:255<m.max_
  ·have e3:decide ((255:Int)<(m.max_:Int))=true:=bH (by omega)
   have Jm:decide (255<m.max_)=true:=bH h3;have hbn:m.bounds=18:=(by unfold Mp.bounds;repeat(first|rw[aA (by omega)]|rw[ay (by omega)]));clear h1 h2 h3;rw[hbn];clear hbn hk;simp only[dR]at HB⊢;go_enter func111,ntmps111;go_wp2_with fail;go_ret;exact⟨rfl,HB.out⟩
  have e3:decide ((255:Int)<(m.max_:Int))=false:=aO (by omega);have Jm:decide (255<m.max_)=false:=aO h3;have hbn:m.bounds=0:=by unfold Mp.bounds;repeat(first|rw[aA (by omega)]|rw[ay (by omega)])
  clear h1 h2 h3;rw[hbn];clear hbn hk;simp only[dR]at HB⊢;go_enter func111,ntmps111;go_wp2_with fail;go_ret;exact⟨rfl,HB.out⟩
 by_cases hk2:m.kind=2
 ·have JZ:(m.kind==1)=false:=by first|(rw[bF];omega)|(rw[aB];omega)
  have kb2:(m.kind==2)=true:=by first|(rw[bF];omega)|(rw[aB];omega)
  have J3:(m.kind==3)=false:=by first|(rw[bF];omega)|(rw[aB];omega)
  have J4:(m.kind==5)=false:=by first|(rw[bF];omega)|(rw[aB];omega)
  have J5:(m.kind==6)=false:=by first|(rw[bF];omega)|(rw[aB];omega)
  by_cases h1:m.chosen=0
  ·have e1:((m.chosen:Int)==0)=true:=by rw[bF];omega
   have hbn:m.bounds=18:=(by unfold Mp.bounds;repeat(first|rw[aA (by omega)]|rw[ay (by omega)]));clear h1 hk2;rw[hbn];clear hbn hk;simp only[dR]at HB⊢;go_enter func111,ntmps111;go_wp2_with fail;go_ret;exact⟨rfl,HB.out⟩
  have e1:((m.chosen:Int)==0)=false:=by rw[aB];omega
  by_cases h3:255<m.chosen
  ·have e3:decide ((255:Int)<(m.chosen:Int))=true:=bH (by omega)
   have Jm:decide (255<m.chosen)=true:=bH h3;have hbn:m.bounds=18:=(by unfold Mp.bounds;repeat(first|rw[aA (by omega)]|rw[ay (by omega)]));clear h1 h3 hk2;rw[hbn];clear hbn hk;simp only[dR]at HB⊢;go_enter func111,ntmps111;go_wp2_with fail;go_ret;exact⟨rfl,HB.out⟩
  have e3:decide ((255:Int)<(m.chosen:Int))=false:=aO (by omega);have Jm:decide (255<m.chosen)=false:=aO h3;have hbn:m.bounds=0:=by unfold Mp.bounds;repeat(first|rw[aA (by omega)]|rw[ay (by omega)])
  clear h1 h3 hk2;rw[hbn];clear hbn hk;simp only[dR]at HB⊢;go_enter func111,ntmps111;go_wp2_with fail;go_ret;exact⟨rfl,HB.out⟩
 by_cases hk3:m.kind=3
 ·have JZ:(m.kind==1)=false:=by first|(rw[bF];omega)|(rw[aB];omega)
  have kb2:(m.kind==2)=false:=by first|(rw[bF];omega)|(rw[aB];omega)
  have J3:(m.kind==3)=true:=by first|(rw[bF];omega)|(rw[aB];omega)
  have J4:(m.kind==5)=false:=by first|(rw[bF];omega)|(rw[aB];omega)
  have J5:(m.kind==6)=false:=by first|(rw[bF];omega)|(rw[aB];omega)
  by_cases h1:m.d=[]
  ·have hbn:m.bounds=12:=by unfold Mp.bounds;rw[ay hk,ay hk2,aA hk3,aA h1]
   rw[h1]at HB⊢;simp only[cO]at HB⊢;clear h1 hk2 hk3;rw[hbn];clear hbn hk;simp only[dR]at HB⊢;go_enter func111,ntmps111;go_wp2_with fail;go_ret;exact⟨rfl,HB.out⟩
  have hbn:m.bounds=0:=by unfold Mp.bounds;rw[ay hk,ay hk2,aA hk3,ay h1]
  have h0:m.d.length≠0:=fun h=>h1 (aV h);have e1:((m.d.length:Int)==0)=false:=by rw[aB];omega
  clear h1 hk2 hk3;generalize m.d.length=dl at *;rw[hbn];clear hbn hk;simp only[dR]at HB⊢;go_enter func111,ntmps111;go_wp2_with fail;go_ret;exact⟨rfl,HB.out⟩
 by_cases hk5:m.kind=5
 ·have JZ:(m.kind==1)=false:=by first|(rw[bF];omega)|(rw[aB];omega)
  have kb2:(m.kind==2)=false:=by first|(rw[bF];omega)|(rw[aB];omega)
  have J3:(m.kind==3)=false:=by first|(rw[bF];omega)|(rw[aB];omega)
  have J4:(m.kind==5)=true:=by first|(rw[bF];omega)|(rw[aB];omega)
  have J5:(m.kind==6)=false:=by first|(rw[bF];omega)|(rw[aB];omega)
  by_cases h1:m.epoch=0
  ·have e1:((m.epoch:Int)==0)=true:=by rw[bF];omega
   have hbn:m.bounds=18:=(by unfold Mp.bounds;repeat(first|rw[aA (by omega)]|rw[ay (by omega)]));clear h1 hk2 hk3 hk5;rw[hbn];clear hbn hk;simp only[dR]at HB⊢;go_enter func111,ntmps111;go_wp2_with fail;go_ret;exact⟨rfl,HB.out⟩
  have e1:((m.epoch:Int)==0)=false:=by rw[aB];omega
  have hbn:m.bounds=0:=by unfold Mp.bounds;repeat(first|rw[aA (by omega)]|rw[ay (by omega)])
  clear h1 hk2 hk3 hk5;rw[hbn];clear hbn hk;simp only[dR]at HB⊢;go_enter func111,ntmps111;go_wp2_with fail;go_ret;exact⟨rfl,HB.out⟩
 by_cases hk6:m.kind=6
 ·have JZ:(m.kind==1)=false:=by first|(rw[bF];omega)|(rw[aB];omega)
  have kb2:(m.kind==2)=false:=by first|(rw[bF];omega)|(rw[aB];omega)
  have J3:(m.kind==3)=false:=by first|(rw[bF];omega)|(rw[aB];omega)
  have J4:(m.kind==5)=false:=by first|(rw[bF];omega)|(rw[aB];omega)
  have J5:(m.kind==6)=true:=by first|(rw[bF];omega)|(rw[aB];omega)
  by_cases h1:m.base=0
  ·have e1:((m.base:Int)==0)=true:=by rw[bF];omega
   have hbn:m.bounds=18:=(by unfold Mp.bounds;repeat(first|rw[aA (by omega)]|rw[ay (by omega)]));clear h1 hk2 hk3 hk5 hk6;rw[hbn];clear hbn hk;simp only[dR]at HB⊢;go_enter func111,ntmps111;go_wp2_with fail;go_ret;exact⟨rfl,HB.out⟩
  have e1:((m.base:Int)==0)=false:=by rw[aB];omega
  by_cases h3:m.epoch≤m.base
  ·have e3:decide ((m.epoch:Int)≤(m.base:Int))=true:=bH (by omega)
   have Jm:decide (m.epoch≤m.base)=true:=bH h3;have hbn:m.bounds=20:=(by unfold Mp.bounds;repeat(first|rw[aA (by omega)]|rw[ay (by omega)]));clear h1 h3 hk2 hk3 hk5 hk6;rw[hbn];clear hbn hk;simp only[dR]at HB⊢;go_enter func111,ntmps111;go_wp2_with fail;go_ret;exact⟨rfl,HB.out⟩
  have e3:decide ((m.epoch:Int)≤(m.base:Int))=false:=aO (by omega);have Jm:decide (m.epoch≤m.base)=false:=aO h3;have hbn:m.bounds=0:=by unfold Mp.bounds;repeat(first|rw[aA (by omega)]|rw[ay (by omega)])
  clear h1 h3 hk2 hk3 hk5 hk6;rw[hbn];clear hbn hk;simp only[dR]at HB⊢;go_enter func111,ntmps111;go_wp2_with fail;go_ret;exact⟨rfl,HB.out⟩
 ·have JZ:(m.kind==1)=false:=by first|(rw[bF];omega)|(rw[aB];omega)
  have kb2:(m.kind==2)=false:=by first|(rw[bF];omega)|(rw[aB];omega)
  have J3:(m.kind==3)=false:=by first|(rw[bF];omega)|(rw[aB];omega)
  have J4:(m.kind==5)=false:=by first|(rw[bF];omega)|(rw[aB];omega)
  have J5:(m.kind==6)=false:=by first|(rw[bF];omega)|(rw[aB];omega)
  have hbn:m.bounds=0:=by unfold Mp.bounds;repeat(first|rw[aA (by omega)]|rw[ay (by omega)])
  clear hk2 hk3 hk5 hk6;rw[hbn];clear hbn hk;simp only[dR]at HB⊢;go_enter func111,ntmps111;go_wp2_with fail;go_ret;exact⟨rfl,HB.out⟩
