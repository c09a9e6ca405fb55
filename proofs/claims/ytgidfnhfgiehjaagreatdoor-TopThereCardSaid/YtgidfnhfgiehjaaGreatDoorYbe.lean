/-
  Parts of the proof. Conditions: as each names.
-/
import Derived.Test.YtgidfnhfgiehjaaGreatDoorYbc
import Derived.Test.YtgidfnhfgiehjaaGreatDoorYbb
namespace Go.Proofs.YtgidfnhfgiehjaaGreatDoor
open Go.PM Go.RowKit Go.Proofs.Tryz
set_option maxRecDepth 100000
set_option maxHeartbeats 4000000
attribute [local go_sem ↓] Go.wp_at_zero Go.wp_at_succ
theorem Gq(n:Nat):((n:Int)==0)=decide (n=0):=by rw[Bool.eq_iff_iff];simp
theorem ZV(n:Int):(n==0)=decide (n=0):=by rw[Bool.eq_iff_iff];simp
theorem BF(s:List UInt8):(txt s).toList.isEmpty=decide (s=[]):=by rw[ByteArray.toList_eq,Bool.eq_iff_iff];simp[txt]
theorem jO(u:Nat)(x:World)(v:Value):(Instr.typeAssert (.iface (eY u) v) 20 (eY u) true).run prog x=.ok (.tuple #[v,.bool true]) x:=by
 unfold eY;split<;>kernel_rfl
theorem F8(x:World)(v:Value):(Instr.typeAssert (.iface (eY 1) v) 20 (eY 0) true).run prog x=.ok (.tuple #[.pointer none,.bool false]) x:=by kernel_rfl
theorem Ja(x:World)(v:Value):(Instr.typeAssert (.iface (eY 2) v) 20 (eY 0) true).run prog x=.ok (.tuple #[.pointer none,.bool false]) x:=by kernel_rfl
theorem Jb(x:World)(v:Value):(Instr.typeAssert (.iface (eY 2) v) 20 (eY 1) true).run prog x=.ok (.tuple #[.pointer none,.bool false]) x:=by kernel_rfl
theorem Jc(x:World)(v:Value):(Instr.typeAssert (.iface (eY 3) v) 20 (eY 0) true).run prog x=.ok (.tuple #[.pointer none,.bool false]) x:=by kernel_rfl
theorem Jd(x:World)(v:Value):(Instr.typeAssert (.iface (eY 3) v) 20 (eY 1) true).run prog x=.ok (.tuple #[.pointer none,.bool false]) x:=by kernel_rfl
theorem Je(x:World)(v:Value):(Instr.typeAssert (.iface (eY 3) v) 20 (eY 2) true).run prog x=.ok (.tuple #[.pointer none,.bool false]) x:=by kernel_rfl
theorem F9(x:World)(v:Value):(Instr.typeAssert (.iface (eY 4) v) 20 (eY 0) true).run prog x=.ok (.tuple #[.pointer none,.bool false]) x:=by kernel_rfl
theorem Gf(x:World)(v:Value):(Instr.typeAssert (.iface (eY 4) v) 20 (eY 1) true).run prog x=.ok (.tuple #[.pointer none,.bool false]) x:=by kernel_rfl
theorem Gg(x:World)(v:Value):(Instr.typeAssert (.iface (eY 4) v) 20 (eY 2) true).run prog x=.ok (.tuple #[.pointer none,.bool false]) x:=by kernel_rfl
theorem DV(x:World)(v:Value):(Instr.typeAssert (.iface (eY 4) v) 20 (eY 3) true).run prog x=.ok (.tuple #[.pointer none,.bool false]) x:=by kernel_rfl
theorem Gh(x:World)(v:Value):(Instr.typeAssert (.iface (eY 5) v) 20 (eY 0) true).run prog x=.ok (.tuple #[.pointer none,.bool false]) x:=by kernel_rfl
theorem Gi(x:World)(v:Value):(Instr.typeAssert (.iface (eY 5) v) 20 (eY 1) true).run prog x=.ok (.tuple #[.pointer none,.bool false]) x:=by kernel_rfl
theorem Gj(x:World)(v:Value):(Instr.typeAssert (.iface (eY 5) v) 20 (eY 2) true).run prog x=.ok (.tuple #[.pointer none,.bool false]) x:=by kernel_rfl
theorem DW(x:World)(v:Value):(Instr.typeAssert (.iface (eY 5) v) 20 (eY 3) true).run prog x=.ok (.tuple #[.pointer none,.bool false]) x:=by kernel_rfl
theorem DX(x:World)(v:Value):(Instr.typeAssert (.iface (eY 5) v) 20 (eY 4) true).run prog x=.ok (.tuple #[.pointer none,.bool false]) x:=by kernel_rfl
theorem anu(v:Value)(w:World):Calls prog 138 #[.iface (eY 0) v] w (aj w (.tuple #[.int .i64 0,.bool true])):=by
 have y0:=jO 0;simp only[eY]at *;go_enter func138,ntmps138;go_wp2_with fail;go_ret2;exact⟨rfl,b0⟩
theorem anv(v:Value)(w:World):Calls prog 138 #[.iface (eY 1) v] w (aj w (.tuple #[.int .i64 1,.bool true])):=by
 have y1:=jO 1;have n0:=F8;simp only[eY]at *;go_enter func138,ntmps138;go_wp2_with fail;go_ret2;exact⟨rfl,b0⟩
theorem anw(v:Value)(w:World):Calls prog 138 #[.iface (eY 2) v] w (aj w (.tuple #[.int .i64 2,.bool true])):=by
 have y2:=jO 2;have n0:=Ja;have n1:=Jb;simp only[eY]at *;go_enter func138,ntmps138;go_wp2_with fail;go_ret2;exact⟨rfl,b0⟩
theorem anx(v:Value)(w:World):Calls prog 138 #[.iface (eY 3) v] w (aj w (.tuple #[.int .i64 3,.bool true])):=by
 have y3:=jO 3;have n0:=Jc;have n1:=Jd;have n2:=Je;simp only[eY]at *;go_enter func138,ntmps138;go_wp2_with fail;go_ret2;exact⟨rfl,b0⟩
theorem anz(v:Value)(w:World):Calls prog 138 #[.iface (eY 4) v] w (aj w (.tuple #[.int .i64 4,.bool true])):=by
 have y4:=jO 4;have n0:=F9;have n1:=Gf;have n2:=Gg;have n3:=DV;simp only[eY]at *;go_enter func138,ntmps138;go_wp2_with fail;go_ret2;exact⟨rfl,b0⟩
theorem anA(v:Value)(w:World):Calls prog 138 #[.iface (eY 5) v] w (aj w (.tuple #[.int .i64 5,.bool true])):=by
 have y5:=jO 5;have n0:=Gh;have n1:=Gi;have n2:=Gj;have n3:=DW;have n4:=DX;simp only[eY]at *;go_enter func138,ntmps138;go_wp2_with fail;go_ret2;exact⟨rfl,b0⟩
theorem tJ(q:Addr)(n:Nat)(w:World)(hc:w.cell? q=some (.int .u64 (n:Int))):Calls prog 84 #[.iface (eY 0) (.pointer (some q))] w (aj w (.bool (decide (n=0)))):=by
 have y0:=jO 0;simp only[eY]at *;go_enter func84,ntmps84;go_wp2_with fail;go_ret;exact⟨congrArg (fun x=>Ending.returned (.bool x)) (Gq n),b0⟩
theorem ajL(q:Addr)(b:Bool)(w:World)(hc:w.cell? q=some (.bool b)):Calls prog 84 #[.iface (eY 1) (.pointer (some q))] w (aj w (.bool (!b))):=by
 have y1:=jO 1;have n0:=F8;simp only[eY]at *;go_enter func84,ntmps84;go_wp2_with fail;go_ret;exact⟨congrArg (fun x=>Ending.returned (.bool x)) (rfl),b0⟩
theorem ajM(q:Addr)(z:Int)(w:World)(hc:w.cell? q=some (.int .i64 z)):Calls prog 84 #[.iface (eY 2) (.pointer (some q))] w (aj w (.bool (decide (z=0)))):=by
 have y2:=jO 2;have n0:=Ja;have n1:=Jb;simp only[eY]at *;go_enter func84,ntmps84;go_wp2_with fail;go_ret;exact⟨congrArg (fun x=>Ending.returned (.bool x)) (ZV z),b0⟩
theorem Vj(q:Addr)(s:List UInt8)(w:World)(hc:w.cell? q=some (.string (txt s))):Calls prog 84 #[.iface (eY 3) (.pointer (some q))] w (aj w (.bool (decide (s=[])))):=by
 have y3:=jO 3;have n0:=Jc;have n1:=Jd;have n2:=Je;simp only[eY]at *;go_enter func84,ntmps84;go_wp2_with fail;go_ret;exact⟨congrArg (fun x=>Ending.returned (.bool x)) (BF s),b0⟩
theorem ajN(q:Addr)(A:Option Addr)(n c:Nat)(w:World)(hc:w.cell? q=some (.slice A n c)):Calls prog 84 #[.iface (eY 4) (.pointer (some q))] w (aj w (.bool (decide (n=0)))):=by
 have y4:=jO 4;have n0:=F9;have n1:=Gf;have n2:=Gg;have n3:=DV;simp only[eY]at *;go_enter func84,ntmps84;go_wp2_with fail;go_ret;exact⟨congrArg (fun x=>Ending.returned (.bool x)) (Gq n),b0⟩
theorem ajO(q:Addr)(A:Option Addr)(n c:Nat)(w:World)(hc:w.cell? q=some (.slice A n c)):Calls prog 84 #[.iface (eY 5) (.pointer (some q))] w (aj w (.bool (decide (n=0)))):=by
 have y5:=jO 5;have n0:=Gh;have n1:=Gi;have n2:=Gj;have n3:=DW;have n4:=DX;simp only[eY]at *;go_enter func84,ntmps84;go_wp2_with fail;go_ret;exact⟨congrArg (fun x=>Ending.returned (.bool x)) (Gq n),b0⟩
def gU(w:World)(I:Nat→Prop)(m:Mp)(dv tv rv:Value):Prop:=(∃A c,dv=.slice A m.d.length c∧m.d.length≤c∧pG w I A m.d)∧vF w I tv m.t∧eF w I rv m.rest
structure jV (m:Mp):Prop where
 good:m.good
 kind:iK m.kind
 nm:m.nm.length≤9223372036854775807
 rg:m.rg.length≤9223372036854775807
 nt:m.nt.length≤9223372036854775807
 d:lg m.d
 dl:m.d.length≤9223372036854775807
 t:∀r∈m.t,lg r.1∧r.1.length≤9223372036854775807
 tl:m.t.length≤9223372036854775807
 rest:m.rest.count≤900000
 VG:(eu m.rest).length≤100000000
theorem gU.below{w w':World}{I:Nat→Prop}{m:Mp}{dv tv rv:Value}(h:gU w I m dv tv rv)(hb:Below w.heap.size w w'):gU w' I m dv tv rv:=by
 obtain⟨⟨A,c,h1,h2,h3⟩,h4,h5⟩:=h;exact⟨⟨A,c,h1,h2,h3.below hb⟩,h4.below hb,h5.below hb⟩
theorem gU.slices{w:World}{I:Nat→Prop}{m:Mp}{dv tv rv:Value}(h:gU w I m dv tv rv):∃dA dc tA tc rA rc,dv=.slice dA m.d.length dc∧tv=.slice tA m.t.length tc∧rv=.slice rA m.rest.len rc:=by
 obtain⟨⟨A,c,h1,h2,h3⟩,⟨l,tA,tc,rfl,e,_⟩,⟨rA,rc,rfl,_⟩⟩:=h;exact⟨A,c,tA,tc,rA,rc,h1,by rw[e,aY],rfl⟩
def DJ(w:World)(b:Nat)(m:Mp)(dv tv rv:Value):Prop:=dU w b 35 (dR m dv tv rv)
theorem DJ.cell{w:World}{b:Nat}{m:Mp}{dv tv rv:Value}(h:DJ w b m dv tv rv){i:Nat}(hi:i<22):w.cell? ⟨b,fP i,none⟩=some (mV m dv tv i):=by
 have:=dU.cell h (fP i);rw[this,wS m dv tv rv i hi]
theorem ajP{b:Nat}{I:Nat→Prop}{m:Mp}{dv tv rv:Value}(w:World)(h:DJ w b m dv tv rv)(hv:gU w I m dv tv rv):∀i,i<22→Calls prog 84 #[gW b i] w (aj w (.bool (m.val i).nothing)):=by
 obtain⟨dA,dc,tA,tc,rA,rc,rfl,rfl,rfl⟩:=hv.slices;have hc:=fun i (hi:i<22)=>h.cell hi;have e4:∀d:List fD,decide (d.length=0)=decide (d=[]):=fun d=>by cases d<;>simp
 have e5:∀d:List Rw,decide (d.length=0)=decide (d=[]):=fun d=>by cases d<;>simp
 refine kD ?_ ?_ ?_ ?_ ?_ ?_ ?_ ?_ ?_ ?_ ?_ ?_ ?_ ?_ ?_ ?_ ?_ ?_ ?_ ?_ ?_ ?_
 ·exact ajL _ _ w (hc 0 (by decide))
 ·exact tJ _ _ w (hc 1 (by decide))
 ·exact tJ _ _ w (hc 2 (by decide))
 ·exact tJ _ _ w (hc 3 (by decide))
 ·exact tJ _ _ w (hc 4 (by decide))
 ·exact tJ _ _ w (hc 5 (by decide))
 ·exact(ajN _ dA m.d.length dc w (hc 6 (by decide))).mono fun e w' ⟨h1,h2⟩=>⟨by rw[h1,e4];rfl,h2⟩
 ·exact tJ _ _ w (hc 7 (by decide))
 ·exact tJ _ _ w (hc 8 (by decide))
 ·exact tJ _ _ w (hc 9 (by decide))
 ·exact tJ _ _ w (hc 10 (by decide))
 ·exact tJ _ _ w (hc 11 (by decide))
 ·exact tJ _ _ w (hc 12 (by decide))
 ·exact tJ _ _ w (hc 13 (by decide))
 ·exact Vj _ _ w (hc 14 (by decide))
 ·exact Vj _ _ w (hc 15 (by decide))
 ·exact tJ _ _ w (hc 16 (by decide))
 ·exact Vj _ _ w (hc 17 (by decide))
 ·exact ajM _ _ w (hc 18 (by decide))
 ·exact tJ _ _ w (hc 19 (by decide))
 ·exact(ajO _ tA m.t.length tc w (hc 20 (by decide))).mono fun e w' ⟨h1,h2⟩=>⟨by rw[h1,e5];rfl,h2⟩
 exact tJ _ _ w (hc 21 (by decide))
theorem tC(q:Addr)(w:World):Calls prog 85 #[.iface (eY 0) (.pointer (some q))] w (aj w (.int .i64 0)):=by
 have n3:∀(x:World) (v:Value),(Instr.typeAssert (.iface (eY 0) v) 20 (eY 3) true).run prog x=.ok (.tuple #[.pointer none,.bool false]) x:=fun x v=>by kernel_rfl
 have n4:∀(x:World) (v:Value),(Instr.typeAssert (.iface (eY 0) v) 20 (eY 4) true).run prog x=.ok (.tuple #[.pointer none,.bool false]) x:=fun x v=>by kernel_rfl
 have n5:∀(x:World) (v:Value),(Instr.typeAssert (.iface (eY 0) v) 20 (eY 5) true).run prog x=.ok (.tuple #[.pointer none,.bool false]) x:=fun x v=>by kernel_rfl
 simp only[eY]at *;go_enter func85,ntmps85;go_wp2_with fail;go_ret;exact⟨rfl,b0⟩
theorem ajk(q:Addr)(w:World):Calls prog 85 #[.iface (eY 1) (.pointer (some q))] w (aj w (.int .i64 0)):=by
 have n3:∀(x:World) (v:Value),(Instr.typeAssert (.iface (eY 1) v) 20 (eY 3) true).run prog x=.ok (.tuple #[.pointer none,.bool false]) x:=fun x v=>by kernel_rfl
 have n4:∀(x:World) (v:Value),(Instr.typeAssert (.iface (eY 1) v) 20 (eY 4) true).run prog x=.ok (.tuple #[.pointer none,.bool false]) x:=fun x v=>by kernel_rfl
 have n5:∀(x:World) (v:Value),(Instr.typeAssert (.iface (eY 1) v) 20 (eY 5) true).run prog x=.ok (.tuple #[.pointer none,.bool false]) x:=fun x v=>by kernel_rfl
 simp only[eY]at *;go_enter func85,ntmps85;go_wp2_with fail;go_ret;exact⟨rfl,b0⟩
theorem ajl(q:Addr)(w:World):Calls prog 85 #[.iface (eY 2) (.pointer (some q))] w (aj w (.int .i64 0)):=by
 have n3:∀(x:World) (v:Value),(Instr.typeAssert (.iface (eY 2) v) 20 (eY 3) true).run prog x=.ok (.tuple #[.pointer none,.bool false]) x:=fun x v=>by kernel_rfl
 have n4:∀(x:World) (v:Value),(Instr.typeAssert (.iface (eY 2) v) 20 (eY 4) true).run prog x=.ok (.tuple #[.pointer none,.bool false]) x:=fun x v=>by kernel_rfl
 have n5:∀(x:World) (v:Value),(Instr.typeAssert (.iface (eY 2) v) 20 (eY 5) true).run prog x=.ok (.tuple #[.pointer none,.bool false]) x:=fun x v=>by kernel_rfl
 simp only[eY]at *;go_enter func85,ntmps85;go_wp2_with fail;go_ret;exact⟨rfl,b0⟩
theorem Ve(q:Addr)(s:List UInt8)(w:World)(hc:w.cell? q=some (.string (txt s)))(hs:s.length≤9223372036854775807)(hT:Tabs w):Calls prog 85 #[.iface (eY 3) (.pointer (some q))] w (aj w (.int .i64 (jJ s 0 256))):=by
 have y3:=jO 3;have HC:=ah (PV (txt s) 0 256 w (by simpa[txt,ByteArray.size]using hs) hT);simp only[eY]at *;go_enter func85,ntmps85;go_wp2_with fail;refine HC.out.mono ?_;rintro e w1 ⟨rfl,hb1⟩;have HB:=ah hb1;clear hb1;go_wp2_with fail;go_ret;exact⟨by simp[txt],HB.out⟩
theorem ajm(q:Addr)(A:Option Addr)(c:Nat)(d:List fD)(w:World)(hc:w.cell? q=some (.slice A d.length c))(hr:Rd w A (ents d))(hz:lg d)(hl:d.length≤9223372036854775807)(hT:Tabs w) :
 Calls prog 85 #[.iface (eY 4) (.pointer (some q))] w (aj w (.int .i64 (if d=[]then 0 else iZ dV d))):=by
 have y4:=jO 4
 have n3:=DV
 have HC:=ah (Y4 A c d w hr hz hl hT)
 simp only[eY]at *
 by_cases hd:d=[]
 ·subst hd
  go_enter func85,ntmps85;go_wp2_with fail;go_ret;exact⟨rfl,b0⟩
 ·have h0:0<d.length:=List.length_pos_iff.2 hd
  rw[ay hd];go_enter func85,ntmps85;go_wp2_with fail;refine HC.out.mono ?_;rintro e w1 ⟨rfl,hb1⟩;have HB:=ah hb1;clear hb1;go_wp2_with fail;go_ret;exact⟨rfl,HB.out⟩
theorem ajn(q:Addr)(A:Option Addr)(c:Nat)(l:List Rv)(I:Nat→Prop)(w:World)(hc:w.cell? q=some (.slice A l.length c))(hr:Rd w A (gZ l))(ho:∀r∈l,gJ w I r)(hz:∀r∈l,lg r.d∧r.d.length≤9223372036854775807)(hl:l.length≤9223372036854775807)(hT:Tabs w) :
 Calls prog 85 #[.iface (eY 5) (.pointer (some q))] w (aj w (.int .i64 (jv dV (l.map Rv.rw)))):=by
 have y5:=jO 5
 have n3:=DW
 have n4:=DX
 have HC:=ah (V6 A c l I w hr ho hz hl hT)
 clear hr ho hz
 generalize jv dV (l.map Rv.rw)=E at *
 simp only[eY]at *
 go_enter func85,ntmps85
 go_wp2_with fail
 refine HC.out.mono ?_
 rintro e w1 ⟨rfl,hb1⟩
 have HB:=ah hb1
 clear hb1
 go_wp2_with fail
 go_ret
 exact⟨rfl,HB.out⟩
theorem ajo{b:Nat}{I:Nat→Prop}{m:Mp}{dv tv rv:Value}(w:World)(h:DJ w b m dv tv rv)(hv:gU w I m dv tv rv)(hz:jV m)(hT:Tabs w):∀i,i<22→Calls prog 85 #[gW b i] w (aj w (.int .i64 (m.val i).may)):=by
 obtain⟨⟨dA,dc,rfl,hdc,hd⟩,⟨l,tA,tc,rfl,et,htr,hto,htc⟩,hrs⟩:=hv;have hR:Calls prog 85 #[gW b 20] w (aj w (.int .i64 (m.val 20).may)):=by
  have hr:=ajn ⟨b,fP 20,none⟩ tA tc l I w (h.cell (i:=20) (by decide)) htr hto (fun r hr=>hz.t r.rw (by rw[et];exact List.mem_map_of_mem hr)) (by have:=hz.tl;rw[et,aY]at this;exact this) hT;rw[← et]at hr;exact hr
 refine kD ?_ ?_ ?_ ?_ ?_ ?_ ?_ ?_ ?_ ?_ ?_ ?_ ?_ ?_ ?_ ?_ ?_ ?_ ?_ ?_ ?_ ?_
 ·exact ajk _ w
 ·exact tC _ w
 ·exact tC _ w
 ·exact tC _ w
 ·exact tC _ w
 ·exact tC _ w
 ·exact ajm _ dA dc m.d w (h.cell (i:=6) (by decide)) hd.rd hz.d hz.dl hT
 ·exact tC _ w
 ·exact tC _ w
 ·exact tC _ w
 ·exact tC _ w
 ·exact tC _ w
 ·exact tC _ w
 ·exact tC _ w
 ·exact Ve _ m.nm w (h.cell (i:=14) (by decide)) hz.nm hT
 ·exact Ve _ m.nt w (h.cell (i:=15) (by decide)) hz.nt hT
 ·exact tC _ w
 ·exact Ve _ m.rg w (h.cell (i:=17) (by decide)) hz.rg hT
 ·exact ajl _ w
 ·exact tC _ w
 ·exact hR
 exact tC _ w
theorem afo{I:Nat→Prop}{m:Mp}{dv tv rv:Value}(w:World)(hv:gU w I m dv tv rv):Calls prog 86 #[.agg (dR m dv tv rv)] w (aj w (.int .i64 m.bounds)):=by
 obtain⟨dA,dc,tA,tc,rA,rc,rfl,rfl,rfl⟩:=hv.slices;have HB:=ah (ba (a:=w) b0 (.cells (dR m (.slice dA m.d.length dc) (.slice tA m.t.length tc) (.slice rA m.rest.len rc)) 35));clear hv;simp only[dR]at HB⊢;go_enter func86,ntmps86;go_wp2_with fail;all_goals go_ret
 all_goals refine⟨congrArg (fun x=>Ending.returned (.int .i64 x)) ?_,HB.out⟩
 all_goals(clear HB;unfold Mp.bounds)
 all_goals(simp_all)
 all_goals(try omega)
theorem UY:Maps.Keyed prog 9:=Maps.string_keyed underlying9
theorem adU(w:World):(zeroValue 4).run prog w=.ok (.bool false) w:=rfl
def G7(L:List Sp):List (Lit×Value):=L.map fun s=>(.string s.nm,.bool true)
theorem abU(n:List UInt8):∀(L:List Sp) (z:Value),qC z (G7 L) (.string n)=if(L.any fun s=>decide (s.nm=n))=true then .bool true else z
 |[],z=>rfl
 |s::L,z=>by
   show qC (bif (Lit.string s.nm).sameKey (.string n)then .bool true else z) (G7 L) (.string n)=_;rw[abU n L];by_cases h:s.nm=n
   ·rw[h,WideAt.sameKey_self (abL n)]
    simp[h]
   rw[Maps.sameKey_ne (fun e=>h (by injection e))];simp[h]
theorem Az{w w':World}{P:Program}{k:TypeId}{b:Nat}{l:List (Lit×Value)}(h:MapAt w P k b l)(hb:Below w.heap.size w w'):MapAt w' P k b l:=h.kept (oH hb none) (by simp)
theorem Vg:∀i,i<22→(dW i).length≤9:=by
 refine kD ?_ ?_ ?_ ?_ ?_ ?_ ?_ ?_ ?_ ?_ ?_ ?_ ?_ ?_ ?_ ?_ ?_ ?_ ?_ ?_ ?_ ?_<;>decide
theorem UW(n:List UInt8)(h:n.length≤100):keyOf prog 9 (.string (txt n))=some (.string n):=WideMaps.keyOf_string_mk underlying9 (by unfold maxLen;simp[txt,ByteArray.size];omega)
theorem O4(j:Nat)(h2:j<(oU tH).length):(oU tH)[j]=.string (txt (dW j)):=by
 simp[oU,tH]
theorem ajr(v:Nat)(h1:1≤v)(h3:v≤3){I:Nat→Prop}{m:Mp}{dv tv rv:Value}(w:World)(hv:gU w I m dv tv rv)(hz:jV m)(hb:iP (eH m.kind)=0∨v<iP (eH m.kind)) :
 Calls prog 43 #[.agg (dR m dv tv rv),.int .i64 (v:Int)] w (aj w (.int .i64 15)):=by
 have xq:Hid (∀x,Calls prog 37 #[.int .i64 m.kind] x (aj x (.int .i64 (iP (eH m.kind):Int)))):=fun x=>ND m.kind x hz.kind
 have hlo:¬(v:Int)<1:=by omega
 have hhi:¬(3:Int)<(v:Int):=by omega
 generalize iP (eH m.kind)=K at *
 clear hz
 obtain⟨dA,dc,tA,tc,rA,rc,rfl,rfl,rfl⟩:=hv.slices
 obtain⟨wz,hwz,hsz,HM,fC⟩:=lM w 35 (dR m (.slice dA m.d.length dc) (.slice tA m.t.length tc) (.slice rA m.rest.len rc))
 have HV:=ah (hv.below fC.out)
 clear hv
 simp only[dR]at hwz
 unfold dR
 go_enter func43,ntmps43
 go_wp2_with fail
 rw[← hwz]
 refine(xq.out _).mono ?_
 rintro e w1 ⟨rfl,hb1⟩
 have HB1:=ah (bb fC.out hb1)
 clear hb1 xq hwz HM HV
 rcases hb with hb|hb
 ·subst hb
  go_wp2_with fail;go_ret;exact⟨rfl,HB1.out⟩
 ·have hb2:(v:Int)<(K:Int):=by omega
  have hb3:((K:Int)==0)=false:=by rw[aB];omega
  go_wp2_with fail;go_ret;exact⟨rfl,HB1.out⟩
theorem aml(w:World)(k:IntKind)(n:Int):(Instr.makeMap 156 (some (.int k n))).run prog w=.ok (.map (some w.heap.size)) (w.alloc (.map #[] 0)):=by
 simp[Instr.makeMap,run_underlying underlying156,asInt,asIntOf,Result.andThen]
theorem adl{m:Mp}{L:List Sp}{j:Nat}(hj:j<22)(hk:(L.any fun s=>decide (s.nm=dW j))=false)(hn:(m.val j).nothing=false):ql m L=true:=by
 unfold ql;rw[List.any_eq_true];exact⟨j,List.mem_range.2 hj,by rw[hk,hn];rfl⟩
theorem adk{m:Mp}{L:List Sp}(h:∀i,i<22→(L.any fun s=>decide (s.nm=dW i))=true∨(m.val i).nothing=true):ql m L=false:=by
 unfold ql;rw[List.any_eq_false];intro i hi;rcases h i (List.mem_range.1 hi)with h|h<;>simp[h]
theorem acg(m:Mp){L:List Sp}{j:Nat}(h:j<L.length):iQ m (L.drop j)=if(m.val (six L[j])).may≠0 then(m.val (six L[j])).may else iQ m (L.drop (j+1)):=by
 rw[bI h,iQ]
theorem iC(m:Mp)(dv tv rv:Value):(prog.info? 35).map (·.size)=some (dR m dv tv rv).size:=by kernel_rfl
theorem PD{w:World}{I:Nat→Prop}{A:Option Addr}{c:Nat}{f:Fs}(h:eF w I (.slice A f.len c) f)(k:Nat)(hk:k<f.len) :
 ∃b o Ai ci,A=some ⟨b,o,none⟩∧b<w.heap.size∧w.cell? ⟨b,o+k*5,none⟩=some (.int .u64 ((f.eP[k]'(by rw[oK];exact hk)).tag:Int))∧w.cell? ⟨b,o+k*5+1,none⟩=some (.int .i64 (f.eP[k]'(by rw[oK];exact hk)).ty)∧
  w.cell? ⟨b,o+k*5+2,none⟩=some (.int .u64 ((f.eP[k]'(by rw[oK];exact hk)).num:Int))∧w.cell? ⟨b,o+k*5+3,none⟩=some (.string (f.eP[k]'(by rw[oK];exact hk)).text)∧
  w.cell? ⟨b,o+k*5+4,none⟩=some (.slice Ai (f.eP[k]'(by rw[oK];exact hk)).inner.len ci):=by
 obtain⟨A',c',hv,hc,hor⟩:=h
 injection hv with e1 e2 e3
 subst e1 e3
 rcases hor with h0|⟨b,o,rfl,hI,hb,hat⟩
 ·omega
 ·obtain⟨t,y,n,s,i,hd,_⟩:=f.drop_cons k hk
  have h1:=hat.drop k;rw[hd]at h1;have h2:=KH hd;rw[aP (by rw[oK];exact hk)]at h2;injection h2 with h2;rw[h2];obtain⟨g0,g1,g2,g3,⟨Ai,ci,g4,_,_⟩,_⟩:=h1;exact⟨b,o,Ai,ci,rfl,hb,g0,g1,g2,g3,g4⟩
def Wx(w2:World)(mb:Nat)(l:List Sp)(wr:World):Prop:=MapAt wr prog 9 mb (G7 l)∧Below w2.heap.size w2 wr
def AQ(L:List Sp)(m:Mp)(j:Nat):Prop:=∀i,i<j→(L.any fun s=>decide (s.nm=dW i))=true∨(m.val i).nothing=true
def wX(w:World)(m:Mp)(v:Nat)(e:Ending)(w':World):Prop:=e=.returned (.int .i64 (iG m v))∧Below w.heap.size w w'
theorem ajs(k v:Nat)(h1:1≤v)(h3:v≤3){I:Nat→Prop}{m:Mp}{dv tv rv:Value}(w:World)(hv:gU w I m dv tv rv)(hz:jV m)(hT:Tabs w)(hk:m.kind=(k:Int))(hk1:1≤k)(hk8:k≤8)(hkv:iP k≤v)(hk0:iP k≠0) :
 Calls prog 43 #[.agg (dR m dv tv rv),.int .i64 (v:Int)] w (wX w m v):=by
 have hkn:eH m.kind=k:=by rw[hk,OL hk1 hk8]
 have xq:Hid (∀x,Calls prog 37 #[.int .i64 m.kind] x (aj x (.int .i64 (iP k:Int)))):=fun x=>by
  have:=ND m.kind x hz.kind;rw[hkn]at this;exact this
 have nU:Hid (∀x,Calls prog 39 #[.int .i64 m.kind,.int .i64 (v:Int)] x (qw x (fJ k v))):=fun x=>by
  rw[hk];exact OM k v x hk1 hk8 hkv h3
 have hok:=zh k v
 have hll:(fJ k v).length≤5:=aI (List.length_filter_le _ _) (Au k)
 have qV:Hid (∀e w',e=.returned (.int .i64 (if ql m (fJ k v)then 26
  else if iQ m (fJ k v)≠0 then iQ m (fJ k v)
  else if m.bounds≠0 then m.bounds
  else if fM m.rest 0 0≠0 then(fM m.rest 0 0:Int)
  else if m.rest.eP.any (fun f=>decide (f.tag∈(fJ k v).map Sp.tag))then 14 else 0))→Below w.heap.size w w'→wX w m v e w'):=fun e w' he hb=>by
  have e:iG m v=if ql m (fJ k v)then 26
   else if iQ m (fJ k v)≠0 then iQ m (fJ k v)
   else if m.bounds≠0 then m.bounds
   else if fM m.rest 0 0≠0 then(fM m.rest 0 0:Int)
   else if m.rest.eP.any (fun f=>decide (f.tag∈(fJ k v).map Sp.tag))then 14 else 0:=by
   unfold iG
   rw[hkn,ay (by omega)]
   rfl
  exact⟨by rw[he,e],hb⟩
 have hlo:¬(v:Int)<1:=by omega
 have hhi:¬(3:Int)<(v:Int):=by omega
 have hkb:((iP k:Int)==0)=false:=by rw[aB];omega
 have hkb2:¬(v:Int)<(iP k:Int):=by omega
 generalize fJ k v=L at *
 generalize iP k=K at *
 generalize wX w m v=Q at *
 have HZ:=ah hz
 have HT:=ah hT
 have lT:=ah hok
 clear hz hT hk hkn hk1 hk8 hok hkv hk0
 obtain⟨dA,dc,tA,tc,rA,rc,rfl,rfl,rfl⟩:=hv.slices
 obtain⟨wz,hwz,hsz,HM,fC⟩:=lM w 35 (dR m (.slice dA m.d.length dc) (.slice tA m.t.length tc) (.slice rA m.rest.len rc))
 have HV:=ah (hv.below fC.out)
 clear hv
 simp only[dR]at hwz
 unfold dR
 go_enter func43,ntmps43
 go_wp2_with fail
 rw[← hwz]
 refine(xq.out _).mono ?_
 rintro e w1 ⟨rfl,hb1⟩
 have gQ:=ah (HM.out.below hb1 HM.out.lt)
 have HB1:=ah hb1
 have hc0:w1.cell? ⟨w.heap.size,0,none⟩=some (.int .i64 m.kind):=gQ.out.cell 0
 have hl1:=gQ.out.lt
 clear hb1 xq hwz
 go_wp2_with fail
 refine(nU.out _).mono ?_
 rintro e w2 ⟨A,c,rfl,hrd,hlc,hb2⟩
 have jq:=ah hrd
 have HB2:=ah (bb HB1.out hb2)
 have KZ:Hid (Below wz.heap.size wz w2):=HB2.out
 have hmm:=aml
 have H0:Hid (Wx w2 w2.heap.size (L.take 0) (w2.alloc (.map #[] 0))):=⟨MapAt.made w2 prog 9,ba b0 _⟩
 clear hrd hb2 nU hc0 gQ HB1 hkb hkb2 hlo hhi
 go_wp2_with fail
 go_loopg [46] L.length (fun gk ki wr=>∃j:Nat,j≤L.length∧L.length - j≤gk∧ki=.int .i64 (j:Int)∧Hid (Wx w2 w2.heap.size (L.take j) wr))
 case atStart=>exact⟨0,aW _,by omega,rfl,H0⟩
 case round=>
  obtain⟨j,hj,hgj,rfl,HS⟩:=hrel;obtain⟨hmap,hbel⟩:=HS.out;by_cases hlt:j<L.length
  ·obtain⟨b,off,rfl,hbl,c0,c1,c2,c3⟩:=uU (jq.out.below hbel) hlt
   have hst:L.take (j+1)=L.take j++[L[j]]:=(aT hlt).symm;have hnl:L[j].nm.length≤9:=by
    obtain⟨h1,_,_,_,_,h2,_⟩:=lT.out.2 L[j] (aS hlt);rw[h2];exact Vg _ h1
   generalize L[j]=s at *;have hbs:=ba (a:=wr) b0 (.cells #[.int .u64 (s.tag:Int),.int .i64 (s.use:Int),.int .i64 (s.from_:Int),.string (txt s.nm)] 94);have wI:=ah (Az hmap hbs);have nR:=ah (hbel.trans (hbs.mono hbel.size));have HST:=ah hst;have hjl:(G7 (L.take j)).length≤5:=(by rw[G7,aY,bD];omega);clear hmap hbel hst HS H0 hbs;go_wp2_with(with_reducible show wpList _ _ _ (Oper.mk _ (Op.mapUpdate _ _ _ _) _ _ _ _::_) _ _;refine adQ _ rfl _ _ _ 156 rfl 9 4 UY underlying156 _ _ rfl wI.out (by unfold maxLen;omega) (.string (txt s.nm)) (.bool true) (.string s.nm) rfl rfl (UW _ (by omega)) (abL _) ?_;intro w3 GV hg3);go_roundg (L.length - (j+1))
   case measure=>omega
   case rel=>
    refine⟨j+1,by omega,au _,by go_num,?_,nR.out.grown hg3 nR.out.size fun q hq=>by injection hq with hq;omega⟩;rw[HST.out,G7,dB];exact GV
  obtain rfl:j=L.length:=by omega
  rw[aU (au _)]at hmap;have wI:=ah hmap;have qJ:=ah hbel;have Dn:=ah (aco wr);clear hmap hbel HS H0;go_wp2_with fail;refine Dn.out.mono ?_;rintro e w4 ⟨g,cg,rfl,hg,hnm,hb4⟩;have XC:=ah (Az wI.out hb4);have CQ:=ah (bb qJ.out hb4);have FD:Hid (Below wz.heap.size wz w4):=bb KZ.out CQ.out;have zH:=ah hnm;have ou:Hid (AQ L m 0):=fun i hi=>aJ hi (by omega);clear hnm hb4 Dn wI qJ hg;go_wp2_with fail;go_loopg [56] 22 (fun gk ki wr=>∃j:Nat,j≤22∧22 - j≤gk∧ki=.int .i64 (j:Int)∧Hid (AQ L m j)∧Hid (Below w4.heap.size w4 wr))
  case atStart=>exact⟨0,by omega,by omega,rfl,ou,b0⟩
  case round=>
   obtain⟨j,hj,hgj,rfl,HN,HB⟩:=hrel;by_cases jl:j<22
   ·obtain⟨b,off,iL,hbl,hcn⟩:=(zH.out.below HB.out).at_ (k:=j) (by simpa[oU,tH]using jl)
    injection iL with iL;injection iL with e1 e2;subst e1 e2;rw[O4,aX]at hcn;have hnl:=Vg j jl;have wI:=ah (Az XC.out HB.out);have hget:=abU (dW j) L (.bool false);have jh:Hid ((L.any fun s=>decide (s.nm=dW j))=true∨(m.val j).nothing=true→AQ L m (j+1)):=fun h i hi=>by
     rcases Nat.lt_or_ge i j with h2|h2
     ·exact HN.out i h2
     obtain rfl:i=j:=(by omega);exact h
    have gG:=ah (qF w.heap.size wr j jl);have iW:=ah (bb FD.out HB.out);have rO:Hid (∀x,Below wr.heap.size wr x→Calls prog 84 #[gW w.heap.size j] x (aj x (.bool (m.val j).nothing))):=fun x hx=>
     ajP x (HM.out.below (bb iW.out hx) HM.out.lt) (HV.out.below (bb iW.out hx)) j jl
    have zM:Hid ((L.any fun s=>decide (s.nm=dW j))=false→(m.val j).nothing=false→ql m L=true):=fun h2 h3=>adl jl h2 h3;generalize dW j=N at *;generalize gW w.heap.size j=P at *;clear HN ou;cases hk:(L.any fun s=>decide (s.nm=N))with
    |true=>
      rw[hk,aA rfl]at hget;have HG:=ah hget;have iq:=ah (jh.out (.inl hk));clear hget hk jh zM;go_wp2_with(at_lookup;refine E5 _ rfl _ _ 156 rfl 9 4 UY underlying156 (adU _) _ _ rfl wI.out (.string (txt N)) (.string N) rfl (UW _ (by omega)) HG.out ?_);go_roundg (22 - (j+1))
      case measure=>omega
      case rel=>exact⟨j+1,by omega,au _,by go_num,iq,HB⟩
    |false=>
      rw[hk,ay (by simp)]at hget;have HG:=ah hget;have Dp:Hid ((m.val j).nothing=true→AQ L m (j+1)):=fun h=>jh.out (.inr h);have DC:Hid ((m.val j).nothing=false→ql m L=true):=zM.out hk;clear hget hk jh zM;generalize(m.val j).nothing=D at *;go_wp2_with(at_lookup;refine E5 _ rfl _ _ 156 rfl 9 4 UY underlying156 (adU _) _ _ rfl wI.out (.string (txt N)) (.string N) rfl (UW _ (by omega)) HG.out ?_);refine gG.out.mono ?_;rintro e w5 ⟨rfl,hb5⟩;have gY:=ah hb5;clear hb5;go_wp2_with fail;refine(rO.out _ gY.out).mono ?_;rintro e w6 ⟨rfl,hb6⟩;have iE:=ah (bb (bb HB.out gY.out) hb6);clear hb6;cases D with
      |true=>
        have iq:=ah (Dp.out rfl);clear Dp DC;go_wp2_with fail;go_roundg (22 - (j+1))
        case measure=>omega
        case rel=>exact⟨j+1,by omega,au _,by go_num,iq,iE⟩
      |false=>
        have hs:=DC.out rfl;rw[hs]at qV;clear Dp DC hs;go_wp2_with fail;exact qV.out _ _ rfl (bb fC.out (bb FD.out iE.out))
   ·obtain rfl:j=22:=by omega
    obtain⟨wo,rfl⟩:∃wo,wo=wr:=⟨_,rfl⟩;have hsn:ql m L=false:=adk HN.out;rw[hsn]at qV
    have pF:Hid (∀e w',e=.returned (.int .i64 (if iQ m L≠0 then iQ m L
     else if m.bounds≠0 then m.bounds
     else if fM m.rest 0 0≠0 then(fM m.rest 0 0:Int)
     else if m.rest.eP.any (fun f=>decide (f.tag∈L.map Sp.tag))then 14 else 0))→Below w.heap.size w w'→Q e w'):=fun e w' he hb=>qV.out e w' (by rw[he];rfl) hb
    have iW:=ah (bb FD.out HB.out);have HRW:Hid (Rd wo A (lS L)):=(jq.out.below CQ.out).below HB.out;have HI:Hid (iQ m (L.drop 0)=iQ m L):=rfl;clear HN hsn qV XC zH HB ou jq CQ;go_wp2_with fail;go_loopg [73] L.length (fun gk ki wx=>∃j:Nat,j≤L.length∧L.length - j≤gk∧ki=.int .i64 (j:Int)∧Hid (iQ m (L.drop j)=iQ m L)∧Hid (Below wo.heap.size wo wx))
    case atStart=>exact⟨0,by omega,by omega,rfl,HI,b0⟩
    case round=>
     obtain⟨j,hj,hgj,rfl,jy,HB⟩:=hrel;obtain⟨wx,rfl⟩:∃wx,wx=wr:=⟨_,rfl⟩;have iy:=ah (bb iW.out HB.out);by_cases jl:j<L.length
     ·obtain⟨b,off,iL,hbl,c0,c1,c2,c3⟩:=uU (HRW.out.below HB.out) jl
      have KU:=ah iL;subst iL;have s1:=(lT.out.2 L[j] (aS jl)).1;have s6:=(lT.out.2 L[j] (aS jl)).2.2.2.2.2.1;have HST:=ah (acg m jl);generalize L[j]=s at *;rw[s6]at c3;have gG:Hid (∀x,Calls prog 59 #[.pointer (some ⟨w.heap.size,0,none⟩),.string (txt (dW (six s)))] x (aj x (gW w.heap.size (six s)))):=fun x=>qF w.heap.size x (six s) s1;have Ba:Hid (∀x,Below wx.heap.size wx x→Calls prog 85 #[gW w.heap.size (six s)] x (aj x (.int .i64 (m.val (six s)).may))):=fun x hx=>
       ajo x (HM.out.below (bb iy.out hx) HM.out.lt) (HV.out.below (bb iy.out hx)) HZ.out (HT.out.below (bb fC.out (bb iy.out hx))) (six s) s1
      have hbs:=ba (a:=wx) b0 (.cells #[.int .u64 (s.tag:Int),.int .i64 (s.use:Int),.int .i64 (s.from_:Int),.string (txt (dW (six s)))] 94);have nR:=ah hbs;generalize dW (six s)=N at *;generalize gW w.heap.size (six s)=P at *;generalize(m.val (six s)).may=E at *;clear hbs s6 HI;go_wp2_with fail;refine(gG.out _).mono ?_;rintro e w5 ⟨rfl,hb5⟩;have gY:=ah (bb nR.out hb5);clear hb5 gG nR;go_wp2_with fail;refine(Ba.out _ gY.out).mono ?_;rintro e w6 ⟨rfl,hb6⟩;have iE:=ah (bb gY.out hb6);clear hb6 Ba gY;by_cases hE:E=0
      ·subst hE
       have iq:Hid (iQ m (L.drop (j+1))=iQ m L):=by
        have h1:=HST.out;rw[ay (by simp)]at h1;exact h1.symm.trans jy.out
       have iV:=ah (bb HB.out iE.out);clear HST jy KU;go_wp2_with fail;go_roundg (L.length - (j+1))
       case measure=>omega
       case rel=>exact⟨j+1,by omega,au _,by go_num,iq,iV⟩
      have hL:iQ m L=E:=by
       have h1:=HST.out;rw[aA hE]at h1;exact jy.out.symm.trans h1
      rw[hL,aA hE]at pF;have yU:(E==0)=false:=(by rw[aB];exact hE);clear hL HST jy KU;go_wp2_with fail;exact pF.out _ _ rfl (bb fC.out (bb iy.out iE.out))
     obtain rfl:j=L.length:=(by omega);have hm0:iQ m L=0:=(by rw[← jy.out,List.drop_length];rfl);rw[hm0]at pF;have vw:Hid (∀e w',e=.returned (.int .i64 (if m.bounds≠0 then m.bounds else if fM m.rest 0 0≠0 then(fM m.rest 0 0:Int)else if m.rest.eP.any (fun f=>decide (f.tag∈L.map Sp.tag))then 14 else 0))→Below w.heap.size w w'→Q e w'):=fun e w' he hb=>pF.out e w' (by rw[he];rfl) hb;have hmx:=HM.out.below iy.out HM.out.lt;have pz:=ah hmx;have wY:=ah (afo wx (HV.out.below iy.out));have sN:Hid (∀x,Below wx.heap.size wx x→Calls prog 46 #[.slice rA m.rest.len rc] x (aj x (.int .i64 (fM m.rest 0 0:Int)))):=fun x hx=>
      Jg (.slice rA m.rest.len rc) m.rest I x (HV.out.below (bb iy.out hx)).2.2 HZ.out.good.2 (aI HZ.out.rest (by decide))
     have tq:wx.cell? ⟨w.heap.size,23,none⟩=some (.slice rA m.rest.len rc):=hmx.cell 23;have hlx:=hmx.lt;have hrl:m.rest.len≤1000000:=aI m.rest.kH (aI HZ.out.rest (by decide));have Dx:Hid (Rd wx A (lS L)):=HRW.out.below HB.out;clear hm0 pF hmx jy HI HRW;generalize m.bounds=BD at *
     go_wp2_with
      (with_reducible show wpList _ _ _ (Oper.mk _ (Op.load 35 _) _ _ _ _::_) _ _;refine nN rfl _ _ rfl _ rfl _ pz.out underlying35 rfl (iC _ _ _ _) ?_)
     refine wY.out.mono ?_;rintro e w7 ⟨rfl,hb7⟩;have iV:=ah hb7;clear hb7 wY pz tq hlx;by_cases hB0:BD=0
     ·subst hB0
      have Es:=HM.out.below (bb iy.out iV.out) HM.out.lt;have tq:w7.cell? ⟨w.heap.size,23,none⟩=some (.slice rA m.rest.len rc):=Es.cell 23;have hlx:=Es.lt;clear Es;go_wp2_with fail;refine(sN.out _ iV.out).mono ?_;rintro e w8 ⟨rfl,hb8⟩;have kN:=ah (bb (bb iy.out iV.out) hb8);have yE:Hid (Rd w8 A (lS L)):=(Dx.out.below iV.out).below hb8;clear hb8 sN Dx tq hlx;generalize fM m.rest 0 0=FC at *;by_cases yV:FC=0
      ·subst yV
       have qW:Hid (∀e w',e=.returned (.int .i64 (if m.rest.eP.any (fun f=>decide (f.tag∈L.map Sp.tag))then 14 else 0))→Below w.heap.size w w'→Q e w'):=fun e w' he hb=>vw.out e w' (by rw[he];rfl) hb;have Et:=HM.out.below kN.out HM.out.lt;have tq:w8.cell? ⟨w.heap.size,23,none⟩=some (.slice rA m.rest.len rc):=Et.cell 23;have hlx:=Et.lt;have ou:Hid (∀k h,k<0→((m.rest.eP[k]'h).tag) ∉ L.map Sp.tag):=fun k _ h=>aJ h (by omega);clear Et vw;go_wp2_with fail;clear tq;go_loopg [99] m.rest.len (fun gk ki wy=>∃k:Nat,k≤m.rest.len∧m.rest.len - k≤gk∧ki=.int .i64 (k:Int)∧Hid (∀q h,q<k→((m.rest.eP[q]'h).tag) ∉ L.map Sp.tag)∧Hid (Below w8.heap.size w8 wy))
       case atStart=>exact⟨0,by omega,by omega,rfl,ou,b0⟩
       case round=>
        obtain⟨k,hk,hgk,rfl,HN,HB⟩:=hrel;obtain⟨wy,rfl⟩:∃wy,wy=wr:=⟨_,rfl⟩;have qP:=ah (bb kN.out HB.out);by_cases hltk:k<m.rest.len
        ·obtain⟨b,o,Ai,ci,hre,hbl,d0,d1,d2,d3,d4⟩:=PD (HV.out.below qP.out).2.2 k hltk
         subst hre;have hkt:k<m.rest.eP.length:=(by rw[oK];exact hltk);have jh:Hid ((m.rest.eP[k]'hkt).tag ∉ L.map Sp.tag→∀q h,q<k+1→((m.rest.eP[q]'h).tag) ∉ L.map Sp.tag):=fun h q hq hlt=>by
          rcases Nat.lt_or_ge q k with h2|h2
          ·exact HN.out q hq h2
          obtain rfl:q=k:=(by omega);exact h
         have zO:Hid ((m.rest.eP[k]'hkt).tag∈L.map Sp.tag→m.rest.eP.any (fun f=>decide (f.tag∈L.map Sp.tag))=true):=fun h=>List.any_eq_true.2 ⟨_,aS hkt,by simpa using h⟩;generalize hfe:m.rest.eP[k]'hkt=F at *;obtain⟨tg,ty,nu,tx,inn⟩:=F;simp only at d0 d1 d2 d3 d4 jh zO;have hfm:=dU.made wy 47 #[.int .u64 (tg:Int),.int .i64 ty,.int .u64 (nu:Int),.string tx,.slice Ai inn.len ci];have hbf:=ba (a:=wy) b0 (.cells #[.int .u64 (tg:Int),.int .i64 ty,.int .u64 (nu:Int),.string tx,.slice Ai inn.len ci] 47);generalize inn.len=il at *;clear hfe hkt HN ou;go_wp2_with fail;have iY:=ah hfm;have fU:=ah hbf;have wJ:Hid (Rd (wy.alloc (.cells #[.int .u64 (tg:Int),.int .i64 ty,.int .u64 (nu:Int),.string tx,.slice Ai il ci] 47)) A (lS L)):=(yE.out.below HB.out).below hbf;have HI0:Hid (∀q h,q<0→(L[q]'h).tag≠tg):=fun q _ h=>aJ h (by omega)
         clear hfm hbf d0 d1 d2 d3 d4;generalize wy.alloc (.cells #[.int .u64 (tg:Int),.int .i64 ty,.int .u64 (nu:Int),.string tx,.slice Ai il ci] 47)=wf at iY fU wJ⊢;obtain⟨G,hG⟩:∃G,G=gk:=⟨_,rfl⟩;rw[← hG]at hgk;go_loopg [105] L.length (fun gk ki wi=>∃j:Nat,j≤L.length∧L.length - j≤gk∧ki=.int .i64 (j:Int)∧Hid (∀q h,q<j→(L[q]'h).tag≠tg)∧Hid (Below wf.heap.size wf wi))
         case atStart=>exact⟨0,by omega,by omega,rfl,HI0,b0⟩
         case round=>
          obtain⟨j,hj,hgj,rfl,HJ,nC⟩:=hrel;obtain⟨wi,rfl⟩:∃wi,wi=wr:=⟨_,rfl⟩;by_cases jl:j<L.length
          ·obtain⟨b2,off2,iL,rC,c0,c1,c2,c3⟩:=uU (wJ.out.below nC.out) jl
           subst iL;have hfc:=iY.out.below nC.out iY.out.lt;have q0:=hfc.cell 0;have hlf:=hfc.lt;simp at q0;have xw:Hid ((L[j]'jl).tag≠tg→∀q h,q<j+1→(L[q]'h).tag≠tg):=fun h q hq hlt=>by
            rcases Nat.lt_or_ge q j with h2|h2
            ·exact HJ.out q hq h2
            obtain rfl:q=j:=(by omega);exact h
           have Di:Hid ((L[j]'jl).tag=tg→tg∈L.map Sp.tag):=fun h=>dL.2 ⟨_,aS jl,h⟩;generalize L[j]'jl=s at *;have Ik:=ah (ba nC.out (.cells #[.int .u64 (s.tag:Int),.int .i64 (s.use:Int),.int .i64 (s.from_:Int),.string (txt s.nm)] 94));clear hfc HJ HI0;by_cases he:s.tag=tg
           ·have hany:=zO.out (Di.out he)
            rw[hany]at qW;have heb:((tg:Int)==(s.tag:Int))=true:=(by rw[he];simp);clear hany zO jh xw Di he;go_wp2_with fail;exact qW.out _ _ rfl (bb fC.out (bb qP.out (bb fU.out Ik.out)))
           have HJ2:=ah (xw.out he);have heb:((tg:Int)==(s.tag:Int))=false:=(by rw[aB];omega);clear xw Di he;go_wp2_with fail;go_roundg (L.length - (j+1))
           case measure=>omega
           case rel=>exact⟨j+1,by omega,au _,by go_num,HJ2,Ik⟩
          obtain rfl:j=L.length:=(by omega);have iq:=ah (jh.out fun hm=>by
           obtain⟨s,hs,e⟩:=dL.1 hm;obtain⟨q,hq,e2⟩:=List.getElem_of_mem hs;exact HJ.out q hq hq (by rw[e2];exact e))
          have Fz:=ah (bb HB.out (bb fU.out nC.out));clear HJ HI0 jh zO;go_wp2_with fail;go_roundg (m.rest.len - (k+1))
          case measure=>omega
          case rel=>exact⟨k+1,by omega,au _,by go_num,iq,Fz⟩
        obtain rfl:k=m.rest.len:=(by omega);have hany:m.rest.eP.any (fun f=>decide (f.tag∈L.map Sp.tag))=false:=by
         rw[List.any_eq_false];intro f hf;obtain⟨q,hq,e2⟩:=List.getElem_of_mem hf;rw[← e2];simpa using HN.out q hq (by rw[oK]at hq;exact hq)
        rw[hany]at qW;clear hany HN ou;go_wp2_with fail;exact qW.out _ _ rfl (bb fC.out qP.out)
      have TJ:¬(FC:Int)=0:=(by omega);have hFb:((FC:Int)==0)=false:=(by rw[aB];exact TJ);have qW:Hid (∀e w',e=.returned (.int .i64 (FC:Int))→Below w.heap.size w w'→Q e w'):=fun e w' he hb=>vw.out e w' (by rw[he,ay (by simp),aA yV]) hb;clear vw yV;go_wp2_with fail;exact qW.out _ _ rfl (bb fC.out kN.out)
     have hBb:(BD==0)=false:=(by rw[aB];exact hB0);have qW:Hid (∀e w',e=.returned (.int .i64 BD)→Below w.heap.size w w'→Q e w'):=fun e w' he hb=>vw.out e w' (by rw[he,aA hB0]) hb;clear vw;go_wp2_with fail;exact qW.out _ _ rfl (bb fC.out (bb iy.out iV.out))
theorem Kr(v:Nat)(h1:1≤v)(h3:v≤3){I:Nat→Prop}{m:Mp}{dv tv rv:Value}(w:World)(hv:gU w I m dv tv rv)(hz:jV m)(hT:Tabs w) :
 Calls prog 43 #[.agg (dR m dv tv rv),.int .i64 (v:Int)] w (wX w m v):=by
 by_cases hb:iP (eH m.kind)=0∨v<iP (eH m.kind)
 ·refine(ajr v h1 h3 w hv hz hb).mono fun e w' ⟨h4,h5⟩=>⟨?_,h5⟩
  rw[h4];unfold iG;rw[aA hb]
 ·have h4:=EJ (k:=eH m.kind) (by omega)
  have hk:m.kind=(eH m.kind:Int):=by
   have h1:=h4.1;unfold eH at h1⊢;split at h1
   ·rename_i h;rw[aA h];omega
   omega
  exact ajs (eH m.kind) v h1 h3 w hv hz hT hk h4.1 h4.2.1 (by omega) (by omega)
