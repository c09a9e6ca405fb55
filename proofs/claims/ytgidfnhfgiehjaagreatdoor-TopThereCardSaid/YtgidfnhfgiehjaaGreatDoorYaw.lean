/-
  Parts of the proof. Conditions: as each names.
-/
import Derived.Test.YtgidfnhfgiehjaaGreatDoorYas
import Derived.Laws.EntriesVeiled
section
namespace Go.PM
open Go.RowKit
def dZ(s:ByteArray)(k:Nat):List UInt8:=s.data.toList.drop k
theorem yg(s:ByteArray)(k:Nat):(dZ s k).length=s.size - k:=by unfold dZ;rw[aN,fK]
theorem OU(s:ByteArray)(k m:Nat):(dZ s k).drop m=dZ s (k+m):=by unfold dZ;rw[cZ]
theorem ab1(s:ByteArray)(k m:Nat):(s.extract k (k+m)).data.toList=(dZ s k).take m:=by unfold dZ;rw[ext_list];congr 1;omega
end Go.PM
namespace Go.Proofs.YtgidfnhfgiehjaaGreatDoor
open Go.RowKit Go.PM
set_option maxRecDepth 100000
set_option maxHeartbeats 1500000
attribute [local go_sem ↓] Go.wp_at_zero Go.wp_at_succ
def pI(w:World)(rb cb d a:Nat):Prop:=dU w rb 151 #[.pointer (some ⟨cb,0,none⟩),.int .i64 (d:Int),.int .u64 (a:Int)]
def wu(w:World)(fb t:Nat)(y:Int)(n:Nat)(x:ByteArray)(v:Value):Prop:=dU w fb 47 #[.int .u64 (t:Int),.int .i64 y,.int .u64 (n:Int),.string x,v]
theorem pI.grown{w w':World}{rb cb d a:Nat}{s:ByteArray}{k:Nat}(h:pI w rb cb d a)(hc:fG w cb s k)(hg:w.grownBy w' (some cb)):pI w' rb cb d a:=dU.step h hg (by intro e;injection e with e;exact aJ e (dU.apart h hc.1 (by decide)))
theorem wu.grown{w w':World}{fb cb t n:Nat}{y:Int}{x:ByteArray}{v:Value}{s:ByteArray}{k:Nat}(h:wu w fb t y n x v)(hc:fG w cb s k)(hg:w.grownBy w' (some cb)):wu w' fb t y n x v:=dU.step h hg (by intro e;injection e with e;exact aJ e (dU.apart h hc.1 (by decide)))
def S2(cb fb j:Nat):Prop:=j=cb∨j=fb
def NumEnd(w:World)(rb cb fb d a t:Nat)(y:Int)(x:ByteArray)(v:Value)(s:ByteArray)(k:Nat)(e:Ending)(w':World):Prop :=
 e=.returned (.int .i64 ((dQ (dZ s k)).2.2:Int))∧fG w' cb s (k+(dQ (dZ s k)).2.1)∧wu w' fb t y (dQ (dZ s k)).1 x v∧pI w' rb cb d a∧dX (S2 cb fb) w w'
theorem ajR(rb cb fb d a t n:Nat)(y:Int)(x:ByteArray)(v:Value)(s:ByteArray)(k:Nat)(w:World)(hr:pI w rb cb d a)(hc:fG w cb s k)(hf:wu w fb t y n x v) :
 Calls Tryz.prog 175 #[.pointer (some ⟨rb,0,none⟩),.pointer (some ⟨fb,0,none⟩)] w (NumEnd w rb cb fb d a t y x v s k):=by
 have HR:=ah hr
 have HC:=ah hc
 have HF:=ah hf
 have r0:=hr.cell 0
 simp at r0
 clear hr hc hf
 go_enter Tryz.func175,Tryz.ntmps175
 go_wp2_with fail
 refine(next_any cb s k _ HC.out).mono ?_
 rintro e w1 ⟨rfl,hc1,hg⟩
 have hr1:=HR.out.grown HC.out hg
 have hf1:=HF.out.grown HC.out hg
 have r0:=hr1.cell 0
 have r1:=hr1.cell 1
 have r2:=hr1.cell 2
 have x0:=hf1.cell 0
 have x1:=hf1.cell 1
 have x2:=hf1.cell 2
 have x3:=hf1.cell 3
 have x4:=hf1.cell 4
 have y2:=hf1.free 2
 have y3:=hf1.free 3
 have y4:=hf1.free 4
 simp at r0 r1 r2 x0 x1 x2 x3 x4
 have HR1:=ah hr1
 have lV:=ah hf1
 have gK:=ah hc1
 have HG:=ah hg
 have HE:Hid (NumEnd w rb cb fb d a t y x v s k (.returned (.int .i64 ((dQ (dZ s k)).2.2:Int))) (w1.setCell ⟨fb,2,none⟩ (.int .u64 ((dQ (dZ s k)).1:Int)))):=by
  have hne1:rb≠fb:=dU.apart hr1 hf1 (by decide);have hne2:cb≠fb:=dU.apart hc1.1 hf1 (by decide);refine⟨rfl,⟨hc1.1.far (p:=⟨fb,2,none⟩) hne2 _,hc1.2⟩,?_,dU.far (p:=⟨fb,2,none⟩) hr1 hne1 _,?_⟩
  ·have:=dU.put hf1 2 (.int .u64 ((dQ (dZ s k)).1:Int))
   exact this
  exact(dX.grown (S:=S2 cb fb) hg (fun g e _=>by injection e with e;exact .inl e.symm)).put (p:=⟨fb,2,none⟩) (fun _=>.inr rfl) _
 unfold dZ at HE
 generalize(dQ (s.data.toList.drop k)).1=V at *
 generalize(dQ (s.data.toList.drop k)).2.2=G at *
 clear hr1 hf1 hc1 hg
 go_wp2_with fail
 go_ret
 exact HE.out
def I8(w:World)(rb cb fb d a t:Nat)(y:Int)(n:Nat)(v:Value)(s:ByteArray)(k:Nat)(e:Ending)(w':World):Prop :=
 ∃(g k':Nat),e=.returned (.int .i64 (g:Int))∧dX (S2 cb fb) w w'∧fG w' cb s k'∧
  (if(dQ (dZ s k)).2.2≠0 then g=(dQ (dZ s k)).2.2 else if s.size - (k+(dQ (dZ s k)).2.1)<(dQ (dZ s k)).1 then g=1
   else g=0∧k'=k+(dQ (dZ s k)).2.1+(dQ (dZ s k)).1∧pI w' rb cb d a∧wu w' fb t y n (txt ((dZ s (k+(dQ (dZ s k)).2.1)).take (dQ (dZ s k)).1)) v)
theorem anc(rb cb fb d a t n:Nat)(y:Int)(x:ByteArray)(v:Value)(s:ByteArray)(k:Nat)(w:World)(hr:pI w rb cb d a)(hc:fG w cb s k)(hf:wu w fb t y n x v) :
 Calls Tryz.prog 176 #[.pointer (some ⟨rb,0,none⟩),.pointer (some ⟨fb,0,none⟩)] w (I8 w rb cb fb d a t y n v s k):=by
 have HR:=ah hr
 have HC:=ah hc
 have HF:=ah hf
 have r0:=hr.cell 0
 simp at r0
 clear hr hc hf
 go_enter Tryz.func176,Tryz.ntmps176
 go_wp2_with fail
 refine(next_any cb s k _ HC.out).mono ?_
 rintro e w1 ⟨rfl,hc1,hg⟩
 have hr1:=HR.out.grown HC.out hg
 have hf1:=HF.out.grown HC.out hg
 have ht1:dX (S2 cb fb) w w1:=dX.grown hg (fun g e _=>by injection e with e;exact .inl e.symm)
 rw[show s.data.toList.drop k=dZ s k from rfl]at hc1⊢
 have r0:=hr1.cell 0
 have r1:=hr1.cell 1
 have r2:=hr1.cell 2
 have x0:=hf1.cell 0
 have x1:=hf1.cell 1
 have x2:=hf1.cell 2
 have x3:=hf1.cell 3
 have x4:=hf1.cell 4
 have y2:=hf1.free 2
 have y3:=hf1.free 3
 have y4:=hf1.free 4
 simp at r0 r1 r2 x0 x1 x2 x3 x4
 by_cases hv:(dQ (dZ s k)).2.2=0
 ·obtain⟨v1,v2,v3,v4,v5⟩:=nZ hv
  rw[yg]at v2;have hz:=hc1.2.2;by_cases hbig:s.size - (k+(dQ (dZ s k)).2.1)<(dQ (dZ s k)).1
  ·have HE:Hid (∀w',Below w1.heap.size w1 w'→I8 w rb cb fb d a t y n v s k (.returned (.int .i64 1)) w'):=fun w' hb=>⟨1,_,rfl,ht1.bel hb,⟨hc1.1.below hb hc1.1.lt,hc1.2⟩,by rw[ay (by omega),aA hbig]⟩
   have htk:=Gm cb s _ ((dQ (dZ s k)).1:Int) w1 hc1 (by omega) (by omega);have jZ:=ah htk;rw[hv];clear htk hv v1 v2 v3 v4 v5 hr1 hf1 hc1 hg ht1 hbig hz;generalize(dQ (dZ s k)).1=V at *;generalize(dQ (dZ s k)).2.1=M at *;go_wp2_with fail;refine jZ.out.mono ?_;rintro e w2 ⟨rfl,hb2⟩;go_wp2_with fail;go_ret;exact HE.out _ hb2
  have htk:=D6 cb s _ ((dQ (dZ s k)).1:Int) w1 hc1 (by omega) (by omega);rw[Int.toNat_natCast,show s.extract (k+(dQ (dZ s k)).2.1) (k+(dQ (dZ s k)).2.1+(dQ (dZ s k)).1)=txt ((dZ s (k+(dQ (dZ s k)).2.1)).take (dQ (dZ s k)).1)from vX (ab1 s _ _)]at htk;have jZ:=ah htk;have HE:Hid (∀w2,fG w2 cb s (k+(dQ (dZ s k)).2.1+(dQ (dZ s k)).1)→w1.grownBy w2 (some cb)→I8 w rb cb fb d a t y n v s k (.returned (.int .i64 0)) (w2.setCell ⟨fb,3,none⟩ (.string (txt ((dZ s (k+(dQ (dZ s k)).2.1)).take (dQ (dZ s k)).1))))):=fun w2 hc2 hg2=>by
   have hr2:=hr1.grown hc1 hg2;have hf2:=hf1.grown hc1 hg2;have hne1:rb≠fb:=dU.apart hr2 hf2 (by decide);have hne2:cb≠fb:=dU.apart hc2.1 hf2 (by decide);have ht2:dX (S2 cb fb) w w2:=ht1.trans (dX.grown (S:=S2 cb fb) hg2 (fun g e _=>by injection e with e;exact .inl e.symm)) fun _ _ h=>h;refine⟨0,_,rfl,ht2.put (p:=⟨fb,3,none⟩) (fun _=>.inr rfl) _,⟨hc2.1.far (p:=⟨fb,3,none⟩) hne2 _,hc2.2⟩,?_⟩;rw[ay (by omega),ay hbig];exact⟨rfl,rfl,dU.far (p:=⟨fb,3,none⟩) hr2 hne1 _,dU.put hf2 3 _⟩
  have HX:Hid (∀w2,w1.grownBy w2 (some cb)→w2.cell? ⟨fb,3,none⟩=some (.string x)∧w2.frozen? ⟨fb,3,none⟩=false):=fun w2 hg2=>by
   have hf2:=hf1.grown hc1 hg2;have e3:=hf2.cell 3;simp at e3;exact⟨e3,hf2.free 3⟩
  rw[hv];clear htk hv v1 v2 v3 v4 v5 hr1 hf1 hc1 hg ht1 hbig hz;generalize txt ((dZ s (k+(dQ (dZ s k)).2.1)).take (dQ (dZ s k)).1)=Z at *;generalize(dQ (dZ s k)).1=V at *;generalize(dQ (dZ s k)).2.1=M at *;go_wp2_with fail;refine jZ.out.mono ?_;rintro e w2 ⟨rfl,hc2,hg2⟩;obtain⟨z3,z4⟩:=HX.out w2 hg2;have HE2:=ah (HE.out w2 hc2 hg2);clear hc2 hg2;go_wp2_with fail;go_ret;exact HE2.out
 ·have HE:Hid (I8 w rb cb fb d a t y n v s k (.returned (.int .i64 ((dQ (dZ s k)).2.2:Int))) w1):=⟨_,_,rfl,ht1,hc1,by rw[aA hv]⟩
  generalize(dQ (dZ s k)).2.2=G at *;generalize(dQ (dZ s k)).1=V at *;have hgi:((G:Int) != 0)=true:=by rw[aZ];omega
  clear hr1 hf1 hc1 hg ht1 hv;go_wp2_with fail;go_ret;exact HE.out
end Go.Proofs.YtgidfnhfgiehjaaGreatDoor
end
namespace Go.Proofs.YtgidfnhfgiehjaaGreatDoor
open Go.PM Go.RowKit Go.Proofs.Tryz
set_option maxRecDepth 100000
set_option maxHeartbeats 4000000
attribute [local go_sem ↓] Go.wp_at_zero Go.wp_at_succ
def AllEnd(w:World)(rb cb d a:Nat)(s:ByteArray)(k:Nat)(e:Ending)(w':World):Prop :=
 ∃(A:Option Addr) (c:Nat),e=.returned (.tuple #[.slice A (gV (dZ s k) d a).1.len c,.int .i64 ((gV (dZ s k) d a).2:Int)])∧eF w' (w.heap.size≤·) (.slice A (gV (dZ s k) d a).1.len c) (gV (dZ s k) d a).1∧dX (S2 cb rb) w w'
def Fe(N:Nat):Prop:=∀(rb cb:Nat) (s:ByteArray) (k d a:Nat) (w:World),s.size - k≤N→d≤8→a≤4294967296→s.size≤1000000→pI w rb cb d a→fG w cb s k→Calls prog 81 #[.pointer (some ⟨rb,0,none⟩)] w (AllEnd w rb cb d a s k)
def FW(w:World)(rb cb fb d a t:Nat)(y:Int)(n:Nat)(x:ByteArray)(s:ByteArray)(k:Nat)(e:Ending)(w':World):Prop :=
 ∃(g k':Nat),e=.returned (.int .i64 (g:Int))∧dX (S2 cb fb) w w'∧fG w' cb s k'∧
  (if(dQ (dZ s k)).2.2≠0 then g=(dQ (dZ s k)).2.2 else if s.size - (k+(dQ (dZ s k)).2.1)<(dQ (dZ s k)).1 then g=1 else if d=8 then g=9
   else g=(gV ((dZ s (k+(dQ (dZ s k)).2.1)).take (dQ (dZ s k)).1) (d+1) 0).2∧k'=k+(dQ (dZ s k)).2.1+(dQ (dZ s k)).1∧pI w' rb cb d a∧
    ∃A c,wu w' fb t y n x (.slice A (gV ((dZ s (k+(dQ (dZ s k)).2.1)).take (dQ (dZ s k)).1) (d+1) 0).1.len c)∧eF w' (w.heap.size≤·) (.slice A (gV ((dZ s (k+(dQ (dZ s k)).2.1)).take (dQ (dZ s k)).1) (d+1) 0).1.len c) (gV ((dZ s (k+(dQ (dZ s k)).2.1)).take (dQ (dZ s k)).1) (d+1) 0).1)
theorem ai6{N:Nat}(hall:Fe N)(rb cb fb d a t n:Nat)(y:Int)(x:ByteArray)(v:Value)(s:ByteArray)(k:Nat)(w:World)(hr:pI w rb cb d a)(hc:fG w cb s k)(hf:wu w fb t y n x v)(hN:s.size - k≤N+1)(hs:s.size≤1000000)(hd:d≤8) :
 Calls prog 177 #[.pointer (some ⟨rb,0,none⟩),.pointer (some ⟨fb,0,none⟩)] w (FW w rb cb fb d a t y n x s k):=by
 have Ii:=ah hall
 have HR:=ah hr
 have HC:=ah hc
 have HF:=ah hf
 have r0:=hr.cell 0
 simp at r0
 clear hr hc hf hall
 go_enter func177,ntmps177
 go_wp2_with fail
 refine(next_any cb s k _ HC.out).mono ?_
 rintro e w1 ⟨rfl,hc1,hg⟩
 have hr1:=HR.out.grown HC.out hg
 have hf1:=HF.out.grown HC.out hg
 have ht1:dX (S2 cb fb) w w1:=dX.grown hg (fun g e _=>by injection e with e;exact .inl e.symm)
 rw[show s.data.toList.drop k=dZ s k from rfl]at hc1⊢
 have r0:=hr1.cell 0
 have r1:=hr1.cell 1
 have r2:=hr1.cell 2
 have x4:=hf1.cell 4
 have y4:=hf1.free 4
 simp at r0 r1 r2 x4
 by_cases hv:(dQ (dZ s k)).2.2=0
 ·obtain⟨v1,v2,v3,v4,v5⟩:=nZ hv
  rw[yg]at v2;have hz:=hc1.2.2;by_cases hbig:s.size - (k+(dQ (dZ s k)).2.1)<(dQ (dZ s k)).1
  ·have HE:Hid (∀w',Below w1.heap.size w1 w'→FW w rb cb fb d a t y n x s k (.returned (.int .i64 1)) w'):=fun w' hb=>⟨1,_,rfl,ht1.bel hb,⟨hc1.1.below hb hc1.1.lt,hc1.2⟩,by rw[ay (by omega),aA hbig]⟩
   have htk:=afU cb s _ ((dQ (dZ s k)).1:Int) w1 hc1 (by omega) (by omega);have jZ:=ah htk;rw[hv];clear htk hv v1 v2 v3 v4 v5 hr1 hf1 hc1 hg ht1 hbig hz;generalize(dQ (dZ s k)).1=V at *;generalize(dQ (dZ s k)).2.1=M at *;go_wp2_with fail;refine jZ.out.mono ?_;rintro e w2 ⟨rfl,hb2⟩;go_wp2_with fail;go_ret;exact HE.out _ hb2
  have htk:=afV cb s _ ((dQ (dZ s k)).1:Int) w1 hc1 (by omega) (by omega);rw[Int.toNat_natCast,show s.extract (k+(dQ (dZ s k)).2.1) (k+(dQ (dZ s k)).2.1+(dQ (dZ s k)).1)=txt ((dZ s (k+(dQ (dZ s k)).2.1)).take (dQ (dZ s k)).1)from vX (ab1 s _ _)]at htk;have jZ:=ah htk;have hX:∀w2,w1.grownBy w2 (some cb)→pI w2 rb cb d a∧wu w2 fb t y n x v∧dX (S2 cb fb) w w2:=fun w2 hg2=>⟨hr1.grown hc1 hg2,hf1.grown hc1 hg2,ht1.trans (dX.grown (S:=S2 cb fb) hg2 (fun g e _=>by injection e with e;exact .inl e.symm)) fun _ _ h=>h⟩;have HX:=ah hX;by_cases h8:d=8
  ·subst h8
   have HE:Hid (∀w2,fG w2 cb s (k+(dQ (dZ s k)).2.1+(dQ (dZ s k)).1)→w1.grownBy w2 (some cb)→FW w rb cb fb 8 a t y n x s k (.returned (.int .i64 9)) w2):=fun w2 hc2 hg2=>
    ⟨9,_,rfl,(hX w2 hg2).2.2,hc2,by rw[ay (by omega),ay hbig,aA rfl]⟩
   rw[hv];clear htk hv v1 v2 v3 v4 v5 hr1 hf1 hc1 hg ht1 hbig hz hX;generalize txt ((dZ s (k+(dQ (dZ s k)).2.1)).take (dQ (dZ s k)).1)=Z at *;generalize(dQ (dZ s k)).1=V at *;generalize(dQ (dZ s k)).2.1=M at *;go_wp2_with fail;refine jZ.out.mono ?_;rintro e w2 ⟨g,rfl,hgs,hcg,hc2,hg2⟩;have hr2:=(HX.out w2 hg2).1;have e1:=hr2.cell 1;simp at e1;have HE2:=ah (HE.out w2 hc2 hg2);clear hc2 hg2 hcg hr2;go_wp2_with fail;go_ret;exact HE2.out
  have Oy:((dZ s (k+(dQ (dZ s k)).2.1)).take (dQ (dZ s k)).1).length=(dQ (dZ s k)).1:=by rw[bD,yg];omega
  have hvN:(dQ (dZ s k)).1≤N∧(dQ (dZ s k)).1≤1000000:=by omega
  obtain⟨aoT,aiA⟩:=hvN;have hlu:∀U:List UInt8,dZ (txt U) 0=U:=fun U=>rfl
  have HE:Hid (∀(w2 w4:World) (q:Nat) (A:Option Addr) (c:Nat),fG w2 cb s (k+(dQ (dZ s k)).2.1+(dQ (dZ s k)).1)→w1.grownBy w2 (some cb)→w1.heap.size≤q→q<w2.heap.size→
   eF w4 (w2.heap.size+1≤·) (.slice A (gV ((dZ s (k+(dQ (dZ s k)).2.1)).take (dQ (dZ s k)).1) (d+1) 0).1.len c) (gV ((dZ s (k+(dQ (dZ s k)).2.1)).take (dQ (dZ s k)).1) (d+1) 0).1→
   dX (S2 q w2.heap.size) (w2.alloc (.cells #[.pointer (some ⟨q,0,none⟩),.int .i64 ((d:Int)+1),.int .u64 0] 151)) w4→
   w4.cell? ⟨fb,4,none⟩=some v∧w4.frozen? ⟨fb,4,none⟩=false∧FW w rb cb fb d a t y n x s k (.returned (.int .i64 ((gV ((dZ s (k+(dQ (dZ s k)).2.1)).take (dQ (dZ s k)).1) (d+1) 0).2:Int))) (w4.setCell ⟨fb,4,none⟩ (.slice A (gV ((dZ s (k+(dQ (dZ s k)).2.1)).take (dQ (dZ s k)).1) (d+1) 0).1.len c))):=fun w2 w4 q A c hc2 hg2 hq1 hq2 hs4 kG=>by
   obtain⟨hr2,hf2,ht2⟩:=hX w2 hg2
   have hsz:=hg2.size
   have hsz1:=hg.size
   have hcl:=hc1.1.lt
   have hfl:=hf1.lt
   have hrl:=hr1.lt
   have hn:∀j,j<w1.heap.size→¬S2 q w2.heap.size j:=fun j hj h=>by rcases h with h|h<;>omega
   have hr4:=(dU.more hr2 (.cells #[.pointer (some ⟨q,0,none⟩),.int .i64 ((d:Int)+1),.int .u64 0] 151)).fE kG (hn rb hrl)
   have hf4:=(dU.more hf2 (.cells #[.pointer (some ⟨q,0,none⟩),.int .i64 ((d:Int)+1),.int .u64 0] 151)).fE kG (hn fb hfl)
   have hc4:=(dU.more hc2.1 (.cells #[.pointer (some ⟨q,0,none⟩),.int .i64 ((d:Int)+1),.int .u64 0] 151)).fE kG (hn cb hcl)
   have htw:dX (S2 cb fb) w w4:=(ht2.more _).trans kG fun j hj h=>aJ h (hn j (by omega))
   have hne1:rb≠fb:=dU.apart hr4 hf4 (by decide)
   have hne2:cb≠fb:=dU.apart hc4 hf4 (by decide)
   have e4:=hf4.cell 4
   simp at e4
   refine⟨e4,hf4.free 4,_,_,rfl,htw.put (p:=⟨fb,4,none⟩) (fun _=>.inr rfl) _,⟨dU.far (p:=⟨fb,4,none⟩) hc4 hne2 _,hc2.2⟩,?_⟩
   rw[ay (by omega),ay hbig,ay h8]
   refine⟨rfl,rfl,dU.far (p:=⟨fb,4,none⟩) hr4 hne1 _,A,c,dU.put hf4 4 _,?_⟩
   have h5:=hs4.fE ((dX.refl (fun j=>j=fb) w4).put (p:=⟨fb,4,none⟩) (fun _=>rfl) (.slice A (gV ((dZ s (k+(dQ (dZ s k)).2.1)).take (dQ (dZ s k)).1) (d+1) 0).1.len c)) (fun j hj e=>by omega)
   exact h5.imp fun j hj=>by omega
  have sJ:Hid (∀(w2:World) (q:Nat),q<w2.heap.size→fG w2 q (txt ((dZ s (k+(dQ (dZ s k)).2.1)).take (dQ (dZ s k)).1)) 0→
   Calls prog 81 #[.pointer (some ⟨w2.heap.size,0,none⟩)] (w2.alloc (.cells #[.pointer (some ⟨q,0,none⟩),.int .i64 ((d:Int)+1),.int .u64 0] 151)) fun e w4=>∃A c,e=.returned (.tuple #[.slice A (gV ((dZ s (k+(dQ (dZ s k)).2.1)).take (dQ (dZ s k)).1) (d+1) 0).1.len c,.int .i64 ((gV ((dZ s (k+(dQ (dZ s k)).2.1)).take (dQ (dZ s k)).1) (d+1) 0).2:Int)])∧
    eF w4 (w2.heap.size+1≤·) (.slice A (gV ((dZ s (k+(dQ (dZ s k)).2.1)).take (dQ (dZ s k)).1) (d+1) 0).1.len c) (gV ((dZ s (k+(dQ (dZ s k)).2.1)).take (dQ (dZ s k)).1) (d+1) 0).1∧dX (S2 q w2.heap.size) (w2.alloc (.cells #[.pointer (some ⟨q,0,none⟩),.int .i64 ((d:Int)+1),.int .u64 0] 151)) w4):=fun w2 q hq hcq=>by
   have hrd:pI (w2.alloc (.cells #[.pointer (some ⟨q,0,none⟩),.int .i64 ((d:Int)+1),.int .u64 0] 151)) w2.heap.size q (d+1) 0:=dU.made w2 151 #[.pointer (some ⟨q,0,none⟩),.int .i64 ((d:Int)+1),.int .u64 0]
   have h1:=Ii.out w2.heap.size q (txt ((dZ s (k+(dQ (dZ s k)).2.1)).take (dQ (dZ s k)).1)) 0 (d+1) 0 (w2.alloc (.cells #[.pointer (some ⟨q,0,none⟩),.int .i64 ((d:Int)+1),.int .u64 0] 151)) (by rw[gI,Oy];omega) (by omega) (by omega) (by rw[gI,Oy];exact aiA) hrd ⟨hcq.1.more _,hcq.2⟩
   refine h1.mono fun e w4 h=>?_
   unfold AllEnd at h
   rw[hlu,World.size_alloc]at h
   exact h
  have hdi:(d:Int)<8:=by omega
  rw[hv];clear htk hv v1 v2 v3 v4 v5 hr1 hf1 hc1 hg ht1 hbig hz hX Oy hlu;generalize(gV ((dZ s (k+(dQ (dZ s k)).2.1)).take (dQ (dZ s k)).1) (d+1) 0).2=G at *;generalize(gV ((dZ s (k+(dQ (dZ s k)).2.1)).take (dQ (dZ s k)).1) (d+1) 0).1=F at *;generalize txt ((dZ s (k+(dQ (dZ s k)).2.1)).take (dQ (dZ s k)).1)=Z at *;generalize(dQ (dZ s k)).1=V at *;generalize(dQ (dZ s k)).2.1=M at *;go_wp2_with fail;refine jZ.out.mono ?_;rintro e w2 ⟨q,rfl,Ol,hcq,hc2,hg2⟩;have Ag:=hcq.1.lt;have hr2:=(HX.out w2 hg2).1;have e1:=hr2.cell 1;simp at e1;have HCQ:=ah hcq;have HE2:=ah (fun w4 A c=>HE.out w2 w4 q A c hc2 hg2 Ol Ag);clear hc2 hg2 hcq hr2;go_wp2_with fail;refine(sJ.out w2 q Ag HCQ.out).mono ?_;rintro e w4 ⟨A,c,rfl,hs4,kG⟩;obtain⟨z4,z5,hle⟩:=HE2.out w4 A c hs4 kG;have uq:=ah hle;clear hs4 kG hle;go_wp2_with fail;go_ret;exact uq.out
 ·have HE:Hid (FW w rb cb fb d a t y n x s k (.returned (.int .i64 ((dQ (dZ s k)).2.2:Int))) w1):=⟨_,_,rfl,ht1,hc1,by rw[aA hv]⟩
  generalize(dQ (dZ s k)).2.2=G at *;generalize(dQ (dZ s k)).1=V at *;have hgi:((G:Int) != 0)=true:=by rw[aZ];omega
  clear hr1 hf1 hc1 hg ht1 hv;go_wp2_with fail;go_ret;exact HE.out
theorem aeH(m:Nat)(h:In64 m):bits .and .u64 (m:Int) 3=((m%4:Nat):Int):=by
 have:=bits_and_u64_nat m 3 h.out (by omega);rw[show(3:Nat)=2 ^ 2 - 1 from rfl,Nat.and_two_pow_sub_one_eq_mod]at this;simpa using this
def wK(w:World)(rb cb d a:Nat)(s:ByteArray)(k:Nat)(e:Ending)(w':World):Prop :=
 dX (S2 cb rb) w w'∧(((jH (dZ s k) d a).2.2≠0∧e=.returned (.tuple #[.agg #[.int .u64 0,.int .i64 0,.int .u64 0,.string ByteArray.empty,.slice none 0 0],.int .i64 ((jH (dZ s k) d a).2.2:Int)]))∨
  ∃(t n m:Nat) (y:Int) (x:ByteArray) (i:Fs) (A:Option Addr) (c:Nat),jH (dZ s k) d a=(.cons t y n x i .nil,m,0)∧e=.returned (.tuple #[.agg #[.int .u64 (t:Int),.int .i64 y,.int .u64 (n:Int),.string x,.slice A i.len c],.int .i64 0])∧
   fG w' cb s (k+m)∧pI w' rb cb d t∧eF w' (w.heap.size≤·) (.slice A i.len c) i)
def RD(w3:World)(rb cb fb d a T:Nat)(Y:Int)(s:ByteArray)(k:Nat)(e:Ending)(w4:World):Prop :=
 ∃g m:Nat,e=.returned (.int .i64 (g:Int))∧dX (S2 cb fb) w3 w4∧(g≠0∧jH (dZ s k) d a=(.nil,0,g)∨
  g=0∧∃(n:Nat) (x:ByteArray) (i:Fs) (A:Option Addr) (c:Nat),jH (dZ s k) d a=(.cons T Y n x i .nil,m,0)∧fG w4 cb s (k+m)∧pI w4 rb cb d T∧wu w4 fb T Y n x (.slice A i.len c)∧eF w4 (w3.heap.size≤·) (.slice A i.len c) i)
theorem anU{w3 w4:World}{rb cb fb d a T M k:Nat}{s:ByteArray}{e:Ending}
 (hf:jH (dZ s k) d a=if(dQ (dZ s (k+M))).2.2≠0 then(.nil,0,(dQ (dZ s (k+M))).2.2)else(.cons T 0 (dQ (dZ s (k+M))).1 ByteArray.empty .nil .nil,M+(dQ (dZ s (k+M))).2.1,0))
 (h:NumEnd w3 rb cb fb d T T 0 ⟨#[]⟩ (.slice none 0 0) s (k+M) e w4):RD w3 rb cb fb d a T 0 s k e w4:=by
 obtain⟨rfl,h1,h2,h3,h4⟩:=h
 by_cases hv:(dQ (dZ s (k+M))).2.2=0
 ·rw[ay (by rw[hv];simp)]at hf
  refine⟨0,M+(dQ (dZ s (k+M))).2.1,by rw[hv],h4,.inr ⟨rfl,_,_,.nil,none,0,hf,by rw[← Nat.add_assoc];exact h1,h3,h2,eF.nil _ _ _ _⟩⟩
 ·rw[aA hv]at hf
  exact⟨_,0,rfl,h4,.inl ⟨hv,hf⟩⟩
theorem anV{w3 w4:World}{rb cb fb d a T M k:Nat}{s:ByteArray}{e:Ending}
 (hf:jH (dZ s k) d a=if (dQ (dZ s (k+M))).2.2≠0 then (.nil,0,(dQ (dZ s (k+M))).2.2) else if (dZ s k).length - (M+(dQ (dZ s (k+M))).2.1) < (dQ (dZ s (k+M))).1 then (.nil,0,1)
   else(.cons T 1 0 (txt (((dZ s k).drop (M+(dQ (dZ s (k+M))).2.1)).take (dQ (dZ s (k+M))).1)) .nil .nil,M+(dQ (dZ s (k+M))).2.1+(dQ (dZ s (k+M))).1,0))
 (h:I8 w3 rb cb fb d T T 1 0 (.slice none 0 0) s (k+M) e w4):RD w3 rb cb fb d a T 1 s k e w4:=by
 obtain⟨g,k',rfl,h1,h2,h3⟩:=h
 rw[yg,OU]at hf
 by_cases hv:(dQ (dZ s (k+M))).2.2=0
 ·rw[ay (by rw[hv];simp)]at hf h3
  have e1:(s.size - k - (M+(dQ (dZ s (k+M))).2.1)<(dQ (dZ s (k+M))).1)↔(s.size - (k+M+(dQ (dZ s (k+M))).2.1)<(dQ (dZ s (k+M))).1):=by omega
  by_cases hb:s.size - (k+M+(dQ (dZ s (k+M))).2.1)<(dQ (dZ s (k+M))).1
  ·rw[aA (e1.2 hb)]at hf
   rw[aA hb]at h3;subst h3;exact⟨1,0,rfl,h1,.inl ⟨by decide,hf⟩⟩
  rw[ay (fun h=>hb (e1.1 h))]at hf;rw[ay hb]at h3;obtain⟨rfl,rfl,h4,h5⟩:=h3;rw[← Nat.add_assoc k M]at hf;exact⟨0,_,rfl,h1,.inr ⟨rfl,_,_,.nil,none,0,hf,by rw[← Nat.add_assoc,← Nat.add_assoc];exact h2,h4,h5,eF.nil _ _ _ _⟩⟩
 ·rw[aA hv]at hf h3
  subst h3;exact⟨_,0,rfl,h1,.inl ⟨hv,hf⟩⟩
theorem anT{w3 w4:World}{rb cb fb d a T M k:Nat}{s:ByteArray}{e:Ending}
 (hf:jH (dZ s k) d a=if (dQ (dZ s (k+M))).2.2≠0 then (.nil,0,(dQ (dZ s (k+M))).2.2) else if (dZ s k).length - (M+(dQ (dZ s (k+M))).2.1) < (dQ (dZ s (k+M))).1 then (.nil,0,1)
   else if d=8 then(.nil,0,9)else if(gV (((dZ s k).drop (M+(dQ (dZ s (k+M))).2.1)).take (dQ (dZ s (k+M))).1) (d+1) 0).2≠0 then(.nil,0,(gV (((dZ s k).drop (M+(dQ (dZ s (k+M))).2.1)).take (dQ (dZ s (k+M))).1) (d+1) 0).2)
   else(.cons T 2 0 ByteArray.empty (gV (((dZ s k).drop (M+(dQ (dZ s (k+M))).2.1)).take (dQ (dZ s (k+M))).1) (d+1) 0).1 .nil,M+(dQ (dZ s (k+M))).2.1+(dQ (dZ s (k+M))).1,0))
 (h:FW w3 rb cb fb d T T 2 0 ⟨#[]⟩ s (k+M) e w4):RD w3 rb cb fb d a T 2 s k e w4:=by
 obtain⟨g,k',rfl,h1,h2,h3⟩:=h
 rw[yg,OU,← Nat.add_assoc k M]at hf
 by_cases hv:(dQ (dZ s (k+M))).2.2=0
 ·rw[ay (by rw[hv];simp)]at hf h3
  have e1:(s.size - k - (M+(dQ (dZ s (k+M))).2.1)<(dQ (dZ s (k+M))).1)↔(s.size - (k+M+(dQ (dZ s (k+M))).2.1)<(dQ (dZ s (k+M))).1):=by omega
  by_cases hb:s.size - (k+M+(dQ (dZ s (k+M))).2.1)<(dQ (dZ s (k+M))).1
  ·rw[aA (e1.2 hb)]at hf
   rw[aA hb]at h3;subst h3;exact⟨1,0,rfl,h1,.inl ⟨by decide,hf⟩⟩
  rw[ay (fun h=>hb (e1.1 h))]at hf;rw[ay hb]at h3;by_cases h8:d=8
  ·rw[aA h8]at hf h3
   subst h3;exact⟨9,0,rfl,h1,.inl ⟨by decide,hf⟩⟩
  rw[ay h8]at hf h3;obtain⟨h3,rfl,h4,A,c,h5,h6⟩:=h3;by_cases hg:g=0
  ·rw[← h3,ay (by rw[hg];simp)]at hf
   exact⟨g,_,rfl,h1,.inr ⟨hg,_,_,_,A,c,hf,by rw[← Nat.add_assoc,← Nat.add_assoc];exact h2,h4,h5,h6⟩⟩
  rw[← h3,aA hg]at hf;exact⟨g,0,rfl,h1,.inl ⟨hg,hf⟩⟩
 ·rw[aA hv]at hf h3
  subst h3;exact⟨_,0,rfl,h1,.inl ⟨hv,hf⟩⟩
theorem qm(w4:World)(b:Nat)(v0 v1 v2 v3 v4:Value):dX (fun j=>j=b) w4 (((((w4.setCell ⟨b,0,none⟩ v0).setCell ⟨b,1,none⟩ v1).setCell ⟨b,2,none⟩ v2).setCell ⟨b,3,none⟩ v3).setCell ⟨b,4,none⟩ v4) :=
 (((((dX.refl (fun j=>j=b) w4).put (p:=⟨b,0,none⟩) (fun _=>rfl) v0).put (p:=⟨b,1,none⟩) (fun _=>rfl) v1).put (p:=⟨b,2,none⟩) (fun _=>rfl) v2).put (p:=⟨b,3,none⟩) (fun _=>rfl) v3).put (p:=⟨b,4,none⟩) (fun _=>rfl) v4
theorem alF{N:Nat}(hall:Fe N)(rb cb d a:Nat)(s:ByteArray)(k:Nat)(w:World)(hr:pI w rb cb d a)(hc:fG w cb s k)(hN:s.size - k≤N+1)(hs:s.size≤1000000)(hd:d≤8) :
 Calls prog 136 #[.pointer (some ⟨rb,0,none⟩)] w (wK w rb cb d a s k):=by
 have Ii:=ah hall
 have hrl:=hr.lt
 have hcl:=hc.1.lt
 have hbA:=ba (a:=w) b0 (.cells #[.int .u64 0,.int .i64 0,.int .u64 0,.string ByteArray.empty,.slice none 0 0] 47)
 have hrA:pI (w.alloc (.cells #[.int .u64 0,.int .i64 0,.int .u64 0,.string ByteArray.empty,.slice none 0 0] 47)) rb cb d a:=dU.more hr _
 have hcA:fG (w.alloc (.cells #[.int .u64 0,.int .i64 0,.int .u64 0,.string ByteArray.empty,.slice none 0 0] 47)) cb s k:=⟨hc.1.more _,hc.2⟩
 have hxA:=dU.made w 47 #[.int .u64 0,.int .i64 0,.int .u64 0,.string ByteArray.empty,.slice none 0 0]
 have r0:=hr.cell 0
 simp at r0
 have yF:=ah hrA
 have lu:=ah hcA
 have HXA:=ah hxA
 have Qe:=ah hbA
 clear hr hc hall hbA hrA hcA hxA
 go_enter func136,ntmps136
 go_wp2_with fail
 refine(next_any cb s k _ lu.out).mono ?_
 rintro e w1 ⟨rfl,hc1,hg⟩
 have hr1:=yF.out.grown lu.out hg
 have hx1:=HXA.out.step hg (by intro e;injection e with e;omega)
 have ht1:dX (S2 cb rb) w w1:=(dX.below Qe.out).trans (dX.grown (S:=S2 cb rb) hg (fun g e _=>by injection e with e;exact .inl e.symm)) fun _ _ h=>h
 have hs1:=hg.size
 simp only[World.size_alloc]at hs1
 rw[show s.data.toList.drop k=dZ s k from rfl]at hc1⊢
 have c0:=hx1.cell 0
 have c1:=hx1.cell 1
 have c2:=hx1.cell 2
 have c3:=hx1.cell 3
 have c4:=hx1.cell 4
 have f0:=hx1.free 0
 have f1:=hx1.free 1
 have f2:=hx1.free 2
 have f3:=hx1.free 3
 have f4:=hx1.free 4
 simp at c0 c1 c2 c3 c4
 by_cases hv:(dQ (dZ s k)).2.2=0
 ·obtain⟨v1,v2,v3,v4,v5⟩:=nZ hv
  rw[yg]at v2;have hand:=aeH (dQ (dZ s k)).1 v4;obtain⟨T,hT⟩:∃T,T=(dQ (dZ s k)).1 / 4:=⟨_,rfl⟩;obtain⟨Y,hY⟩:∃Y,Y=(dQ (dZ s k)).1%4:=⟨_,rfl⟩;have hq:((dQ (dZ s k)).1:Int) / 4=(T:Int):=by omega
  rw[← hY]at hand;rw[hv];generalize hVV:(dQ (dZ s k)).1=V at *;generalize hMM:(dQ (dZ s k)).2.1=M at *;have HV:=ah hVV;have HM:=ah hMM;have HVE:=ah hv;have lF:=ah (And.intro hT hY);have hY4:Y≤3:=by omega
  have aom:T≤4611686018427387904:=by omega
  clear hVV hMM hv hT hY;have pO:w.heap.size<w1.heap.size:=by omega
  have Oc:w.heap.size<w1.heap.size+1:=by omega
  have aoQ:rb<w1.heap.size:=by omega
  have hrl2:rb<w1.heap.size+1:=by omega
  have Qm:Hid (∀(g:Nat) (w':World),jH (dZ s k) d a=(.nil,0,g)→g≠0→dX (fun j=>j=w.heap.size) w1 w'→wK w rb cb d a s k (.returned (.tuple #[.agg #[.int .u64 0,.int .i64 0,.int .u64 0,.string ByteArray.empty,.slice none 0 0],.int .i64 (g:Int)])) w'):=fun g w' hf hg0 ht=>
   ⟨ht1.trans ht fun g hg' e=>by omega,.inl ⟨by rw[hf];exact hg0,by rw[hf]⟩⟩
  have rD:jH (dZ s k) d a=nJ (fun t=>gV t (d+1) 0) (dZ s k) d a:=rfl;unfold nJ at rD;rw[ay (by rw[HVE.out];simp),HV.out,HM.out,← lF.out.1,← lF.out.2]at rD;have q0:=hr1.cell 0;have q1:=hr1.cell 1;have q2:=hr1.cell 2;have p2:=hr1.free 2;simp at q0 q1 q2;have jT:=ah rD;have HR1:=ah hr1;have gK:=ah hc1;have lW:=ah hx1;have HT1:=ah ht1;clear rD hr1 hc1 hx1 ht1 hg;by_cases t0:T=0∨4294967296<T
  ·have hf:=jT.out
   rw[aA t0]at hf;have HE:Hid (∀w',dX (fun j=>j=w.heap.size) w1 w'→wK w rb cb d a s k (.returned (.tuple #[.agg #[.int .u64 0,.int .i64 0,.int .u64 0,.string ByteArray.empty,.slice none 0 0],.int .i64 18])) w'):=fun w' ht=>Qm.out 18 w' hf (by decide) ht;clear hf;rcases t0 with rfl|t0
   ·go_wp2_with fail
    refine bodyPost_ret (v:=.tuple #[.agg #[.int .u64 0,.int .i64 0,.int .u64 0,.string ByteArray.empty,.slice none 0 0],.int .i64 18]) (by simp[results,results136,go_sem,c0,c1,c2,c3,c4,pO,Oc];try rfl) rfl (HE.out _ (((qm _ _ _ _ _ _ _).more _).more _))
   have ti0:((T:Int)==0)=false:=(by rw[aB];omega);go_wp2_with fail;refine bodyPost_ret (v:=.tuple #[.agg #[.int .u64 0,.int .i64 0,.int .u64 0,.string ByteArray.empty,.slice none 0 0],.int .i64 18]) (by simp[results,results136,go_sem,c0,c1,c2,c3,c4,pO,Oc];try rfl) rfl (HE.out _ (((qm _ _ _ _ _ _ _).more _).more _))
  have ti0:((T:Int)==0)=false:=by rw[aB];omega
  have ti1:decide ((4294967296:Int)<(T:Int))=false:=by simp;omega
  have hf:=jT.out;rw[ay t0]at hf;by_cases y3:Y=3
  ·subst y3
   rw[aA rfl]at hf;have HE:Hid (∀w',dX (fun j=>j=w.heap.size) w1 w'→wK w rb cb d a s k (.returned (.tuple #[.agg #[.int .u64 0,.int .i64 0,.int .u64 0,.string ByteArray.empty,.slice none 0 0],.int .i64 8])) w'):=fun w' ht=>Qm.out 8 w' hf (by decide) ht;clear hf;go_wp2_with fail;refine bodyPost_ret (v:=.tuple #[.agg #[.int .u64 0,.int .i64 0,.int .u64 0,.string ByteArray.empty,.slice none 0 0],.int .i64 8]) (by simp[results,results136,go_sem,c0,c1,c2,c3,c4,pO,Oc];try rfl) rfl (HE.out _ (((qm _ _ _ _ _ _ _).more _).more _))
  rw[ay y3]at hf;have hy3:(Y:Int)<3:=by omega
  by_cases hta:T≤a
  ·rw[aA hta]at hf
   have HE:Hid (∀w',dX (fun j=>j=w.heap.size) w1 w'→wK w rb cb d a s k (.returned (.tuple #[.agg #[.int .u64 0,.int .i64 0,.int .u64 0,.string ByteArray.empty,.slice none 0 0],.int .i64 7])) w'):=fun w' ht=>Qm.out 7 w' hf (by decide) ht;clear hf;go_wp2_with fail;go_quiet(fail);go_wp2_with fail;refine bodyPost_ret (v:=.tuple #[.agg #[.int .u64 0,.int .i64 0,.int .u64 0,.string ByteArray.empty,.slice none 0 0],.int .i64 7]) (by simp[results,results136,go_sem,c0,c1,c2,c3,c4,pO,Oc];try rfl) rfl (HE.out _ (((((dX.refl _ w1).more _).more _).xK nq).trans (qm _ _ _ _ _ _ _) (fun _ _ h=>h)))
  rw[ay hta]at hf;rw[OU]at hf;have HF:=ah hf;have aix:decide ((T:Int)≤(a:Int))=false:=by simp;omega
  have HK:Hid (∀nq:Nat,pI ((((w1.alloc (.cells #[.func (.func 175) #[] #[],.func (.func 176) #[] #[],.func (.func 177) #[] #[]] 266)).alloc (.cells #[.int .u64 (T:Int),.int .i64 (Y:Int),.int .u64 0,.string ⟨#[]⟩,.slice none 0 0] 47)).drewN nq).setCell ⟨rb,2,none⟩ (.int .u64 (T:Int))) rb cb d T∧
   fG ((((w1.alloc (.cells #[.func (.func 175) #[] #[],.func (.func 176) #[] #[],.func (.func 177) #[] #[]] 266)).alloc (.cells #[.int .u64 (T:Int),.int .i64 (Y:Int),.int .u64 0,.string ⟨#[]⟩,.slice none 0 0] 47)).drewN nq).setCell ⟨rb,2,none⟩ (.int .u64 (T:Int))) cb s (k+M)∧
   wu ((((w1.alloc (.cells #[.func (.func 175) #[] #[],.func (.func 176) #[] #[],.func (.func 177) #[] #[]] 266)).alloc (.cells #[.int .u64 (T:Int),.int .i64 (Y:Int),.int .u64 0,.string ⟨#[]⟩,.slice none 0 0] 47)).drewN nq).setCell ⟨rb,2,none⟩ (.int .u64 (T:Int))) (w1.heap.size+1) T (Y:Int) 0 ⟨#[]⟩ (.slice none 0 0)∧
   dU ((((w1.alloc (.cells #[.func (.func 175) #[] #[],.func (.func 176) #[] #[],.func (.func 177) #[] #[]] 266)).alloc (.cells #[.int .u64 (T:Int),.int .i64 (Y:Int),.int .u64 0,.string ⟨#[]⟩,.slice none 0 0] 47)).drewN nq).setCell ⟨rb,2,none⟩ (.int .u64 (T:Int))) w.heap.size 47 #[.int .u64 0,.int .i64 0,.int .u64 0,.string ByteArray.empty,.slice none 0 0]∧
   dX (S2 cb rb) w ((((w1.alloc (.cells #[.func (.func 175) #[] #[],.func (.func 176) #[] #[],.func (.func 177) #[] #[]] 266)).alloc (.cells #[.int .u64 (T:Int),.int .i64 (Y:Int),.int .u64 0,.string ⟨#[]⟩,.slice none 0 0] 47)).drewN nq).setCell ⟨rb,2,none⟩ (.int .u64 (T:Int)))):=fun nq=>by
   have e1:=((dU.more (dU.more HR1.out (.cells #[.func (.func 175) #[] #[],.func (.func 176) #[] #[],.func (.func 177) #[] #[]] 266)) (.cells #[.int .u64 (T:Int),.int .i64 (Y:Int),.int .u64 0,.string ⟨#[]⟩,.slice none 0 0] 47)).xK nq).put 2 (.int .u64 (T:Int))
   have hne:cb≠rb:=dU.apart gK.out.1 HR1.out (by decide)
   have e2:=dU.far (p:=⟨rb,2,none⟩) (((gK.out.1.more (.cells #[.func (.func 175) #[] #[],.func (.func 176) #[] #[],.func (.func 177) #[] #[]] 266)).more (.cells #[.int .u64 (T:Int),.int .i64 (Y:Int),.int .u64 0,.string ⟨#[]⟩,.slice none 0 0] 47)).xK nq) hne (.int .u64 (T:Int))
   have e3:=dU.made (w1.alloc (.cells #[.func (.func 175) #[] #[],.func (.func 176) #[] #[],.func (.func 177) #[] #[]] 266)) 47 #[.int .u64 (T:Int),.int .i64 (Y:Int),.int .u64 0,.string ⟨#[]⟩,.slice none 0 0]
   rw[World.size_alloc]at e3
   have e4:=dU.far (p:=⟨rb,2,none⟩) (e3.xK nq) (show w1.heap.size+1≠rb by omega) (.int .u64 (T:Int))
   have e5:=dU.far (p:=⟨rb,2,none⟩) (((lW.out.more (.cells #[.func (.func 175) #[] #[],.func (.func 176) #[] #[],.func (.func 177) #[] #[]] 266)).more (.cells #[.int .u64 (T:Int),.int .i64 (Y:Int),.int .u64 0,.string ⟨#[]⟩,.slice none 0 0] 47)).xK nq) (show w.heap.size≠rb by omega) (.int .u64 (T:Int))
   exact⟨e1,⟨e2,gK.out.2⟩,e4,e5,(((HT1.out.more _).more _).xK nq).put (p:=⟨rb,2,none⟩) (fun _=>.inr rfl) _⟩
  have hs1':w.heap.size≠w1.heap.size+1:=by omega
  clear hf;have ahO:Y=0∨Y=1∨Y=2:=by omega
  rcases ahO with rfl|rfl|rfl
  ·have hf2:=HF.out
   rw[aA rfl]at hf2;have HF2:=ah hf2;clear hf2;go_wp2_with fail;go_quiet(fail);go_wp2_with fail;have nT:=ah (HK.out nq);refine(ajR rb cb (w1.heap.size+1) d T T 0 0 ⟨#[]⟩ (.slice none 0 0) s (k+M) _ nT.out.1 nT.out.2.1 nT.out.2.2.1).mono ?_;refine fun e w4 hw4=>?_;have hwe:=anU HF2.out hw4;clear hw4;revert hwe;revert e w4;rintro e w4 ⟨g,m,rfl,kG,hor⟩;have hn4:¬S2 cb (w1.heap.size+1) w.heap.size:=fun h=>(by rcases h with h|h<;>omega);have hx4:=nT.out.2.2.2.1.fE kG hn4;have uO:dX (S2 cb rb) w w4:=nT.out.2.2.2.2.trans kG fun g' hg' h=>(by rcases h with h|h;exact .inl h;omega);have c0:=hx4.cell 0;have c1:=hx4.cell 1;have c2:=hx4.cell 2;have c3:=hx4.cell 3;have c4:=hx4.cell 4;have f0:=hx4.free 0;have f1:=hx4.free 1;have f2:=hx4.free 2;have f3:=hx4.free 3;have f4:=hx4.free 4;simp at c0 c1 c2 c3 c4
   rcases hor with⟨hg0,hfe⟩|⟨rfl,n,x,i,A,c,hfe,hc4,hr4,qh,hs4⟩
   ·have hgi:((g:Int) != 0)=true:=by rw[aZ];omega
    have HE:Hid (∀w',dX (fun j=>j=w.heap.size) w4 w'→wK w rb cb d a s k (.returned (.tuple #[.agg #[.int .u64 0,.int .i64 0,.int .u64 0,.string ByteArray.empty,.slice none 0 0],.int .i64 (g:Int)])) w'):=fun w' ht=>⟨uO.trans ht fun g hg' e=>by omega,.inl ⟨by rw[hfe];exact hg0,by rw[hfe]⟩⟩;clear hfe hg0 hx4 kG uO hn4;go_wp2_with fail;refine bodyPost_ret (v:=.tuple #[.agg #[.int .u64 0,.int .i64 0,.int .u64 0,.string ByteArray.empty,.slice none 0 0],.int .i64 (g:Int)]) (by simp[results,results136,go_sem,c0,c1,c2,c3,c4];try rfl) rfl (HE.out _ (qm _ _ _ _ _ _ _))
   have z0:=qh.cell 0;have z1:=qh.cell 1;have z2:=qh.cell 2;have z3:=qh.cell 3;have z4:=qh.cell 4;simp at z0 z1 z2 z3 z4;have HE:Hid (∀w',dX (fun j=>j=w.heap.size) w4 w'→wK w rb cb d a s k (.returned (.tuple #[.agg #[.int .u64 (T:Int),.int .i64 0,.int .u64 (n:Int),.string x,.slice A i.len c],.int .i64 0])) w'):=fun w' ht=>by
    refine⟨uO.trans ht fun g hg' e=>by omega,.inr ⟨T,n,m,0,x,i,A,c,hfe,rfl,⟨hc4.1.fE ht (by omega),hc4.2⟩,dU.fE hr4 ht (by omega),?_⟩⟩;have hz3:=nT.out.2.2.2.1.lt;exact(hs4.fE ht fun j hj e=>by omega).imp fun j hj=>by omega
   clear hfe hx4 kG uO hn4 hc4 hr4 qh hs4;go_wp2_with fail;refine bodyPost_ret (v:=.tuple #[.agg #[.int .u64 (T:Int),.int .i64 0,.int .u64 (n:Int),.string x,.slice A i.len c],.int .i64 0]) (by simp[results,results136,go_sem,c0,c1,c2,c3,c4];try rfl) rfl (HE.out _ (qm _ _ _ _ _ _ _))
  ·have hf2:=HF.out
   rw[ay (show¬((1:Nat)=0)by decide),aA (show(1:Nat)=1 from rfl)]at hf2;have HF2:=ah hf2;clear hf2;go_wp2_with fail;go_quiet(fail);go_wp2_with fail;have nT:=ah (HK.out nq);refine(anc rb cb (w1.heap.size+1) d T T 0 1 ⟨#[]⟩ (.slice none 0 0) s (k+M) _ nT.out.1 nT.out.2.1 nT.out.2.2.1).mono ?_;refine fun e w4 hw4=>?_;have hwe:=anV HF2.out hw4;clear hw4;revert hwe;revert e w4;rintro e w4 ⟨g,m,rfl,kG,hor⟩;have hn4:¬S2 cb (w1.heap.size+1) w.heap.size:=fun h=>(by rcases h with h|h<;>omega);have hx4:=nT.out.2.2.2.1.fE kG hn4;have uO:dX (S2 cb rb) w w4:=nT.out.2.2.2.2.trans kG fun g' hg' h=>(by rcases h with h|h;exact .inl h;omega);have c0:=hx4.cell 0;have c1:=hx4.cell 1;have c2:=hx4.cell 2;have c3:=hx4.cell 3;have c4:=hx4.cell 4;have f0:=hx4.free 0;have f1:=hx4.free 1;have f2:=hx4.free 2;have f3:=hx4.free 3;have f4:=hx4.free 4
   simp at c0 c1 c2 c3 c4;rcases hor with⟨hg0,hfe⟩|⟨rfl,n,x,i,A,c,hfe,hc4,hr4,qh,hs4⟩
   ·have hgi:((g:Int) != 0)=true:=by rw[aZ];omega
    have HE:Hid (∀w',dX (fun j=>j=w.heap.size) w4 w'→wK w rb cb d a s k (.returned (.tuple #[.agg #[.int .u64 0,.int .i64 0,.int .u64 0,.string ByteArray.empty,.slice none 0 0],.int .i64 (g:Int)])) w'):=fun w' ht=>⟨uO.trans ht fun g hg' e=>by omega,.inl ⟨by rw[hfe];exact hg0,by rw[hfe]⟩⟩;clear hfe hg0 hx4 kG uO hn4;go_wp2_with fail;refine bodyPost_ret (v:=.tuple #[.agg #[.int .u64 0,.int .i64 0,.int .u64 0,.string ByteArray.empty,.slice none 0 0],.int .i64 (g:Int)]) (by simp[results,results136,go_sem,c0,c1,c2,c3,c4];try rfl) rfl (HE.out _ (qm _ _ _ _ _ _ _))
   have z0:=qh.cell 0;have z1:=qh.cell 1;have z2:=qh.cell 2;have z3:=qh.cell 3;have z4:=qh.cell 4;simp at z0 z1 z2 z3 z4;have HE:Hid (∀w',dX (fun j=>j=w.heap.size) w4 w'→wK w rb cb d a s k (.returned (.tuple #[.agg #[.int .u64 (T:Int),.int .i64 1,.int .u64 (n:Int),.string x,.slice A i.len c],.int .i64 0])) w'):=fun w' ht=>by
    refine⟨uO.trans ht fun g hg' e=>by omega,.inr ⟨T,n,m,1,x,i,A,c,hfe,rfl,⟨hc4.1.fE ht (by omega),hc4.2⟩,dU.fE hr4 ht (by omega),?_⟩⟩;have hz3:=nT.out.2.2.2.1.lt;exact(hs4.fE ht fun j hj e=>by omega).imp fun j hj=>by omega
   clear hfe hx4 kG uO hn4 hc4 hr4 qh hs4;go_wp2_with fail;refine bodyPost_ret (v:=.tuple #[.agg #[.int .u64 (T:Int),.int .i64 1,.int .u64 (n:Int),.string x,.slice A i.len c],.int .i64 0]) (by simp[results,results136,go_sem,c0,c1,c2,c3,c4];try rfl) rfl (HE.out _ (qm _ _ _ _ _ _ _))
  have hf2:=HF.out;rw[ay (show¬((2:Nat)=0)by decide),ay (show¬((2:Nat)=1)by decide)]at hf2;have HF2:=ah hf2;clear hf2;go_wp2_with fail;go_quiet(fail);go_wp2_with fail;have nT:=ah (HK.out nq);refine(ai6 Ii.out rb cb (w1.heap.size+1) d T T 0 2 ⟨#[]⟩ (.slice none 0 0) s (k+M) _ nT.out.1 nT.out.2.1 nT.out.2.2.1 (by omega) hs hd).mono ?_;refine fun e w4 hw4=>?_;have hwe:=anT HF2.out hw4;clear hw4;revert hwe;revert e w4;rintro e w4 ⟨g,m,rfl,kG,hor⟩;have hn4:¬S2 cb (w1.heap.size+1) w.heap.size:=fun h=>by rcases h with h|h<;>omega
  have hx4:=nT.out.2.2.2.1.fE kG hn4;have uO:dX (S2 cb rb) w w4:=nT.out.2.2.2.2.trans kG fun g' hg' h=>by rcases h with h|h;exact .inl h;omega
  have c0:=hx4.cell 0;have c1:=hx4.cell 1;have c2:=hx4.cell 2;have c3:=hx4.cell 3;have c4:=hx4.cell 4;have f0:=hx4.free 0;have f1:=hx4.free 1;have f2:=hx4.free 2;have f3:=hx4.free 3;have f4:=hx4.free 4;simp at c0 c1 c2 c3 c4;rcases hor with⟨hg0,hfe⟩|⟨rfl,n,x,i,A,c,hfe,hc4,hr4,qh,hs4⟩
  ·have hgi:((g:Int) != 0)=true:=by rw[aZ];omega
   have HE:Hid (∀w',dX (fun j=>j=w.heap.size) w4 w'→wK w rb cb d a s k (.returned (.tuple #[.agg #[.int .u64 0,.int .i64 0,.int .u64 0,.string ByteArray.empty,.slice none 0 0],.int .i64 (g:Int)])) w'):=fun w' ht=>⟨uO.trans ht fun g hg' e=>by omega,.inl ⟨by rw[hfe];exact hg0,by rw[hfe]⟩⟩;clear hfe hg0 hx4 kG uO hn4;go_wp2_with fail;refine bodyPost_ret (v:=.tuple #[.agg #[.int .u64 0,.int .i64 0,.int .u64 0,.string ByteArray.empty,.slice none 0 0],.int .i64 (g:Int)]) (by simp[results,results136,go_sem,c0,c1,c2,c3,c4];try rfl) rfl (HE.out _ (qm _ _ _ _ _ _ _))
  have z0:=qh.cell 0;have z1:=qh.cell 1;have z2:=qh.cell 2;have z3:=qh.cell 3;have z4:=qh.cell 4;simp at z0 z1 z2 z3 z4;have HE:Hid (∀w',dX (fun j=>j=w.heap.size) w4 w'→wK w rb cb d a s k (.returned (.tuple #[.agg #[.int .u64 (T:Int),.int .i64 2,.int .u64 (n:Int),.string x,.slice A i.len c],.int .i64 0])) w'):=fun w' ht=>by
   refine⟨uO.trans ht fun g hg' e=>by omega,.inr ⟨T,n,m,2,x,i,A,c,hfe,rfl,⟨hc4.1.fE ht (by omega),hc4.2⟩,dU.fE hr4 ht (by omega),?_⟩⟩;have hz3:=nT.out.2.2.2.1.lt;exact(hs4.fE ht fun j hj e=>by omega).imp fun j hj=>by omega
  clear hfe hx4 kG uO hn4 hc4 hr4 qh hs4;go_wp2_with fail;refine bodyPost_ret (v:=.tuple #[.agg #[.int .u64 (T:Int),.int .i64 2,.int .u64 (n:Int),.string x,.slice A i.len c],.int .i64 0]) (by simp[results,results136,go_sem,c0,c1,c2,c3,c4];try rfl) rfl (HE.out _ (qm _ _ _ _ _ _ _))
 ·have hfe:jH (dZ s k) d a=(.nil,0,(dQ (dZ s k)).2.2):=by unfold jH nJ;rw[aA hv]
  have HE:Hid (∀w',dX (fun j=>j=w.heap.size) w1 w'→wK w rb cb d a s k (.returned (.tuple #[.agg #[.int .u64 0,.int .i64 0,.int .u64 0,.string ByteArray.empty,.slice none 0 0],.int .i64 ((dQ (dZ s k)).2.2:Int)])) w'):=fun w' ht=>
   ⟨ht1.trans ht fun g hg' e=>by omega,.inl ⟨by rw[hfe];exact hv,by rw[hfe]⟩⟩
  generalize(dQ (dZ s k)).2.2=G at *;generalize(dQ (dZ s k)).1=V at *;have hgi:((G:Int) != 0)=true:=by rw[aZ];omega
  clear hr1 hx1 hc1 hg ht1 hv hfe;go_wp2_with fail;refine bodyPost_ret (v:=.tuple #[.agg #[.int .u64 0,.int .i64 0,.int .u64 0,.string ByteArray.empty,.slice none 0 0],.int .i64 (G:Int)]) (by simp[results,results136,go_sem,c0,c1,c2,c3,c4];try rfl) rfl (HE.out _ (qm _ _ _ _ _ _ _))
end Go.Proofs.YtgidfnhfgiehjaaGreatDoor
section
namespace Go.Proofs.YtgidfnhfgiehjaaGreatDoor
open Go.RowKit Go.ChangeShapes Go.WideShapes Go.Deep Go.PM
section
variable {H:Type} {enc:TypeId×Value→H} {P:Program} {w:World} {spare:Nat→Bool} {held:Bool}
theorem weightsAll_mem{e:TypeId}{n:Nat}:∀{ds:List (DataW H)} {d:DataW H},d∈ds→n∈DataW.weights P e d→n∈DataW.weightsAll P e ds
 |[],_,h,_=>by cases h
 |x::r,d,h,hn=>by
   rw[DataW.weightsAll,bZ];rcases bC.1 h with rfl|h
   ·exact .inl hn
   exact .inr (weightsAll_mem h hn)
theorem akg{t e:TypeId}{f0 f1:Field}{a:Option Addr}{len cap:Nat}{d:DataW H}{ps:List MemPlace}(ht:P.underlying t=some (.slice e))(he:P.underlying e=some (.struct #[f0,f1]))(ce:P.cellsOf e=2)
 (o:f0.offset=0∧f1.offset=1) (c:P.cellsOf f0.type=1∧P.cellsOf f1.type=1) (t0:P.underlying f0.type=some .string) (t1:P.underlying f1.type=some .string)
 (h:DataW.Trod enc P w 0 spare held t (.slice a len cap) d ps) (hw:∀n∈DataW.weights P t d,n≤140737488351232) :
 ∃l:List fD,l.length=len∧Rd w a (ents l)∧lg l∧len≤cap∧cap≤maxLen:=by
 obtain⟨fuel,hf⟩:=h
 obtain⟨o0,o1⟩:=o
 obtain⟨c0,c1⟩:=c
 rcases open_slice ht hf with⟨hcs,_⟩|⟨x,ln,c',m,n,D,Pl,hcs,_,hl,hm,hmm,hx,hall⟩
 ·simp[Value.cells]at hcs
  obtain⟨rfl,rfl,rfl⟩:=hcs;exact⟨[],rfl,.inl rfl,(fun e he=>by cases he),by omega,by unfold maxLen;omega⟩
 ·simp[Value.cells]at hcs
  obtain⟨rfl,rfl,rfl⟩:=hcs;injection hx with hd _;have hlm:len≤m:=by rw[hmm];split<;>omega
  by_cases hz:len=0
  ·subst hz
   exact⟨[],rfl,.inl rfl,(fun e he=>by cases he),hl,hm⟩
  obtain⟨b,off,spot⟩:=x;have hs:spot=none:=by
   obtain⟨cs,h1,_⟩:=hall 0 (by omega);obtain⟨_,hlen,hcell⟩:=World.cells?_some h1;have h0:=hcell 0 (by rw[ce];decide);rw[aP (by omega)]at h0;simpa[Addr.add]using World.cell?_spot h0
  subst hs;have ha:∀q j,(⟨b,q,none⟩:Addr).add j=⟨b,q+j,none⟩:=fun q j=>by unfold Addr.add;split<;>simp_all
  have each:∀i,i<len→∃y:fD,w.cell? ⟨b,off+i*2,none⟩=some (.string (txt y.1))∧w.cell? ⟨b,off+i*2+1,none⟩=some (.string (txt y.2))∧y.1.length≤140737488351232∧y.2.length≤140737488351232:=by
   intro i hi;obtain⟨cs,h1,h2⟩:=hall i (by omega);obtain⟨_,hlen,hcell⟩:=World.cells?_some h1;rw[ce]at hlen hcell;obtain⟨xs,k,_,hxe,_,hxl,hf2⟩:=DataW.trod_struct he h2
   match xs,hxl,cs,hlen with
   |[y0,y1],_,[v0,v1],_=>
     have g0:=hf2 0 f0 rfl;have g1:=hf2 1 f1 rfl;simp[o0,o1,c0,c1]at g0 g1;obtain⟨s0,e0,q0,_⟩:=DataW.trod_string t0 g0;obtain⟨s1,e1,q1,_⟩:=DataW.trod_string t1 g1;simp only[List.cons.injEq,and_true]at e0 e1;subst e0 e1 q0 q1;have k0:=hcell 0 (by decide);have k1:=hcell 1 (by decide);rw[ha,ha]at k0 k1;injection hxe with hxd _;have hin:∀q∈DataW.weights P e (D i),q≤140737488351232:=fun q hq=>by
      refine hw q ?_;rw[hd];unfold DataW.weights;rw[ht];simp only[bC,bZ];exact .inr (.inl (weightsAll_mem (dL.2 ⟨i,List.mem_range.2 hi,rfl⟩) hq))
     rw[hxd]at hin;have hwe:DataW.weights (H:=H) P e (.agg [.lit (.string s0.data.toList),.lit (.string s1.data.toList)])=[s0.data.toList.length,s1.data.toList.length]:=by
      simp[DataW.weights,DataW.weightsEach,he]
     simp only[dK,List.map_nil]at hin;rw[hwe]at hin;exact⟨(s0.data.toList,s1.data.toList),by rw[Ci];simpa using k0,by rw[Ci];simpa using k1,hin _ (by simp),hin _ (by simp)⟩
  obtain⟨q,hq⟩:=choose_lt each;have hb:b<w.heap.size:=World.block_lt_of_cell? w _ (hq 0 (by omega)).1;have hlq:((List.range len).map q).length=len:=by simp
  refine⟨(List.range len).map q,hlq,.inr ⟨b,off,rfl,hb,fun j u hj=>?_⟩,fun y hy=>?_,hl,hm⟩
  ·have hjl:j<len*2:=by
    have:=(List.getElem?_eq_some_iff.1 hj).1;rw[yS,hlq]at this;exact this
   obtain⟨p1,p2⟩:=SE ((List.range len).map q) (j / 2) (by rw[hlq];omega);simp only[List.getElem_map,List.getElem_range]at p1 p2;obtain⟨r1,r2,_⟩:=hq (j / 2) (by omega);by_cases hj2:j%2=0
   ·have e1:j=j / 2*2:=by omega
    rw[e1,p1]at hj;injection hj with hj;rw[e1,r1,hj]
   have e1:j=j / 2*2+1:=(by omega);rw[e1,p2]at hj;injection hj with hj;rw[e1,← Nat.add_assoc,r2,hj]
  obtain⟨i,hi,rfl⟩:=dL.1 hy;exact(hq i (List.mem_range.1 hi)).2.2
end
end Go.Proofs.YtgidfnhfgiehjaaGreatDoor
end
section
namespace Go.PM
open Go.RowKit
theorem acC{w:World}{base:Nat}{e:TypeId}{v:Value}{xs:List Value}{f:Fs}{J:Nat→Prop}(h:w.ownsRow base e 5 v f.len xs)(hc:Cls w J xs f):∃A c,v=.slice A f.len c∧eF w (fun _=>True) (.slice A f.len c) f:=by
 rcases h.2 with⟨rfl,h0⟩|⟨g,cap,cur,rfl,hb,hg,hn,_⟩
 ·have:=Fs.jr h0
  subst this;exact⟨none,0,rfl,eF.nil _ _ _ _⟩
 refine⟨some ⟨g,0,none⟩,cap,rfl,some ⟨g,0,none⟩,cap,rfl,hn,.inr ⟨g,0,rfl,trivial,(bY.1 hg).1,(hc.imp fun _ _=>trivial).at_ fun j u hj=>?_⟩⟩;have:=h.cells (g:=g) rfl j u hj
 rwa [rV,← aX j]at this
end Go.PM
namespace Go.Proofs.YtgidfnhfgiehjaaGreatDoor
open Go.RowKit Go.PM
set_option maxRecDepth 100000
set_option maxHeartbeats 4000000
attribute [local go_sem ↓] Go.wp_at_zero Go.wp_at_succ
end Go.Proofs.YtgidfnhfgiehjaaGreatDoor
end
section
namespace Go.PM
open Go.RowKit
structure TW (S:Nat→Prop) (w w':World):Prop where
 fE:dX S w w'
 cell:∀p,w'.cell? p=w.cell? p∨∃n n':Nat,w.cell? p=some (.int .u64 (n:Int))∧w'.cell? p=some (.int .u64 (n':Int))∧In64 n'
 size:w'.heap.size=w.heap.size
 fb:∀T k,FB w T k→FB w' T k
section
variable {S S':Nat→Prop} {w a w':World}
theorem TW.refl(S:Nat→Prop)(w:World):TW S w w:=⟨dX.refl S w,fun _=>.inl rfl,rfl,fun _ _ h=>h⟩
theorem TW.trans(h:TW S a w)(k:TW S w w'):TW S a w':=by
 refine⟨h.fE.trans k.fE fun _ _ h=>h,fun p=>?_,k.size.trans h.size,fun T j hj=>k.fb T j (h.fb T j hj)⟩;rcases h.cell p with e|⟨n,n',e1,e2,e3⟩
 ·rcases k.cell p with f|⟨m,m',f1,f2,f3⟩
  ·exact .inl (f.trans e)
  exact .inr ⟨m,m',e▸f1,f2,f3⟩
 rcases k.cell p with f|⟨m,m',f1,f2,f3⟩
 ·exact .inr ⟨n,n',e1,f.trans e2,e3⟩
 exact .inr ⟨n,m',e1,f2,f3⟩
theorem TW.imp(h:TW S a w)(hS:∀k,S k→S' k):TW S' a w:=⟨h.fE.imp fun g _ hg=>hS g hg,h.cell,h.size,h.fb⟩
theorem TW.put{b i n n':Nat}(hc:w.cell? ⟨b,i,none⟩=some (.int .u64 (n:Int)))(hn:In64 n')(hS:S b):TW S w (w.setCell ⟨b,i,none⟩ (.int .u64 (n':Int))):=by
 refine⟨(dX.refl S w).put (p:=⟨b,i,none⟩) (fun _=>hS) _,fun p=>?_,by simp[World.setCell],fun T k hk=>hk.put _⟩;by_cases e:(⟨b,i,none⟩:Addr)=p
 ·subst e
  exact .inr ⟨n,n',hc,World.cell?_setCell_same _ _ _ hc,hn⟩
 exact .inl (World.cell?_setCell_other _ _ _ _ e)
def like:Fs→Fs→Prop
 |.nil,.nil=>True
 |.cons _ y _ s i r,.cons _ y' _ s' i' r'=>y=y'∧s=s'∧like i i'∧like r r'
 |_,_=>False
theorem like.len:∀{f g:Fs},like f g→f.len=g.len
 |.nil,.nil,_=>rfl
 |.cons ..,.cons ..,h=>by rw[Fs.len,Fs.len,like.len h.2.2.2]
 |.nil,.cons ..,h=>h.elim
 |.cons ..,.nil,h=>h.elim
theorem like.count:∀{f g:Fs},like f g→f.count=g.count
 |.nil,.nil,_=>rfl
 |.cons ..,.cons ..,h=>by rw[Fs.count,Fs.count,like.count h.2.2.1,like.count h.2.2.2]
 |.nil,.cons ..,h=>h.elim
 |.cons ..,.nil,h=>h.elim
theorem gX.and{I J:Nat→Prop}:∀{f:Fs} {b o:Nat},gX w I f b o→gX w J f b o→gX w (fun k=>I k∧J k) f b o
 |.nil,_,_,_,_=>trivial
 |.cons t y n s i r,b,o,h,k=>by
   obtain⟨h1,h2,h3,h4,⟨A,c,h5,hc,h6⟩,h7⟩:=h;obtain⟨_,_,_,_,⟨A',c',k5,_,k6⟩,k7⟩:=k;refine⟨h1,h2,h3,h4,⟨A,c,h5,hc,?_⟩,gX.and h7 k7⟩;rcases h6 with h6|⟨b',o',hA,hI,hb,h8⟩
   ·exact .inl h6
   rcases k6 with k6|⟨b2,o2,hA2,hJ,_,k8⟩
   ·exact .inl k6
   rw[h5]at k5;injection k5 with k5;injection k5 with e1 _ _;rw[← e1,hA]at hA2;injection hA2 with hA2;injection hA2 with e2 e3;subst e2 e3;exact .inr ⟨b',o',hA,⟨hI,hJ⟩,hb,gX.and h8 k8⟩
end
end Go.PM
namespace Go.Proofs.YtgidfnhfgiehjaaGreatDoor
open Go.RowKit Go.PM
set_option maxRecDepth 100000
set_option maxHeartbeats 4000000
attribute [local go_sem ↓] Go.wp_at_zero Go.wp_at_succ
end Go.Proofs.YtgidfnhfgiehjaaGreatDoor
end
namespace Go.Proofs.YtgidfnhfgiehjaaGreatDoor
open Go.PM Go.RowKit Go.Proofs.Tryz
set_option maxRecDepth 100000
set_option maxHeartbeats 4000000
attribute [local go_sem ↓] Go.wp_at_zero Go.wp_at_succ

