/-
  Parts of the proof. Conditions: as each names.
-/
import Derived.Maps.OwnSet
import Derived.Lib.Hide
import Derived.WalkKit
import Derived.Deep.RegionHeld3
namespace Go.PM
theorem ah{p:Prop}(h:p):Go.RowKit.Hid p:=h
abbrev aj(w:World)(v:Value):Ending→World→Prop:=fun e w'=>e=.returned v∧Go.RowKit.Below w.heap.size w w'
theorem au:type_of%@Nat.le_refl:=@Nat.le_refl
theorem ay:type_of%@if_neg:=@if_neg
theorem aA:type_of%@if_pos:=@if_pos
theorem aB:type_of%@beq_eq_false_iff_ne:=@beq_eq_false_iff_ne
theorem aC:type_of%@List.length_append:=@List.length_append
theorem aF:type_of%@List.setIfInBounds_toArray:=@List.setIfInBounds_toArray
theorem aG:type_of%@List.set_cons_zero:=@List.set_cons_zero
theorem aH:type_of%@List.set_cons_succ:=@List.set_cons_succ
theorem aI:type_of%@Nat.le_trans:=@Nat.le_trans
theorem aJ{a b:Prop}(h:a)(k:¬a):b:=absurd h k
theorem aK:type_of%@List.exists_cons_of_length_eq_add_one:=@List.exists_cons_of_length_eq_add_one
theorem aN:type_of%@List.length_drop:=@List.length_drop
theorem aO:type_of%@decide_eq_false:=@decide_eq_false
theorem aP:type_of%@List.getElem?_eq_getElem:=@List.getElem?_eq_getElem
theorem aQ:type_of%@Nat.lt_of_lt_of_le:=@Nat.lt_of_lt_of_le
theorem aS:type_of%@List.getElem_mem:=@List.getElem_mem
theorem aT:type_of%@List.take_append_getElem:=@List.take_append_getElem
theorem aU:type_of%@List.take_of_length_le:=@List.take_of_length_le
theorem aV:type_of%@List.eq_nil_of_length_eq_zero:=@List.eq_nil_of_length_eq_zero
theorem aW:type_of%@Nat.zero_le:=@Nat.zero_le
theorem aX:type_of%@Nat.zero_add:=@Nat.zero_add
theorem aY:type_of%@List.length_map:=@List.length_map
theorem aZ:type_of%@bne_iff_ne:=@bne_iff_ne
theorem bC:type_of%@List.mem_cons:=@List.mem_cons
theorem bD:type_of%@List.length_take:=@List.length_take
theorem bF:type_of%@beq_iff_eq:=@beq_iff_eq
theorem bG:type_of%@decide_eq_true_eq:=@decide_eq_true_eq
theorem bH:type_of%@decide_eq_true:=@decide_eq_true
theorem bI:type_of%@List.drop_eq_getElem_cons:=@List.drop_eq_getElem_cons
theorem bJ:type_of%@Option.some.injEq:=@Option.some.injEq
theorem bK:type_of%@List.length_cons:=@List.length_cons
theorem bM:type_of%@Int.eq_ofNat_of_zero_le:=@Int.eq_ofNat_of_zero_le
theorem bP:type_of%@List.append_assoc:=@List.append_assoc
theorem bQ:type_of%@List.append_nil:=@List.append_nil
theorem bT:type_of%@Bool.and_eq_true:=@Bool.and_eq_true
theorem bU:type_of%@Array.getElem?_toList:=@Array.getElem?_toList
theorem bV:type_of%@decide_eq_false_iff_not:=@decide_eq_false_iff_not
theorem bW:type_of%@List.not_mem_nil:=@List.not_mem_nil
theorem bY:type_of%@Array.getElem?_eq_some_iff:=@Array.getElem?_eq_some_iff
theorem bZ:type_of%@List.mem_append:=@List.mem_append
theorem cu:type_of%@List.pairwise_cons:=@List.pairwise_cons
theorem cO:type_of%@List.length_nil:=@List.length_nil
theorem cZ:type_of%@List.drop_drop:=@List.drop_drop
theorem dh:type_of%@List.mem_cons_of_mem:=@List.mem_cons_of_mem
theorem dw:type_of%@List.mem_cons_self:=@List.mem_cons_self
theorem dB:type_of%@List.map_append:=@List.map_append
theorem dD:type_of%@List.drop_zero:=@List.drop_zero
theorem dF:type_of%@List.drop_of_length_le:=@List.drop_of_length_le
theorem dG:type_of%@List.take_append_drop:=@List.take_append_drop
theorem dH:type_of%@Classical.not_not:=@Classical.not_not
theorem dI:type_of%@List.cons_append:=@List.cons_append
theorem dJ:type_of%@List.mem_filterMap:=@List.mem_filterMap
theorem dK:type_of%@List.map_cons:=@List.map_cons
theorem dL:type_of%@List.mem_map:=@List.mem_map
theorem dM:type_of%@List.drop_left:=@List.drop_left
theorem dN:type_of%@List.getElem_cons_zero:=@List.getElem_cons_zero
section
variable {P:Program}{ops:Array Oper}{Q:Exit→Act→World→Prop}{md:Region.Mode}{S:World→Prop}{fuel:Nat}{listed:Array Bool}{a:Act}{w:World}
theorem dO{i:Nat}{oi:Oper}{v:Value}(hi:ops[i]?=some oi)(hy:Region.wanted oi (yielded ops a.tmps)=true∧∀w,S w→(execOp a.eval oi).run P w=.ok (.value v) w)(h:wpAnyH P md ops Q S fuel (listed.setIfInBounds i true) (a.put oi.dst v) w)(hs:Region.noSelect ops=true:=by kernel_rfl)(hf:Region.free md ops listed i=true:=by kernel_rfl)(hr:(Region.ready md ops listed).contains i=true:=by kernel_rfl)(hQ:∀c a w,Q (.panic c) (a.put oi.dst v) w→Q (.panic c) a w:=by exact fun _ _ _ h=>h)(hS:S w:=by assumption):wpAnyH P md ops Q S (fuel+1) listed a w:=wpAnyH_take hi hs hf hr hQ (.inl hy) hS h
theorem dP{i:Nat}{o:Oper}(ho:ops[i]?=some o)(h:∀K':Act→World→Prop,Shut (∀a w,S w→(S w→wpAnyH P md ops Q S fuel (listed.setIfInBounds i true) a w)→K' a w)→if Region.wanted o (yielded ops a.tmps)=true then Oper.wp P o a w K' Q else K' (a.put o.dst undef) w):AllReadyH P md ops Q S fuel listed a w [i]:=.cons ho h .nil
end
end Go.PM
namespace Go.PM
theorem Nh{P:Nat→Prop}(h0:∀n,n<128→P n)(h1:∀n,128≤n→P (n / 128)→P n):∀n,P n:=by
 intro n;induction n using Nat.strongRecOn with
 |_ n ih=>
   by_cases h:n<128
   ·exact h0 n h
   exact h1 n (by omega) (ih (n / 128) (by omega))
def dY(n:Nat):List UInt8:=if n<128 then[UInt8.ofNat n]else UInt8.ofNat (n%128+128)::dY (n / 128)
termination_by n
decreasing_by omega
theorem kL{n:Nat}(h:n<128):dY n=[UInt8.ofNat n]:=by rw[dY,aA h]
theorem EZ{n:Nat}(h:128≤n):dY n=UInt8.ofNat (n%128+128)::dY (n / 128):=by rw[dY,ay (by omega)]
def fH(n:Nat):Nat:=if n<128 then 1 else 1+fH (n / 128)
termination_by n
decreasing_by omega
theorem AL{n:Nat}(h:n<128):fH n=1:=by rw[fH,aA h]
theorem CG{n:Nat}(h:128≤n):fH n=1+fH (n / 128):=by rw[fH,ay (by omega)]
theorem yj(n:Nat):1≤fH n:=by
 by_cases h:n<128
 ·rw[AL h];omega
 rw[CG (by omega)];omega
theorem fO:∀(n:Nat),(dY n).length=fH n:=by
 apply Nh
 ·intro n h;rw[kL h,AL h];rfl
 intro n h ih;rw[EZ h,CG h,bK,ih];omega
theorem Wn:∀(k n:Nat),n<128 ^ (k+1)→fH n≤k+1
 |0,n,h=>by
   have:n<128:=(by simpa using h);rw[AL this];omega
 |k+1,n,h=>by
   by_cases h1:n<128
   ·rw[AL h1];omega
   rw[CG (by omega)];have h2:n / 128<128 ^ (k+1):=by
    rw[Nat.div_lt_iff_lt_mul (by omega)];rw[Nat.pow_succ]at h;exact h
   have:=Wn k (n / 128) h2;omega
theorem iJ{n:Nat}(h:n<18446744073709551616):fH n≤10 :=
 Wn 9 n (aQ h (by decide))
def vZ:Nat→Nat→List UInt8
 |0,_=>[]
 |k+1,n=>UInt8.ofNat (n%128+128)::vZ k (n / 128)
theorem zl:∀(k n:Nat),(vZ k n).length=k
 |0,_=>rfl
 |k+1,n=>by simp[vZ,zl k]
theorem Wj:∀(k n:Nat),vZ (k+1) n=vZ k n++[UInt8.ofNat (n / 128 ^ k%128+128)]
 |0,n=>by simp[vZ]
 |k+1,n=>by
   rw[vZ,Wj k (n / 128),vZ,dI];rw[Nat.div_div_eq_div_mul,Nat.pow_succ,Nat.mul_comm]
theorem anQ:∀(n:Nat),dY n=vZ (fH n - 1) n++[UInt8.ofNat (n / 128 ^ (fH n - 1))]:=by
 apply Nh
 ·intro n h;rw[kL h,AL h];simp[vZ]
 intro n h ih;have hp:=yj (n / 128);have e:fH n - 1=(fH (n / 128) - 1)+1:=by rw[CG h];omega
 rw[EZ h,e,vZ,ih,dI];rw[Nat.div_div_eq_div_mul,Nat.pow_succ,Nat.mul_comm]
theorem Wp:∀(n:Nat),n / 128 ^ (fH n - 1)<128:=by
 apply Nh
 ·intro n h;rw[AL h];simpa using h
 intro n h ih;have hp:=yj (n / 128);have e:fH n - 1=(fH (n / 128) - 1)+1:=by rw[CG h];omega
 rw[e,Nat.pow_succ,Nat.mul_comm,← Nat.div_div_eq_div_mul];exact ih
def pV:Nat→Nat→List UInt8→Nat×Nat×Nat
 |i,_,[]=>if 10≤i then(0,0,3)else(0,0,1)
 |i,acc,c::r=>
   if 10≤i then(0,0,3)
   else if 128≤c.toNat then pV (i+1) (acc+(c.toNat%128)*128 ^ i) r
   else if i=9∧1<c.toNat then(0,0,3)
   else if 0<i∧c.toNat=0 then(0,0,2)
   else(acc+c.toNat*128 ^ i,i+1,0)
def dQ(s:List UInt8):Nat×Nat×Nat:=pV 0 0 s
theorem KI{n:Nat}(h:n<256):(UInt8.ofNat n).toNat=n:=by
 simp;omega
theorem anN(r:List UInt8):∀(n i acc:Nat),i+fH n≤10→(i+fH n=10→n / 128 ^ (fH n - 1)≤1)→(0<i→0<n)→
 pV i acc (dY n++r)=(acc+n*128 ^ i,i+fH n,0):=by
 refine Nh ?_ ?_
 ·intro n h i acc h1 h2 h3
  rw[AL h]at h1 h2⊢;rw[kL h,dI,pV,KI (by omega),ay (by omega),ay (by omega),ay,ay]
  ·omega
  rintro⟨hi,hn⟩;have:n≤1:=by simpa using h2 (by omega)
  omega
 ·intro n h ih i acc h1 h2 h3
  have hp:=yj (n / 128);rw[CG h]at h1 h2⊢;rw[EZ h,dI,pV,KI (by omega),ay (by omega),aA (by omega),ih (i+1) _ (by omega) ?_ (by omega)]
  ·have e:(n%128+128)%128=n%128:=by omega
   rw[e,Nat.pow_succ];have hd:n=n%128+128*(n / 128):=(by omega);refine Prod.ext ?_ (Prod.ext ?_ rfl)
   ·show acc+n%128*128 ^ i+n / 128*(128 ^ i*128)=acc+n*128 ^ i
    have:n*128 ^ i=n%128*128 ^ i+n / 128*(128 ^ i*128):=by
     conv=>lhs;rw[hd]
     rw[Nat.add_mul,Nat.mul_comm (128 ^ i) 128,← Nat.mul_assoc,Nat.mul_comm 128 (n / 128)]
    omega
   show i+1+fH (n / 128)=i+(1+fH (n / 128));omega
  intro h4;have:=h2 (by omega);have e:1+fH (n / 128) - 1=(fH (n / 128) - 1)+1:=by omega
  rw[e,Nat.pow_succ,Nat.mul_comm,← Nat.div_div_eq_div_mul]at this;exact this
theorem anR{n:Nat}(h:n<18446744073709551616)(e:fH n=10):n / 128 ^ (fH n - 1)≤1:=by
 rw[e];have:n / 128 ^ 9<2:=by
  rw[Nat.div_lt_iff_lt_mul (by decide)];exact aQ h (by decide)
 show n / 128 ^ 9≤1;omega
theorem wW(n:Nat)(h:n<18446744073709551616)(r:List UInt8):dQ (dY n++r)=(n,fH n,0):=by
 unfold dQ;have h10:=iJ h;rw[anN r n 0 0 (by omega) (fun e=>anR h (by omega)) (by omega)];simp
theorem Ph{i j:Nat}(h:i≤j):128 ^ i≤128 ^ j:=Nat.pow_le_pow_right (by omega) h
theorem adJ:∀(s:List UInt8) (i acc:Nat),acc<128 ^ i→i≤10→
 (∃e,pV i acc s=(0,0,e)∧(e=1∨e=2∨e=3))∨
 ∃n k,pV i acc s=(acc+n*128 ^ i,i+k,0)∧1≤k∧i+k≤10∧k≤s.length∧dY n=s.take k∧fH n=k∧(i+k=10→n / 128 ^ (k - 1)≤1)∧(0<i→0<n)
 |[],i,acc,_,_=>.inl (by simp only[pV];split<;>simp)
 |c::r,i,acc,ha,hi=>by
   rw[pV];by_cases h0:10≤i
   ·rw[aA h0];exact .inl ⟨3,rfl,by omega⟩
   rw[ay h0];by_cases h1:128≤c.toNat
   ·rw[aA h1]
    have hc:c.toNat<256:=c.toNat_lt;have hlt:acc+c.toNat%128*128 ^ i<128 ^ (i+1):=by
     have:c.toNat%128*128 ^ i≤127*128 ^ i:=Nat.mul_le_mul_right _ (by omega);rw[Nat.pow_succ];omega
    rcases adJ r (i+1) _ hlt (by omega)with h|⟨n,k,h,k1,k2,k3,k4,k5,k6,k7⟩
    ·exact .inl h
    have hn:0<n:=k7 (by omega);have d1:(c.toNat%128+128*n) / 128=n:=(by omega);have d2:(c.toNat%128+128*n)%128=c.toNat%128:=(by omega);refine .inr ⟨c.toNat%128+128*n,k+1,?_,by omega,by omega,by simp;omega,?_,?_,?_,by omega⟩
    ·rw[h,Nat.pow_succ,Nat.add_mul]
     refine Prod.ext ?_ (Prod.ext ?_ rfl)
     ·show acc+c.toNat%128*128 ^ i+n*(128 ^ i*128)=acc+(c.toNat%128*128 ^ i+128*n*128 ^ i)
      have:n*(128 ^ i*128)=128*n*128 ^ i:=(by rw[Nat.mul_comm (128 ^ i) 128,← Nat.mul_assoc,Nat.mul_comm n 128]);omega
     show i+1+k=i+(k+1);omega
    ·rw[EZ (by omega),d1,d2,List.take_succ_cons,k4]
     congr 1;have:c.toNat%128+128=c.toNat:=(by omega);rw[this];simp
    ·rw[CG (by omega),d1,k5];omega
    intro he;have e:k+1 - 1=(k - 1)+1:=(by omega);rw[e,Nat.pow_succ,Nat.mul_comm (128 ^ (k - 1)) 128,← Nat.div_div_eq_div_mul,d1];exact k6 (by omega)
   rw[ay h1];by_cases h2:i=9∧1<c.toNat
   ·rw[aA h2];exact .inl ⟨3,rfl,by omega⟩
   rw[ay h2];by_cases h3:0<i∧c.toNat=0
   ·rw[aA h3];exact .inl ⟨2,rfl,by omega⟩
   rw[ay h3];refine .inr ⟨c.toNat,1,rfl,by omega,by omega,by simp,?_,AL (by omega),?_,by omega⟩
   ·rw[kL (by omega)];simp
   intro he;simp only[Nat.sub_self,Nat.pow_zero,Nat.div_one];omega
theorem Ib(s:List UInt8) :
 (∃e,dQ s=(0,0,e)∧(e=1∨e=2∨e=3))∨
 ∃n k,dQ s=(n,k,0)∧n<18446744073709551616∧1≤k∧k≤10∧k≤s.length∧dY n=s.take k∧fH n=k:=by
 rcases adJ s 0 0 (by simp) (by omega)with h|⟨n,k,h,k1,k2,k3,k4,k5,k6,_⟩
 ·exact .inl h
 ·refine .inr ⟨n,k,by unfold dQ;rw[h];simp,?_,k1,by omega,k3,k4,k5⟩
  have ht:=Wp n;rw[k5]at ht;by_cases h10:k=10
  ·subst h10
   have:n / 128 ^ 9<2:=(by have:=k6 (by omega);simp only[Nat.add_one_sub_one]at this;omega);rw[Nat.div_lt_iff_lt_mul (by decide)]at this;exact aQ this (by decide)
  rw[Nat.div_lt_iff_lt_mul (Nat.pow_pos (by omega))]at ht;have h2:128*128 ^ (k - 1)≤128 ^ 9:=by
   rw[Nat.mul_comm,← Nat.pow_succ];exact Ph (by omega)
  have h3:128 ^ 9<18446744073709551616:=by decide
  omega
end Go.PM
section
namespace Go.PM
open Go.Maps (Keyed)
theorem rY(k:IntKind)(n:Int):WideAt.IsKeyLit (.int k n):=by unfold WideAt.IsKeyLit;trivial
theorem abL(s:List UInt8):WideAt.IsKeyLit (.string s):=by unfold WideAt.IsKeyLit;trivial
def PX(v:Value):Option (DataW Value×List MemPlace):=some (.held v,[])
def EM(l:List (Lit×Value)):DataW Value:=l.foldl (fun D p=>D.put p.1 (.held p.2)) (.map [])
theorem ajh(l:List (Lit×Value))(k:Lit)(v:Value):EM (l++[(k,v)])=(EM l).put k (.held v):=by
 rw[EM,List.foldl_append];rfl
def qC(z:Value):List (Lit×Value)→Lit→Value
 |[],_=>z
 |p::l,k=>qC (bif p.1.sameKey k then p.2 else z) l k
theorem ab4(k:Lit):∀(l:List (Lit×Value)) (D:DataW Value) (z0 z:Value),Maps.IsMap D→(∀p∈l,WideAt.IsKeyLit p.1)→D.atKey k (.held z0)=.held z→(l.foldl (fun D p=>D.put p.1 (.held p.2)) D).atKey k (.held z0)=.held (qC z l k)
 |[],_,_,_,_,_,h=>h
 |p::l,D,z0,z,hD,hl,h=>by
   rw[List.foldl_cons,qC];refine ab4 k l _ z0 _ (hD.put _ _) (fun q hq=>hl q (dh _ hq)) ?_;by_cases he:p.1=k
   ·rw[← he,WideAt.sameKey_self (hl p dw)]
    exact Maps.atKey_put_same hD (hl p dw) _ _
   rw[Maps.sameKey_ne he,Maps.atKey_put_other (fun e=>he e.symm)];exact h
theorem ab5(l:List (Lit×Value))(hl:∀p∈l,WideAt.IsKeyLit p.1)(k:Lit)(z:Value):(EM l).atKey k (.held z)=.held (qC z l k):=ab4 k l _ z z ⟨[],rfl⟩ hl rfl
def Aa(l:List (Lit×Value))(k:Lit):Bool:=l.any fun p=>p.1.sameKey k
theorem Vd(k:Lit):∀(l:List (Lit×Value)) (D:DataW Value) (c:Bool),Maps.IsMap D→(∀p∈l,WideAt.IsKeyLit p.1)→Maps.has D k=c→Maps.has (l.foldl (fun D p=>D.put p.1 (.held p.2)) D) k=(c||Aa l k)
 |[],_,_,_,_,h=>by simpa[Aa]using h
 |p::l,D,c,hD,hl,h=>by
   rw[List.foldl_cons];by_cases he:p.1=k
   ·rw[Vd k l _ true (hD.put _ _) (fun q hq=>hl q (dh _ hq)) (by rw[← he];exact Maps.has_put_same hD (hl p dw) _)]
    simp[Aa,← he,WideAt.sameKey_self (hl p dw)]
   rw[Vd k l _ c (hD.put _ _) (fun q hq=>hl q (dh _ hq)) (by rw[Maps.has_put_other (fun e=>he e.symm)];exact h)];simp[Aa,Maps.sameKey_ne he]
theorem ajg(l:List (Lit×Value))(hl:∀p∈l,WideAt.IsKeyLit p.1)(k:Lit):Maps.has (EM l) k=Aa l k:=by
 rw[EM,Vd k l _ false ⟨[],rfl⟩ hl rfl,Bool.false_or]
def MapAt(w:World)(P:Program)(k:TypeId)(b:Nat)(l:List (Lit×Value)):Prop:=w.ownsMap P k PX b l.length (EM l)∧∀p∈l,WideAt.IsKeyLit p.1
section
variable {w w':World} {P:Program} {k:TypeId} {b:Nat} {l:List (Lit×Value)}
theorem MapAt.made(w:World)(P:Program)(k:TypeId):MapAt (w.alloc (.map #[] 0)) P k w.heap.size []:=⟨World.ownsMap_made w P k PX,by simp⟩
theorem MapAt.lt(h:MapAt w P k b l):b<w.heap.size:=h.1.lt
theorem MapAt.kept{row:Option Nat}(h:MapAt w P k b l)(hg:w.grownBy w' row)(hne:some b≠row):MapAt w' P k b l:=⟨h.1.kept hg hne,h.2⟩
theorem MapAt.look{t e:TypeId}(h:MapAt w P k b l)(K:Keyed P k)(ht:P.underlying t=some (.map k e)){z:Value}(hz:(zeroValue e).run P w=.ok z w){key:Value}{kl:Lit}(hkey:keyOf P k key=some kl) :
 (Instr.lookup t (.map (some b)) key false).run P w=.ok (qC z l kl) w:=by
 obtain⟨v,ps,hr,hv⟩:=h.1.lookup K ht hz (zd:=.held z) (zp:=[]) rfl hkey
 rw[ab5 l h.2]at hv
 simp only[PX,bJ,Prod.mk.injEq,DataW.held.injEq]at hv
 rw[hr,hv.1]
theorem MapAt.look_ok{t e:TypeId}(h:MapAt w P k b l)(K:Keyed P k)(ht:P.underlying t=some (.map k e)){z:Value}(hz:(zeroValue e).run P w=.ok z w){key:Value}{kl:Lit}(hkey:keyOf P k key=some kl) :
 (Instr.lookup t (.map (some b)) key true).run P w=.ok (.tuple #[qC z l kl,.bool (Aa l kl)]) w:=by
 obtain⟨v,ps,hr,hv⟩:=h.1.look_ok K ht hz (zd:=.held z) (zp:=[]) rfl hkey
 rw[ab5 l h.2]at hv
 simp only[PX,bJ,Prod.mk.injEq,DataW.held.injEq]at hv
 rw[hr,hv.1,ajg l h.2]
theorem MapAt.put{t e:TypeId}(h:MapAt w P k b l)(K:Keyed P k)(ht:P.underlying t=some (.map k e))(hn:l.length<maxLen){key val:Value}{kl:Lit}(hkey:keyOf P k key=some kl)(hkl:WideAt.IsKeyLit kl) :
 ∃w',(Instr.mapUpdate t (.map (some b)) key val).run P w=.ok () w'∧MapAt w' P k b (l++[(kl,val)])∧w.grownBy w' (some b):=by
 obtain⟨w',h1,h2,h3⟩:=h.1.update K ht hn hkey (d:=.held val) (ps:=[]) rfl
 refine⟨w',h1,⟨?_,fun p hp=>?_⟩,h3⟩
 ·rw[ajh,aC]
  exact h2
 ·rcases bZ.1 hp with hp|hp
  ·exact h.2 p hp
  rw[List.mem_singleton]at hp;subst hp;exact hkl
end
/-! ### at the operation,for the walk -/
section
variable {P:Program} (w:World) {ops:Array Oper} {rest:List Oper} {o:Oper} {a:Act} {Q:Exit→Act→World→Prop}
theorem adQ(hg:o.guard=none)(m x v:Operand)(t:TypeId)(hop:o.op=Op.mapUpdate t m x v)(k e:TypeId)(K:Keyed P k)(ht:P.underlying t=some (.map k e))(b:Nat)(l:List (Lit×Value))
 (hm:a.eval m=.map (some b)) (h:MapAt w P k b l) (hn:l.length<maxLen) (key val:Value) (kl:Lit) (hx:a.eval x=key) (hv:a.eval v=val) (hkey:keyOf P k key=some kl) (hkl:WideAt.IsKeyLit kl)
 (hK:∀w',MapAt w' P k b (l++[(kl,val)])→w.grownBy w' (some b)→wpList P ops Q rest (a.put o.dst undef) w'):wpList P ops Q (o::rest) a w:=by
 refine wpList_plain hg fun K' hK'=>?_
 obtain⟨w',hrun,r1,r2⟩:=h.put (val:=val) K ht hn hkey hkl
 unfold Oper.wp
 simp[execOp,hop,hm,hx,hv,hrun,Result.andThen]
 exact hK' _ _ (hK w' r1 r2)
theorem uY(hg:o.guard=none)(m x v:Operand)(t:TypeId)(hop:o.op=Op.insert t m x v)(k e:TypeId)(K:Keyed P k)(ht:P.underlying t=some (.map k e))(b:Nat)(l:List (Lit×Value))
 (hm:a.eval m=.map (some b)) (h:MapAt w P k b l) (hn:l.length<maxLen) (key val:Value) (kl:Lit) (hx:a.eval x=key) (hv:a.eval v=val) (hkey:keyOf P k key=some kl) (hkl:WideAt.IsKeyLit kl)
 (hK:∀w',MapAt w' P k b (l++[(kl,val)])→w.grownBy w' (some b)→wpList P ops Q rest (a.put o.dst undef) w'):wpList P ops Q (o::rest) a w:=by
 refine wpList_plain hg fun K' hK'=>?_
 obtain⟨w',hrun,r1,r2⟩:=h.put (val:=val) K ht hn hkey hkl
 unfold Oper.wp
 simp[execOp,hop,hm,hx,hv,hrun,Result.andThen]
 exact hK' _ _ (hK w' r1 r2)
theorem E5(hg:o.guard=none)(m x:Operand)(t:TypeId)(hop:o.op=Op.lookup t m x false)(k e:TypeId)(K:Keyed P k)(ht:P.underlying t=some (.map k e)){z:Value}(hz:(zeroValue e).run P w=.ok z w)(b:Nat)(l:List (Lit×Value))
 (hm:a.eval m=.map (some b)) (h:MapAt w P k b l) (key:Value) (kl:Lit) (hx:a.eval x=key) (hkey:keyOf P k key=some kl) {r:Value} (hr:qC z l kl=r)
 (hK:wpList P ops Q rest (a.put o.dst r) w):wpList P ops Q (o::rest) a w:=by
 subst hr
 refine wpList_plain hg fun K' hK'=>?_
 have hrun:=h.look K ht hz hkey
 unfold Oper.wp
 simp[execOp,hop,hm,hx,hrun,Result.andThen]
 exact hK' _ _ hK
theorem Wq(hg:o.guard=none)(m x:Operand)(t:TypeId)(hop:o.op=Op.lookup t m x true)(k e:TypeId)(K:Keyed P k)(ht:P.underlying t=some (.map k e)){z:Value}(hz:(zeroValue e).run P w=.ok z w)(b:Nat)(l:List (Lit×Value))
 (hm:a.eval m=.map (some b)) (h:MapAt w P k b l) (key:Value) (kl:Lit) (hx:a.eval x=key) (hkey:keyOf P k key=some kl) {r:Value} (hr:qC z l kl=r) {c:Bool} (hc:Aa l kl=c)
 (hK:wpList P ops Q rest (a.put o.dst (.tuple #[r,.bool c])) w):wpList P ops Q (o::rest) a w:=by
 subst hr hc
 refine wpList_plain hg fun K' hK'=>?_
 have hrun:=h.look_ok K ht hz hkey
 unfold Oper.wp
 simp[execOp,hop,hm,hx,hrun,Result.andThen]
 exact hK' _ _ hK
end
end Go.PM
end
section
namespace Go.PM
open Go.Maps (Keyed)
section
variable {H:Type}
theorem ak1{P:Program}{e:TypeId}(he:P.underlying e=some .bool){v:Value}{z:DataW H×List MemPlace}(h:plainElem P e v=some z):∃x,v=.bool x∧z=(.lit (.bool x),[]):=by
 unfold plainElem at h;rw[he]at h;cases v<;>simp at h
 obtain rfl:=h;exact⟨_,rfl,rfl⟩
theorem ajb{P:Program}{k t e:TypeId}{w:World}{b n:Nat}{D:DataW H}(h:w.ownsMap P k (plainElem P e) b n D)(K:Keyed P k)(ht:P.underlying t=some (.map k e))(he:P.underlying e=some .bool)
 (hz:(zeroValue e).run P w=.ok (.bool false) w) {key:Value} {kl:Lit} (hkey:keyOf P k key=some kl) :
 ∃c,(Instr.lookup t (.map (some b)) key false).run P w=.ok (.bool c) w∧D.atKey kl (.lit (.bool false))=.lit (.bool c):=by
 obtain⟨v,ps,hrun,hv⟩:=h.lookup K ht hz (plainElem_bool he false) hkey
 obtain⟨c,rfl,hc⟩:=ak1 he hv
 simp only[Prod.mk.injEq]at hc
 exact⟨c,hrun,hc.1⟩
theorem adP{P:Program}(w:World){ops:Array Oper}{rest:List Oper}{o:Oper}{a:Act}{Q:Exit→Act→World→Prop}
 (hg:o.guard=none) (m x:Operand) (t:TypeId) (hop:o.op=Op.lookup t m x false)
 (k e:TypeId) (K:Keyed P k) (ht:P.underlying t=some (.map k e)) (he:P.underlying e=some .bool) (hz:(zeroValue e).run P w=.ok (.bool false) w) (b n:Nat) (D:DataW H)
 (hm:a.eval m=.map (some b)) (hown:w.ownsMap P k (plainElem P e) b n D) (key:Value) (kl:Lit) (hx:a.eval x=key) (hkey:keyOf P k key=some kl)
 (hK:∀c:Bool,D.atKey kl (.lit (.bool false))=.lit (.bool c)→wpList P ops Q rest (a.put o.dst (.bool c)) w) :
 wpList P ops Q (o::rest) a w:=by
 refine wpList_plain hg fun K' hK'=>?_
 obtain⟨c,hrun,hat⟩:=ajb hown K ht he hz hkey
 unfold Oper.wp
 simp[execOp,hop,hm,hx,hrun,Result.andThen]
 exact hK' _ _ (hK c hat)
def ET(D:DataW H)(t:Nat):DataW H:=D.put (.int .u64 (t:Int)) (.lit (.bool true))
def AB(l:List Nat):DataW H:=l.foldl ET (.map [])
theorem am4(l:List Nat)(t:Nat):(AB (l++[t]):DataW H)=(AB l:DataW H).put (.int .u64 (t:Int)) (.lit (.bool true)):=by
 rw[AB,List.foldl_append];rfl
theorem V3(x:Nat):∀(l:List Nat) (D:DataW H),Maps.IsMap D→∀c:Bool,D.atKey (.int .u64 (x:Int)) (.lit (.bool false))=.lit (.bool c)→
 (l.foldl ET D).atKey (.int .u64 (x:Int)) (.lit (.bool false))=.lit (.bool (c||decide (x∈l)))
 |[],D,_,c,h=>by simpa using h
 |t::l,D,hD,c,h=>by
   rw[List.foldl_cons];by_cases he:x=t
   ·subst he
    have h1:(ET D x).atKey (.int .u64 (x:Int)) (.lit (.bool false))=.lit (.bool true):=Maps.atKey_put_same hD (by trivial) _ _;rw[V3 x l (ET D x) (hD.put _ _) true h1];simp
   have h1:(ET D t).atKey (.int .u64 (x:Int)) (.lit (.bool false))=.lit (.bool c):=by
    rw[ET,Maps.atKey_put_other (by simp;omega)];exact h
   rw[V3 x l (ET D t) (hD.put _ _) c h1];simp[he]
theorem am3(l:List Nat)(x:Nat):(AB l:DataW H).atKey (.int .u64 (x:Int)) (.lit (.bool false))=.lit (.bool (decide (x∈l))):=by
 have h:=V3 (H:=H) x l (.map []) ⟨[],rfl⟩ false rfl;simpa[AB]using h
end
end Go.PM
end
