/-
  Parts of the proof. Conditions: as each names.
-/
import Derived.Test.YtgidfnhfgiehjaaGreatDoorYab
import Derived.Test.YtgidfnhfgiehjaaGreatDoorYac
import Derived.Deep.OwnRows
namespace Go.PM
def oP(p:List UInt8):List UInt8:=[81,70]++dY p.length++p++oG (nH p)
def qg(n:Nat):Nat:=2+fH n+n+4
theorem NH(p:List UInt8):(oP p).length=qg p.length:=by
 simp[oP,qg,fO,oG];omega
def jF(s:List UInt8):Nat :=
 if s.length=0 then 1 else if s.getD 0 0≠81 then 5 else if s.length=1 then 1 else if s.getD 1 0≠70 then 5 else 0
def xO(s:List UInt8):List UInt8×Nat×Nat :=
 let g:=dQ (s.drop 2)
 if g.2.2≠0 then([],0,g.2.2)
 else if 65536<g.1 then([],0,4)
 else if(s.drop (2+g.2.1)).length<g.1+4 then([],0,1)
 else if sU (((s.drop (2+g.2.1)).drop g.1).take 4)≠nH ((s.drop (2+g.2.1)).take g.1)then([],0,6)
 else((s.drop (2+g.2.1)).take g.1,qg g.1,0)
def gq(s:List UInt8):List UInt8×Nat×Nat:=if jF s≠0 then([],0,jF s)else xO s
theorem Tf(s:List UInt8):jF s=0∧(∃r,s=81::70::r)∨jF s=1∧s.length≤1∨jF s=5:=by
 unfold jF
 match s with
 |[]=>simp
 |[a]=>by_cases h:a=81<;>simp[h]
 |a::b::r=>by_cases h:a=81<;>by_cases h2:b=70<;>simp[h,h2]
theorem ahq(s:List UInt8):(∃e,gq s=([],0,e)∧e≠0)∨
 ∃p r,s=oP p++r∧p.length≤65536∧gq s=(p,qg p.length,0):=by
 unfold gq
 rcases Tf s with⟨h,r,rfl⟩|⟨h,_⟩|h
 ·rw[ay (by simp[h])]
  unfold xO;simp only[List.drop_succ_cons,dD];rcases Ib r with⟨e,he,h3⟩|⟨n,k,hg,hn,hk,_,hkl,hput,hsz⟩
  ·left;refine⟨e,?_,by omega⟩
   rw[he];simp;omega
  rw[hg];simp only[ne_eq,not_true_eq_false,if_false];have hd:(81::70::r).drop (2+k)=r.drop k:=by rw[Nat.add_comm];rfl
  rw[hd];split
  ·exact .inl ⟨4,rfl,by omega⟩
  split
  ·exact .inl ⟨1,rfl,by omega⟩
  split
  ·exact .inl ⟨6,rfl,by omega⟩
  rename_i h1 h2 h3
  right
  have hlen:((r.drop k).take n).length=n:=by rw[bD];omega
  refine⟨(r.drop k).take n,(r.drop k).drop (n+4),?_,by omega,by rw[hlen]⟩;have h4:(((r.drop k).drop n).take 4).length=4:=by simp at h2⊢;omega
  have h3:sU (((r.drop k).drop n).take 4)=nH ((r.drop k).take n):=dH.1 h3;unfold oP;rw[hlen,hput,← h3,afv _ h4];simp only[bP,dI,List.nil_append];congr 2;have e1:(r.drop k).drop (n+4)=((r.drop k).drop n).drop 4:=by rw[cZ,cZ,cZ]
  rw[e1,dG,dG,dG]
 ·rw[aA (by omega),h];exact .inl ⟨1,rfl,by omega⟩
 ·rw[aA (by omega),h];exact .inl ⟨5,rfl,by omega⟩
theorem ahr(p r:List UInt8)(h:p.length≤65536):gq (oP p++r)=(p,qg p.length,0):=by
 have e:oP p++r=81::70::(dY p.length++(p++(oG (nH p)++r))):=by simp[oP]
 unfold gq;have hm:jF (oP p++r)=0:=by rw[e];simp[jF]
 rw[ay (by simp[hm])];unfold xO;have hg:dQ ((oP p++r).drop 2)=(p.length,fH p.length,0):=by
  rw[e];exact wW _ (by omega) _
 rw[hg];simp only[ne_eq,not_true_eq_false,if_false];have hd:(oP p++r).drop (2+fH p.length)=p++(oG (nH p)++r):=by
  rw[e,Nat.add_comm];show(dY p.length++(p++(oG (nH p)++r))).drop (fH p.length)=_;rw[← fO,dM]
 rw[hd,ay (by omega),ay (by simp[oG]),dM,List.take_left];have:(oG (nH p)++r).take 4=oG (nH p):=by
  have:(oG (nH p)).length=4:=rfl;rw[← this,List.take_left]
 rw[this,afO _ (Zj p),ay (by simp)]
theorem adK(t:List UInt8):∀(s:List UInt8) (i acc:Nat),(pV i acc s).2.2≠1→pV i acc (s++t)=pV i acc s
 |[],i,acc,h=>by
   by_cases h0:10≤i
   ·cases t with
    |nil=>rfl
    |cons c t=>simp[pV,h0]
   ·simp[pV,h0]at h
 |c::r,i,acc,h=>by
   rw[dI];simp only[pV]at h⊢;by_cases h0:10≤i
   ·simp[h0]
   simp only[h0,if_false]at h⊢;by_cases h1:128≤c.toNat
   ·simp only[h1,if_true]at h⊢
    exact adK t r _ _ h
   simp only[h1,if_false]
theorem adL(s t:List UInt8)(h:(dQ s).2.2≠1):dQ (s++t)=dQ s:=adK t s 0 0 h
theorem ag1(a b:UInt8)(r t:List UInt8)(h:(xO (a::b::r)).2.2≠1):xO (a::b::(r++t))=xO (a::b::r):=by
 have e2:∀(k:Nat) (x:List UInt8),(a::b::x).drop (2+k)=x.drop k:=fun k x=>by rw[Nat.add_comm];rfl
 unfold xO at h⊢;simp only[List.drop_succ_cons,dD,e2]at h⊢;have hv:(dQ r).2.2≠1:=by
  intro hv;rw[hv]at h;simp at h
 rw[adL r t hv];rcases Ib r with⟨e',he',h3⟩|⟨n,k,hg,hn,hk,_,hkl,hput,hsz⟩
 ·rw[he']
  have:e'≠0:=by omega
  simp only[this,ne_eq,not_false_eq_true,if_true]
 rw[hg]at h⊢;simp only[ne_eq,not_true_eq_false,if_false]at h⊢;by_cases h4:65536<n
 ·rw[aA h4,aA h4]
 rw[ay h4]at h⊢;rw[ay h4];by_cases h5:(r.drop k).length<n+4
 ·rw[aA h5]at h;simp at h
 rw[ay h5,List.drop_append_of_le_length hkl,ay (by rw[aC];omega)];rw[List.take_append_of_le_length (by omega),List.drop_append_of_le_length (by omega),List.take_append_of_le_length (by simp at h5⊢;omega)]
theorem aaE(s t:List UInt8)(h:(gq s).2.2≠1):gq (s++t)=gq s:=by
 unfold gq at h⊢
 match s with
 |[]=>simp[jF]at h
 |[a]=>
   by_cases ha:a=81
   ·simp[jF,ha]at h
   simp[jF,ha]
 |a::b::r=>
   have hm:jF (a::b::r++t)=jF (a::b::r):=(by simp[jF]);rw[hm];by_cases h1:jF (a::b::r)≠0
   ·rw[aA h1,aA h1]
   rw[ay h1]at h⊢;rw[ay h1];exact ag1 a b r t h
/-! ### The number as the document has it: first its size,then its value -/
def Hr:Nat→List UInt8→Nat
 |_,[]=>0
 |i,c::r=>if 10≤i then 0 else if c.toNat<128 then i+1 else Hr (i+1) r
def VI(s:List UInt8):Nat:=Hr 0 s
def Cm(s:List UInt8):Nat→Nat
 |0=>0
 |i+1=>Cm s i+(s.getD i 0).toNat%128*128 ^ i
/-! ### All numbers,all frames -/
theorem nZ{s:List UInt8}(h:(dQ s).2.2=0):1≤(dQ s).2.1∧(dQ s).2.1≤s.length∧(dQ s).2.1≤10∧(dQ s).1<18446744073709551616∧dY (dQ s).1=s.take (dQ s).2.1:=by
 rcases Ib s with⟨e,he,h3⟩|⟨n,k,hg,hn,hk,h10,hkl,hput,hsz⟩
 ·rw[he]at h;simp at h;omega
 rw[hg];exact⟨hk,hkl,h10,hn,hput⟩
theorem PZ{s:List UInt8}(h:(dQ s).2.2≠0):dQ s=(0,0,(dQ s).2.2):=by
 rcases Ib s with⟨e,he,h3⟩|⟨n,k,hg,_⟩
 ·rw[he]
 rw[hg]at h;simp at h
def yh(s:List UInt8):List Nat×Nat :=
 if s.length=0 then([],0)
 else if _h:(dQ s).2.2=0 then
  let x:=yh (s.drop (dQ s).2.1)
  if x.2=0 then((dQ s).1::x.1,0)else([],x.2)
 else([],(dQ s).2.2)
termination_by s.length
decreasing_by
 have:=nZ _h
 simp;omega
theorem Gy{s:List UInt8}(h:(gq s).2.2=0):7≤(gq s).2.1∧(gq s).2.1≤s.length∧(gq s).1.length≤65536∧(gq s).2.1=qg (gq s).1.length∧s.take (gq s).2.1=oP (gq s).1:=by
 rcases ahq s with⟨e,he,h3⟩|⟨p,r,hs,hp,he⟩
 ·rw[he]at h;simp at h;omega
 rw[he];have:=yj p.length;refine⟨by simp[qg];omega,?_,hp,rfl,?_⟩
 ·rw[hs,aC,NH];simp
 rw[hs,← NH];simp
def fall(s:List UInt8):List (List UInt8)×Nat :=
 if s.length=0 then([],0)
 else if _h:(gq s).2.2=0 then
  let x:=fall (s.drop (gq s).2.1)
  if x.2=0 then((gq s).1::x.1,0)else([],x.2)
 else([],(gq s).2.2)
termination_by s.length
decreasing_by
 have:=Gy _h
 simp;omega
def fZ(s:List UInt8):List (List UInt8)×Nat×List UInt8 :=
 if(gq s).2.2=1 then([],0,s)
 else if _h:(gq s).2.2=0 then
  let x:=fZ (s.drop (gq s).2.1)
  ((gq s).1::x.1,x.2)
 else([],(gq s).2.2,[])
termination_by s.length
decreasing_by
 have:=Gy _h
 simp;omega
theorem BH{s:List UInt8}(h:(gq s).2.2=1):fZ s=([],0,s):=by rw[fZ,aA h]
theorem Gx{s:List UInt8}(h:(gq s).2.2=0):fZ s=((gq s).1::(fZ (s.drop (gq s).2.1)).1,(fZ (s.drop (gq s).2.1)).2):=by
 rw[fZ,ay (by omega),dif_pos h]
theorem Gw{s:List UInt8}(h:(gq s).2.2≠0)(h1:(gq s).2.2≠1):fZ s=([],(gq s).2.2,[]):=by
 rw[fZ,ay h1,dif_neg h]
theorem Ti{P:List UInt8→Prop}(h1:∀s,(gq s).2.2=1→P s)(h0:∀s,(gq s).2.2=0→P (s.drop (gq s).2.1)→P s)
 (hb:∀s,(gq s).2.2≠0→(gq s).2.2≠1→P s):∀s,P s:=by
 intro s
 induction hn:s.length using Nat.strongRecOn generalizing s with
 |_ n ih=>
   by_cases e1:(gq s).2.2=1
   ·exact h1 s e1
   by_cases e0:(gq s).2.2=0
   ·refine h0 s e0 (ih _ ?_ _ rfl)
    have:=Gy e0;simp;omega
   exact hb s e0 e1
theorem ahm:∀s,(fZ s).2.1=0∧(gq (fZ s).2.2).2.2=1∨(fZ s).2.1≠0∧(fZ s).2.1≠1∧(fZ s).2.2=[]:=by
 refine Ti ?_ ?_ ?_
 ·intro s h;rw[BH h];exact .inl ⟨rfl,h⟩
 ·intro s h ih;rw[Gx h];exact ih
 intro s h h1;rw[Gw h h1];exact .inr ⟨h,h1,rfl⟩
theorem ahj(t:List UInt8):∀s,fZ (s++t)=
 if(fZ s).2.1=0 then((fZ s).1++(fZ ((fZ s).2.2++t)).1,(fZ ((fZ s).2.2++t)).2)else fZ s:=by
 refine Ti ?_ ?_ ?_
 ·intro s h;rw[BH h];simp
 ·intro s h ih
  have hm:=aaE s t (by omega);have hk:=Gy h;have e:fZ (s++t)=((gq s).1::(fZ (s.drop (gq s).2.1++t)).1,(fZ (s.drop (gq s).2.1++t)).2):=by
   rw[Gx (by rw[hm];exact h),hm,List.drop_append_of_le_length hk.2.1]
  rw[e,Gx h,ih];split<;>rfl
 ·intro s h h1
  have hm:=aaE s t h1;rw[Gw (by rw[hm];exact h) (by rw[hm];exact h1),hm,Gw h h1];rw[ay h]
/-! ### How many bytes are wanted -/
def wP(s:List UInt8):Nat:=if s.length<2 then 0 else if(dQ (s.drop 2)).2.2=0 then qg (dQ (s.drop 2)).1 else 0
theorem ahg(s b:List UInt8)(h:(gq s).2.2=1)(hl:(s++b).length<wP s):(gq (s++b)).2.2=1:=by
 unfold wP at hl;split at hl
 ·simp at hl
 split at hl
 ·rename_i h2 h3
  match s,h2 with
  |x::y::r,_=>
    have e2:∀(k:Nat) (z:List UInt8),(x::y::z).drop (2+k)=z.drop k:=fun k z=>(by rw[Nat.add_comm];rfl);simp only[List.drop_succ_cons,dD]at hl h3;have hm:jF (x::y::r++b)=jF (x::y::r):=(by simp[jF]);unfold gq at h⊢;rw[hm];by_cases hmk:jF (x::y::r)≠0
    ·rw[aA hmk]at h⊢;exact h
    rw[ay hmk]at h⊢;unfold xO at h⊢;simp only[dI,List.drop_succ_cons,dD,e2]at h⊢;have hv:=adL r b (by omega);rw[hv];rw[ay (by omega)]at h⊢;by_cases h4:65536<(dQ r).1
    ·rw[aA h4]at h;simp at h
    rw[ay h4]at h⊢;rcases Ib r with⟨e,he,h5⟩|⟨n,k,hg,hn,hk,h10,hkl,hput,hsz⟩
    ·rw[he]at h3;simp at h3;omega
    rw[hg]at h hl⊢;rw[aA];unfold qg at hl;simp only[aN,aC,bK]at hl⊢;omega
 ·simp at hl

end Go.PM
namespace Go.Proofs.YtgidfnhfgiehjaaGreatDoor
open Go.PM Go.RowKit Go.Proofs.Tryz
set_option maxRecDepth 100000
set_option maxHeartbeats 4000000
theorem UU:(prog.info? 5).map (fun i=>(i.zero,i.size,i.bytes))=some (some (.int .u8 0),1,1):=by kernel_rfl
theorem size_any(n:Nat)(w:World)(hn:In64 n) :
 Calls prog 78 #[.int .u64 (n:Int)] w fun e w'=>e=.returned (.int .i64 (fH n:Int))∧w=w':=by
 go_enter func78,ntmps78
 have h10:=iJ hn.out
 have HN:=ah hn
 clear hn
 go_wp2
 go_loop [0,3] (fun v c=>∃m k:Nat,v=.int .u64 (m:Int)∧c=.int .i64 (k:Int)∧k+fH m=fH n+1∧In64 m) (fun v _=>(intOf v).toNat)
 case atStart=>exact⟨n,1,rfl,rfl,by omega,HN.out⟩
 case round=>
  obtain⟨m,k,rfl,rfl,hk,hm⟩:=hrel;have HK:=ah hk;have HM:=ah hm;clear hm;have hp:=yj m;have aoD:k≤10:=by omega
  clear hk hp;by_cases h:m<128
  ·go_wp2
   go_ret;have e:=AL h;have:=HK.out;exact⟨congrArg (fun x:Int=>Ending.returned (.int .i64 x)) (by omega),rfl⟩
  go_wp2;go_round
  case rel=>
   have hb:=CG (n:=m) (by omega);have:=HK.out;exact⟨m / 128,k+1,by go_num,by go_num,by omega,Nat.lt_of_le_of_lt (Nat.div_le_self _ _) HM.out⟩
  case measure=>simp[intOf];omega
def Lay(n L i m:Nat)(C:Array Value):Prop:=m=n / 128 ^ i∧C.toList=oO (vZ i n)++List.replicate (L - i) (.int .u8 0)
theorem Lay.start(n L:Nat):Lay n L 0 n (madeCells #[.int .u8 0] L):=⟨by simp,by rw[toList_madeCells_one];simp[vZ,oO]⟩
theorem Lay.at_{n L i m:Nat}{C:Array Value}(h:Lay n L i m C)(hi:i<L):C[i]?=some (.int .u8 0):=by
 have:C[i]?=C.toList[i]?:=by simp
 rw[this,h.2,List.getElem?_append_right (by rw[yO,zl];omega),yO,zl,Nat.sub_self,List.getElem?_replicate];simp;omega
theorem Lay.step{n L i m:Nat}{C:Array Value}(h:Lay n L i m C)(hi:i<L):Lay n L (i+1) (m / 128) (C.setIfInBounds i (.int .u8 ((m:Int)%128+128))):=by
 obtain⟨rfl,hC⟩:=h;refine⟨by rw[Nat.div_div_eq_div_mul,Nat.pow_succ],?_⟩;rw[Array.toList_setIfInBounds,hC,Wj];have e:L - i=(L - (i+1))+1:=by omega
 rw[e,List.replicate_succ,List.set_append_right _ _ (by rw[yO,zl];omega),yO,zl,Nat.sub_self];simp only[aG,oO,dB,dK,List.map_nil,bP,dI,List.nil_append];congr 3;rw[KI (by omega)];omega
theorem Lay.done{n i m:Nat}{C:Array Value}(h:Lay n (fH n) i m C)(hi:i=fH n) :
 C[fH n - 1]?=some (.int .u8 ((n / 128 ^ (fH n - 1):Nat)+128:Int))∧(C.setIfInBounds (fH n - 1) (.int .u8 (n / 128 ^ (fH n - 1):Nat))).toList=oO (dY n):=by
 subst hi
 obtain⟨_,hC⟩:=h
 have hp:=yj n
 have ht:=Wp n
 rw[Nat.sub_self,List.replicate_zero,bQ]at hC
 have e:fH n=(fH n - 1)+1:=by omega
 rw[e,Wj]at hC
 rw[Nat.mod_eq_of_lt ht]at hC
 constructor
 ·have:C[fH n - 1]?=C.toList[fH n - 1]?:=by simp
  rw[this,hC,Jf _ _ (by simp[zl])];rw[List.getElem_append_right (by rw[zl];omega)];simp only[zl,Nat.sub_self,dN];rw[KI (by omega)];rfl
 ·rw[Array.toList_setIfInBounds,hC,anQ]
  unfold oO;rw[dB,dB,List.set_append_right _ _ (by simp[zl])];simp only[aY,zl,Nat.sub_self,dK,List.map_nil,aG];rw[KI (by omega)]
theorem aeF(m:Nat)(h:In64 m):bits .and .u64 (m:Int) 127=(m:Int)%128:=by
 have:=bits_and_u64_nat m 127 h.out (by omega);rw[show(127:Nat)=2 ^ 7 - 1 from rfl,Nat.and_two_pow_sub_one_eq_mod]at this;simpa using this
theorem akl(m:Nat):bits .or .u8 ((m:Int)%128) 128=(m:Int)%128+128:=by
 have:=u8_or_nat (m%128) 128 (by omega) (by omega);have e:m%128 ||| 128=m%128+128:=by
  have:=Nat.two_pow_add_eq_or_of_lt (i:=7) (b:=m%128) (by omega) 1;rw[Nat.or_comm];have e7:(2:Nat) ^ 7*1=128:=rfl;rw[e7]at this;omega
 rw[e]at this;simpa using this
theorem aeG(m:Nat)(h:m<128):bits .and .u8 ((m:Int)+128) 127=(m:Int):=by
 have:=u8_and_nat (m+128) 127 (by omega) (by omega);rw[show(127:Nat)=2 ^ 7 - 1 from rfl,Nat.and_two_pow_sub_one_eq_mod,show(m+128)%2 ^ 7=m by omega]at this;simpa using this
theorem put_any(n:Nat)(w:World)(hn:In64 n) :
 Calls prog 35 #[.int .u64 (n:Int)] w (aj w (.string ⟨(dY n).toArray⟩)):=by
 have h10:=iJ hn
 have hp:=yj n
 have hmk:=run_make_row' (P:=prog) 42 5 (.int .u8 0) 1 underlying42 UU rfl .i64 .i64 (fH n) (by omega) (by omega)
 go_enter func35,ntmps35
 go_wp2_with(go_at_call 78;refine(size_any n _ hn).mono ?_;rintro e w' ⟨rfl,rfl⟩)
 clear hmk
 have HN:=ah hn
 clear hn
 go_loopw [0,10] (fun nn k wr=>∃(i m:Nat) (C:Array Value),i≤fH n∧k=.int .i64 (i:Int)∧nn=.int .u64 (m:Int)∧wr=w.alloc (.cells C 5)∧Lay n (fH n) i m C∧In64 m) (fun _ k _=>fH n - (intOf k).toNat)
 case atStart=>exact⟨0,n,_,aW _,rfl,rfl,rfl,Lay.start _ _,HN.out⟩
 case round=>
  obtain⟨i,m,C,hi,rfl,rfl,rfl,hl,hm⟩:=hrel;have HL:=ah hl;have HM:=ah hm;have e1:=aeF m hm;have e2:=akl m;clear hm hl;by_cases hlt:i<fH n
  ·have hc:=HL.out.at_ hlt
   go_wp2;go_roundw
   case rel=>exact⟨i+1,m / 128,_,by omega,by go_num,by go_num,rfl,HL.out.step hlt,Nat.lt_of_le_of_lt (Nat.div_le_self _ _) HM.out⟩
   case measure=>simp[intOf];omega
  have hi':i=fH n:=by omega
  obtain⟨d1,d2⟩:=HL.out.done hi';have ht:=Wp n;generalize hq:n / 128 ^ (fH n - 1)=q at d1 d2 ht;have e3:=aeG q ht;have D2:=ah d2;have hcv:=Pn (P:=prog) (w.alloc (.cells (C.setIfInBounds (fH n - 1) (.int .u8 (q:Int))) 5)) 42 9 5 w.heap.size (fH n) (fH n) _ (dY n) underlying42 underlying5 underlying9 (dU.made _ _ _) (fO n).symm (by rw[D2.out,← yO,List.take_length]);clear hi' d2 hq;go_wp2;go_ret;exact⟨rfl,ba b0 _⟩
def Gt(l:List UInt8)(i acc:Nat):Prop:=In64 acc∧(i<10→acc<128 ^ i∧dQ l=pV i acc (l.drop i))∧(i=10→dQ l=(0,0,3))
theorem mask127(c:UInt8):bits .and .u8 (c.toNat:Int) 127=(c.toNat:Int)%128:=by
 have:=u8_and_nat c.toNat 127 c.toNat_lt (by omega);rw[show(127:Nat)=2 ^ 7 - 1 from rfl,Nat.and_two_pow_sub_one_eq_mod]at this;simpa using this
theorem drop_at(s:ByteArray)(i:Nat)(hi:i<s.size):s.data.toList.drop i=s[i]::s.data.toList.drop (i+1):=by
 rw[bI (by simpa using hi)];rfl
theorem drop_end(s:ByteArray)(i:Nat)(hi:s.size≤i):s.data.toList.drop i=[]:=by
 apply List.drop_eq_nil_of_le;simpa using hi
theorem acN(i:Nat):128 ^ i=2 ^ (7*i):=by rw[Nat.pow_mul]
theorem acz(acc c i:Nat)(ha:In64 acc):∃X:Nat,bits .or .u64 (acc:Int) (IntKind.u64.wrap ((c:Int)%128*2 ^ (7*i)))=(X:Int)∧In64 X∧(acc<128 ^ i→i<10→(i=9→c%128≤1)→X=acc+c%128*128 ^ i):=by
 have e1:((c:Int)%128*2 ^ (7*i))=((c%128*128 ^ i:Nat):Int):=by rw[acN];push_cast;rfl
 have e2:∀y:Nat,IntKind.u64.wrap (y:Int)=((y%18446744073709551616:Nat):Int):=fun y=>by rw[IntKind.wrap_u64];omega
 have hlt:c%128*128 ^ i%18446744073709551616<18446744073709551616:=Nat.mod_lt _ (by omega);refine⟨acc ||| (c%128*128 ^ i%18446744073709551616),?_,?_,?_⟩
 ·rw[e1,e2];exact bits_or_u64_nat _ _ ha.out hlt
 ·exact Nat.or_lt_two_pow (n:=64) ha.out hlt
 intro h1 h2 h9;have hb:c%128*128 ^ i<18446744073709551616:=by
  by_cases e:i=9
  ·subst e
   have:=h9 rfl;have:c%128*128 ^ 9≤1*128 ^ 9:=Nat.mul_le_mul_right _ this;exact Nat.lt_of_le_of_lt this (by decide)
  have h3:128 ^ i≤128 ^ 8:=Ph (by omega);have:c%128*128 ^ i≤127*128 ^ 8:=Nat.mul_le_mul (by omega) h3;exact Nat.lt_of_le_of_lt this (by decide)
 rw[Nat.mod_eq_of_lt hb,Nat.or_comm];rw[acN]at h1⊢;have:=Nat.two_pow_add_eq_or_of_lt h1 (c%128);rw[Nat.mul_comm (c%128),← this];omega
theorem Gt.next{l r:List UInt8}{i acc X:Nat}{c:UInt8}(h:Gt l i acc)(hi:i<10)(hd:l.drop i=c::r)(hr:l.drop (i+1)=r)(hc:128≤c.toNat)(hX:In64 X)
 (hv:acc<128 ^ i→i<10→(i=9→c.toNat%128≤1)→X=acc+c.toNat%128*128 ^ i):Gt l (i+1) X:=by
 obtain⟨h1,h2⟩:=h.2.1 hi
 rw[hd,pV,ay (by omega),aA hc]at h2
 refine⟨hX,fun h3=>?_,fun h3=>?_⟩
 ·have e:=hv h1 hi (fun h=>by omega)
  rw[hr,e];refine⟨?_,h2⟩;have:c.toNat%128*128 ^ i≤127*128 ^ i:=Nat.mul_le_mul_right _ (by omega);rw[Nat.pow_succ];omega
 ·rw[h2]
  have:10≤i+1:=by omega
  cases r<;>simp[pV,this]
theorem Gt.stop{l r:List UInt8}{i acc:Nat}{c:UInt8}(h:Gt l i acc)(hi:i<10)(hd:l.drop i=c::r)(hc:¬128≤c.toNat) :
 dQ l=if i=9∧1<c.toNat then(0,0,3)else if 0<i∧c.toNat=0 then(0,0,2)else(acc+c.toNat*128 ^ i,i+1,0):=by
 obtain⟨h1,h2⟩:=h.2.1 hi
 rw[hd,pV,ay (by omega),ay hc]at h2
 exact h2
theorem get_any(s:ByteArray)(w:World)(hs:s.size≤9223372036854775807) :
 Calls prog 36 #[.string s] w (aj w (.tuple #[.int .u64 ((dQ s.data.toList).1:Int),.int .i64 ((dQ s.data.toList).2.1:Int),.int .i64 ((dQ s.data.toList).2.2:Int)])):=by
 generalize hV:dQ s.data.toList=V
 have HV:=ah hV
 clear hV
 go_enter func36,ntmps36
 go_wp2
 all_goals
  go_loop [5,10] (fun nn k=>∃i acc:Nat,i≤10∧i≤s.size∧k=.int .i64 (i:Int)∧nn=.int .u64 (acc:Int)∧Gt s.data.toList i acc) (fun _ k=>10 - (intOf k).toNat)
  case atStart=>exact⟨0,0,by omega,by omega,rfl,rfl,by unfold In64;omega,fun _=>⟨by decide,rfl⟩,fun h=>by omega⟩
  case round=>
   obtain⟨i,acc,hi,his,rfl,rfl,hg⟩:=hrel;have HG:=ah hg;clear hg;by_cases hlt:i<s.size∧i<10
   ·obtain⟨hl1,hl2⟩:=hlt
    have em:=mask127 s[i];obtain⟨X,hX,wQ,Jv⟩:=acz acc s[i].toNat i HG.out.1;have HX:=ah (And.intro wQ Jv);have hd:=drop_at s i hl1;have HD:=ah hd;clear wQ Jv hd;by_cases h1:128≤s[i].toNat
    ·have hn:=HG.out.next hl2 HD.out rfl h1 HX.out.1 HX.out.2
     have QD:=ah hn;clear hn;go_wp2;go_round
     case rel=>exact⟨i+1,X,by omega,by omega,by go_num,rfl,QD.out⟩
     case measure=>simp[intOf];omega
    have hst:=HG.out.stop hl2 HD.out h1;rw[HV.out]at hst;by_cases h2:i=9∧1<s[i].toNat
    ·rw[aA h2]at hst
     obtain⟨h2a,h2b⟩:=h2;have HS:=ah hst;clear hst;have t9:((i:Int)==9)=true:=(by rw[bF];omega);have h2c:(1:Int)<(s[i].toNat:Int):=(by omega);clear h2a;go_wp2;go_ret3
     rw[HS.out];exact⟨rfl,Below.refl _ _⟩
    rw[ay h2]at hst;by_cases h3:0<i∧s[i].toNat=0
    ·rw[aA h3]at hst
     obtain⟨h3a,h3b⟩:=h3;have HS:=ah hst;have t0:((s[i].toNat:Int)==0)=true:=(by rw[bF];omega);have t1:¬(1:Int)<(s[i].toNat:Int):=(by omega);have p0:(0:Int)<(i:Int):=(by omega);have H3:=ah h3b;clear hst h3b h2;by_cases h9:i=9
     ·have t9:((i:Int)==9)=true:=by rw[bF];omega
      clear h9;go_wp2;go_ret3
      rw[HS.out];exact⟨rfl,Below.refl _ _⟩
     have t9:((i:Int)==9)=false:=(by rw[aB];omega);go_wp2;go_ret3
     rw[HS.out];exact⟨rfl,Below.refl _ _⟩
    rw[ay h3]at hst;have hX2:X=acc+s[i].toNat*128 ^ i:=by
     have:=HX.out.2 (HG.out.2.1 hl2).1 hl2 (fun h=>by omega);rw[this,Nat.mod_eq_of_lt (by omega)]
    rw[← hX2]at hst;have HS:=ah hst;have H2:=ah h2;have H3:=ah h3;clear hst hX2 h2 h3;by_cases h9:i=9
    ·have t9:((i:Int)==9)=true:=by rw[bF];omega
     have t1:¬(1:Int)<(s[i].toNat:Int):=(by have:=H2.out;omega);have t0:((s[i].toNat:Int)==0)=false:=(by rw[aB];have:=H3.out;omega);have p0:(0:Int)<(i:Int):=(by omega);clear h9;go_wp2;go_ret3
     rw[HS.out];exact⟨rfl,Below.refl _ _⟩
    have t9:((i:Int)==9)=false:=(by rw[aB];omega);by_cases p0:0<i
    ·have t0:((s[i].toNat:Int)==0)=false:=by rw[aB];have:=H3.out;omega
     go_wp2;go_ret3
     rw[HS.out];exact⟨rfl,Below.refl _ _⟩
    go_wp2;go_ret3
    rw[HS.out];exact⟨rfl,Below.refl _ _⟩
   by_cases h10:i=10
   ·have hst:=HG.out.2.2 h10
    rw[HV.out]at hst;have HS:=ah hst;clear hst;subst h10;go_wp2;go_ret3
    rw[HS.out];exact⟨rfl,Below.refl _ _⟩
   have hst:=(HG.out.2.1 (by omega)).2;rw[HV.out,drop_end s i (by omega),pV,ay (by omega)]at hst;have HS:=ah hst;clear hst
   first
    |(exfalso;omega)
    | (go_wp2
       go_ret3
       rw[HS.out]
       exact⟨rfl,Below.refl _ _⟩)
theorem next_any(b:Nat)(s:ByteArray)(k:Nat)(w:World)(h:fG w b s k) :
 Calls prog 174 #[.pointer (some ⟨b,0,none⟩)] w fun e w'=>
  e=.returned (.tuple #[.int .u64 ((dQ (s.data.toList.drop k)).1:Int),.int .i64 ((dQ (s.data.toList.drop k)).2.2:Int)])∧fG w' b s (k+(dQ (s.data.toList.drop k)).2.1)∧w.grownBy w' (some b):=by
 have H:=ah h
 have hk:=h.2.1
 have hs:=h.2.2
 generalize hV:dQ (s.data.toList.drop k)=V
 obtain⟨n,m,g⟩:=V
 simp only
 have HV:=ah hV
 clear h hV
 go_enter func174,ntmps174
 go_wp2_with(go_at_call 213;refine(afT b s k _ H.out).mono ?_;rintro e w1 ⟨rfl,hb1⟩)
 refine(get_any _ _ (by simp;omega)).mono ?_
 rintro e w2 ⟨rfl,hb2⟩
 rw[BG,HV.out]
 have hc:fG w2 b s k:=⟨(H.out.1.below hb1 H.out.1.lt).below hb2 (by have:=hb1.size;have:=H.out.1.lt;omega),hk,hs⟩
 have HC:=ah hc
 clear hc
 by_cases hv:g=0
 ·subst hv
  have hk2:=nZ (s:=s.data.toList.drop k) (by rw[HV.out]);rw[HV.out]at hk2;obtain⟨k1,k2,k3,k4,k5⟩:=hk2;simp only at k1 k2 k3;rw[aN,fK]at k2;clear k4 k5;go_wp2_with(go_at_call 214;refine(D6 b s k (m:Int) _ HC.out (by omega) (by omega)).mono ?_;rintro e w3 ⟨rfl,hc3,hg3⟩);go_ret2;exact⟨rfl,by simpa using hc3,jB (oH (bb hb1 hb2) _) hg3 (fun x e _=>e)⟩
 ·have Am:=PZ (s:=s.data.toList.drop k) (by rw[HV.out];exact hv)
  rw[HV.out]at Am;obtain⟨rfl,rfl⟩:n=0∧m=0:=by simpa using Am
  have hv2:((g:Int)==0)=false:=by rw[aB];omega
  have hv3:((g:Int) != 0)=true:=by rw[aZ];omega
  clear Am hv;go_wp2_with fail;go_ret2;exact⟨rfl,HC.out,oH (bb hb1 hb2) _⟩
def AllOf(S done:List Nat)(c:Nat)(R:List UInt8):Prop:=(if(yh R).2=0 then(done++(yh R).1,0)else([],(yh R).2))=(S,c)
theorem AllOf.start(l:List UInt8):AllOf (yh l).1 [] (yh l).2 l:=by
 unfold AllOf;split
 ·rename_i h;rw[h];rfl
 rename_i h;have:(yh l).1=[]:=by
  rw[yh]at h⊢;split
  ·rfl
  rename_i h1;rw[ay h1]at h;split
  ·rename_i h2;rw[dif_pos h2]at h
   simp only at h⊢;split
   ·rename_i h3;rw[aA h3]at h;simp at h
   rfl
  rfl
 rw[this]
theorem AllOf.stop{S done:List Nat}{c:Nat}(h:AllOf S done c []):S=done∧c=0:=by
 unfold AllOf at h;rw[yh]at h;simp at h;exact⟨h.1.symm,h.2.symm⟩
theorem AllOf.err{S done:List Nat}{c:Nat}{R:List UInt8}(h:AllOf S done c R)(hR:R.length≠0)(hv:(dQ R).2.2≠0):S=[]∧c=(dQ R).2.2:=by
 unfold AllOf at h;rw[yh,ay hR,dif_neg hv]at h;simp[hv]at h;exact⟨h.1,h.2.symm⟩
theorem AllOf.next{S done:List Nat}{c:Nat}{R:List UInt8}(h:AllOf S done c R)(hR:R.length≠0)(hv:(dQ R).2.2=0):AllOf S (done++[(dQ R).1]) c (R.drop (dQ R).2.1):=by
 unfold AllOf at h⊢;rw[yh,ay hR,dif_pos hv]at h;simp only at h;rw[← h];split<;>simp
theorem uV(n:Nat)(w:World)(hn:In64 n) :
 Calls prog 70 #[.int .u64 (n:Int)] w (aj w (.string (txt (dY n)))):=by
 have HN:=ah hn
 have h10:=iJ hn
 clear hn
 go_enter func70,ntmps70
 go_wp2
 go_loopw [0,3] (fun nn sl wr=>∃(m:Nat) (t:ByteArray),nn=.int .u64 (m:Int)∧sl=.string t∧t.data.toList++dY m=dY n∧In64 m∧Below w.heap.size w wr) (fun nn _ _=>(intOf nn).toNat)
 case atStart=>exact⟨n,⟨#[]⟩,rfl,rfl,by simp,HN.out,b0⟩
 case round=>
  obtain⟨m,t,rfl,rfl,ht,hm,hbel⟩:=hrel;have HT:=ah ht;have HM:=ah hm;have HB:=ah hbel;clear ht hm hbel;by_cases h:m<128
  ·have hcv:=Pn (P:=prog) (wr.alloc (.cells #[.int .u8 (m:Int)] 5)) 42 9 5 wr.heap.size 1 1 _ [UInt8.ofNat m] underlying42 underlying5 underlying9 (dU.made _ _ _) rfl (by simp[oO];omega)
   have hl:t.size≤10:=by
    have:=congrArg List.length HT.out;rw[aC,fO,fO,fK]at this;omega
   go_wp2;go_ret;refine⟨?_,ba HB.out _⟩;rw[← HT.out,kL h];rfl
  have hcv:=Pn (P:=prog) (wr.alloc (.cells #[.int .u8 ((m:Int)%128+128)] 5)) 42 9 5 wr.heap.size 1 1 _ [UInt8.ofNat (m%128+128)] underlying42 underlying5 underlying9 (dU.made _ _ _) rfl (by simp[oO];omega);have hl:t.size≤10:=by
   have:=congrArg List.length HT.out;rw[aC,fO,fO,fK]at this;omega
  have hwr:IntKind.u64.wrap ((m:Int) / 128)=(m:Int) / 128:=by
   rw[IntKind.wrap_u64];have:=HM.out.out;omega
  go_wp2;go_roundw
  case rel=>
   refine⟨m / 128,_,by go_num,rfl,?_,Nat.lt_of_le_of_lt (Nat.div_le_self _ _) HM.out,ba HB.out _⟩;rw[← HT.out,EZ (n:=m) (by omega),ByteArray.data_append,Array.toList_append];simp
  case measure=>simp[intOf];omega
def Sz(s:ByteArray)(i z:Nat):Prop:=(z=0∧VI s.data.toList=Hr i (s.data.toList.drop i))∨(0<z∧VI s.data.toList=z)
theorem Sz.more{s:ByteArray}{i:Nat}(h:Sz s i 0)(hi:i<s.size)(h10:i<10)(hc:128≤s[i].toNat):Sz s (i+1) 0:=by
 rcases h with⟨_,h⟩|⟨h,_⟩
 ·rw[drop_at s i hi,Hr,ay (by omega),ay (by omega)]at h
  exact .inl ⟨rfl,h⟩
 omega
theorem Sz.last{s:ByteArray}{i:Nat}(h:Sz s i 0)(hi:i<s.size)(h10:i<10)(hc:s[i].toNat<128):Sz s (i+1) (i+1):=by
 rcases h with⟨_,h⟩|⟨h,_⟩
 ·rw[drop_at s i hi,Hr,ay (by omega),aA hc]at h
  exact .inr ⟨by omega,h⟩
 omega
theorem Sz.end_{s:ByteArray}{i z:Nat}(h:Sz s i z)(he:s.size≤i∨10≤i∨z≠0):VI s.data.toList=z:=by
 rcases h with⟨rfl,h⟩|⟨_,h⟩
 ·rw[h]
  rcases he with he|he|he
  ·rw[drop_end s i he];rfl
  ·cases s.data.toList.drop i<;>simp[Hr,he]
  omega
 exact h
theorem getD_at(s:ByteArray)(i:Nat)(hi:i<s.size):s.data.toList.getD i 0=s[i]:=by
 simp[List.getD,hi];rfl
theorem adF(l:List UInt8):∀i,Cm l i<128 ^ i
 |0=>by simp[Cm]
 |i+1=>by
   have:=adF l i;have h:(l.getD i 0).toNat%128*128 ^ i≤127*128 ^ i:=Nat.mul_le_mul_right _ (by omega);rw[Cm,Nat.pow_succ];omega
def Vc(l:List UInt8)(j acc u:Nat):Prop:=acc=Cm l j∧(j<10→u=128 ^ j)∧In64 acc
theorem Wu(x:Nat):IntKind.u64.wrap (x:Int)=((x%18446744073709551616:Nat):Int):=by rw[IntKind.wrap_u64];omega
theorem Vc.step{l:List UInt8}{j acc u c:Nat}(h:Vc l j acc u)(hj:j<10)(hc:(l.getD j 0).toNat=c)(h9:j=9→c≤1) :
 ∃P X U:Nat,IntKind.u64.wrap ((c:Int)%128*(u:Int))=(P:Int)∧IntKind.u64.wrap ((acc:Int)+(P:Int))=(X:Int)∧IntKind.u64.wrap ((u:Int)*128)=(U:Int)∧Vc l (j+1) X U:=by
 obtain⟨rfl,hu,h64⟩:=h
 have hu:=hu hj
 subst hu
 have hlt:=adF l j
 have e1:((c:Int)%128*((128 ^ j:Nat):Int))=((c%128*128 ^ j:Nat):Int):=by push_cast;rfl
 have hb:Cm l j+c%128*128 ^ j<18446744073709551616:=by
  by_cases e:j=9
  ·subst e
   have:=h9 rfl;have:c%128*128 ^ 9≤1*128 ^ 9:=Nat.mul_le_mul_right _ (by omega);have h2:128 ^ 9+1*128 ^ 9≤18446744073709551616:=(by decide);omega
  have h3:128 ^ (j+1)≤128 ^ 9:=Ph (by omega);have:c%128*128 ^ j≤127*128 ^ j:=Nat.mul_le_mul_right _ (by omega);rw[Nat.pow_succ]at h3;have h2:128 ^ 9<18446744073709551616:=by decide
  omega
 refine⟨c%128*128 ^ j,Cm l j+c%128*128 ^ j,128 ^ j*128%18446744073709551616,?_,?_,?_,?_,?_,?_⟩
 ·rw[e1,Wu,Nat.mod_eq_of_lt (by omega)]
 ·rw[← Int.natCast_add,Wu,Nat.mod_eq_of_lt hb]
 ·have:(((128 ^ j:Nat):Int)*128)=((128 ^ j*128:Nat):Int):=by push_cast;rfl
  rw[this,Wu]
 ·rw[Cm,hc]
 ·intro h
  have h3:128 ^ (j+1)≤128 ^ 9:=Ph (by omega);have h2:128 ^ 9<18446744073709551616:=by decide
  rw[Nat.pow_succ]at h3⊢;exact Nat.mod_eq_of_lt (by omega)
 ·exact hb
theorem ZW(A1 A2:Option Addr)(c1 c2:Nat)(xs:List Nat)(w:World)(h1:Rd w A1 (mY xs))(h2:Rd w A2 (mY xs))(hl:xs.length≤1000000) :
 Calls prog 239 #[.slice A1 xs.length c1,.slice A2 xs.length c2] w (aj w (.bool true)):=by
 go_enter func239,ntmps239
 go_wp2
 go_loopw [13] (fun k wr=>∃i:Nat,i≤xs.length∧k=.int .i64 (i:Int)∧Below w.heap.size w wr) (fun k _=>xs.length - (intOf k).toNat)
 case atStart=>exact⟨0,by omega,rfl,b0⟩
 case round=>
  obtain⟨i,hi,rfl,hbel⟩:=hrel;by_cases hlt:i<xs.length
  ·obtain⟨d1,o1,rfl,_,e1⟩:=(h1.below hbel).at_ (k:=i) (by rw[adA];exact hlt)
   obtain⟨d2,o2,rfl,_,e2⟩:=(h2.below hbel).at_ (k:=i) (by rw[adA];exact hlt);rw[anj xs i hlt]at e1 e2;have HB:=ah hbel;have H1:=ah h1;have H2:=ah h2;clear hbel h1 h2;go_wp2;go_quiet(fail);go_wp2;go_roundw
   case rel=>exact⟨i+1,by omega,by go_num,bn HB.out _⟩
   case measure=>simp[intOf];omega
  have HB:=ah hbel;clear hbel h1 h2;go_wp2;go_ret;exact⟨rfl,HB.out⟩
def Rg(l:List UInt8)(i r:Nat):Prop:=r=Go.PM.cover 4294967295 (l.take i)∧r<4294967296
theorem Rg.step{s:ByteArray}{i r:Nat}(h:Rg s.data.toList i r)(hi:i<s.size):Rg s.data.toList (i+1) (lG 8 (r ^^^ s[i].toNat)):=by
 obtain⟨e,hlt⟩:=h;refine⟨?_,Y1 hlt s[i]⟩;have hl:i<s.data.toList.length:=by simpa using hi
 have hg:s.data.toList[i]=s[i]:=by simp;rfl
 rw[← aT hl,RV,← e,hg];rfl
def Rb(x k r:Nat):Prop:=lG (8 - k) r=x∧r<4294967296
theorem Rb.step{x k r:Nat}(h:Rb x k r)(hk:k<8):Rb x (k+1) (rW r):=by
 refine⟨?_,Zf h.2⟩;have e:=h.1;rw[show 8 - k=(8 - (k+1))+1 by omega]at e;exact e
theorem afN(n:Nat)(hn:n<4294967296):(#[.int .u8 ((n:Int)%256),.int .u8 ((n:Int) / 256%256),.int .u8 ((n:Int) / 65536%256),.int .u8 ((n:Int) / 16777216)]:Array Value).toList.take 4=oO (oG n):=by
 have e:∀k,k<256→(UInt8.ofNat k).toNat=k:=fun k hk=>by simp;omega
 simp only[oG,oO,List.map];rw[e _ (by omega),e _ (by omega),e _ (by omega),e _ (by omega)];have h1:(((n%256:Nat)):Int)=(n:Int)%256:=by omega
 have h2:(((n / 256%256:Nat)):Int)=(n:Int) / 256%256:=by omega
 have h3:(((n / 65536%256:Nat)):Int)=(n:Int) / 65536%256:=by omega
 have h4:(((n / 16777216%256:Nat)):Int)=(n:Int) / 16777216:=by omega
 rw[h1,h2,h3,h4];rfl
theorem afM(n:Nat)(w:World)(hn:n<4294967296) :
 Calls prog 50 #[.int .u32 (n:Int)] w (aj w (.string (txt (oG n)))):=by
 have hcv:=Pn (P:=prog) (w.alloc (.cells #[.int .u8 ((n:Int)%256),.int .u8 ((n:Int) / 256%256),.int .u8 ((n:Int) / 65536%256),.int .u8 ((n:Int) / 16777216)] 5)) 42 9 5 w.heap.size 4 4 _ (oG n) underlying42 underlying5 underlying9 (dU.made _ _ _) rfl (afN n hn)
 rw[show ByteArray.mk (oG n).toArray=txt (oG n)from rfl]at hcv
 go_enter func50,ntmps50
 go_wp2
 go_ret
 exact⟨rfl,ba b0 _⟩
theorem aiQ(a b c d:Nat)(ha:a<256)(hb:b<256)(hc:c<256)(hd:d<256) :
 bits .or .u32 (bits .or .u32 (bits .or .u32 ((a:Int)%4294967296) ((b:Int)%4294967296*256%4294967296)) ((c:Int)%4294967296*65536%4294967296)) ((d:Int)%4294967296*16777216%4294967296)=((a+b*256+c*65536+d*16777216:Nat):Int):=by
 have j1:a ||| b*256=a+b*256:=by rw[Nat.or_comm,nat_join 8 _ _ (by omega) (by omega)];omega
 have j2:(a+b*256) ||| c*65536=a+b*256+c*65536:=by rw[Nat.or_comm,nat_join 16 _ _ (by omega) (by omega)];omega
 have j3:(a+b*256+c*65536) ||| d*16777216=a+b*256+c*65536+d*16777216:=by rw[Nat.or_comm,nat_join 24 _ _ (by omega) (by omega)];omega
 rw[show(a:Int)%4294967296=(a:Int)by omega,show(b:Int)%4294967296*256%4294967296=((b*256:Nat):Int)by omega,show(c:Int)%4294967296*65536%4294967296=((c*65536:Nat):Int)by omega,show(d:Int)%4294967296*16777216%4294967296=((d*16777216:Nat):Int)by omega,
  u32_or_nat _ _ (by omega) (by omega),j1,u32_or_nat _ _ (by omega) (by omega),j2,u32_or_nat _ _ (by omega) (by omega),j3]
theorem afu(s:ByteArray)(h4:s.size=4):sU s.data.toList=s[0].toNat+s[1].toNat*256+s[2].toNat*65536+s[3].toNat*16777216:=by
 have hl:s.data.toList=[s[0],s[1],s[2],s[3]]:=by
  have e:=drop_at s 0 (by omega);rw[drop_at s 1 (by omega),drop_at s 2 (by omega),drop_at s 3 (by omega)]at e;rw[dD]at e;rw[e,List.drop_eq_nil_of_le (by simp;omega)]
 rw[hl];rfl
theorem aft(s:ByteArray)(w:World)(h4:s.size=4) :
 Calls prog 121 #[.string s] w (aj w (.tuple #[.int .u32 (sU s.data.toList:Int),.bool true])):=by
 have hj:=aiQ s[0].toNat s[1].toNat s[2].toNat s[3].toNat (by have:=s[0].toNat_lt;omega) (by have:=s[1].toNat_lt;omega) (by have:=s[2].toNat_lt;omega) (by have:=s[3].toNat_lt;omega)
 rw[← afu s h4]at hj
 generalize sU s.data.toList=V at hj
 have HJ:=ah hj
 clear hj
 go_enter func121,ntmps121
 go_wp2
 go_quiet(fail)
 go_wp2
 rw[HJ.out]
 go_ret2
 exact⟨rfl,bn b0 _⟩
def PN(k:Nat):List Value:=(List.range 16).map fun i=>.int .u32 (if i<k then(lG 4 i:Int)else 0)
def tab(k:Nat):Array Value:=(PN k).toArray
theorem VZ(k:Nat):(tab k).size=16:=by simp[tab,PN]
theorem KG(k i:Nat)(hi:i<16):(tab k)[i]?=some (.int .u32 (if i<k then(lG 4 i:Int)else 0)):=by
 simp[tab,PN,hi]
theorem am2(k:Nat)(hk:k<16):(tab k).setIfInBounds k (.int .u32 (lG 4 k:Int))=tab (k+1):=by
 apply Array.ext_getElem?;intro i;rw[Array.getElem?_setIfInBounds];by_cases hi:i<16
 ·rw[KG _ _ hi,KG _ _ hi,VZ]
  by_cases e:k=i
  ·subst e;simp[hk]
  rw[ay e];by_cases hik:i<k
  ·rw[aA hik,aA (by omega)]
  rw[ay hik,ay (by omega)]
 rw[Array.getElem?_eq_none (by rw[VZ];omega),Array.getElem?_eq_none (by rw[VZ];omega)];simp;omega
theorem PL:tab 0=#[.int .u32 0,.int .u32 0,.int .u32 0,.int .u32 0,.int .u32 0,.int .u32 0,.int .u32 0,.int .u32 0,.int .u32 0,.int .u32 0,.int .u32 0,.int .u32 0,.int .u32 0,.int .u32 0,.int .u32 0,.int .u32 0]:=rfl
theorem am1:∃v0 v1 v2 v3 v4 v5 v6 v7 v8 v9 v10 v11 v12 v13 v14 v15:Int,tab 16=#[.int .u32 v0,.int .u32 v1,.int .u32 v2,.int .u32 v3,.int .u32 v4,.int .u32 v5,.int .u32 v6,.int .u32 v7,.int .u32 v8,.int .u32 v9,.int .u32 v10,.int .u32 v11,.int .u32 v12,.int .u32 v13,.int .u32 v14,.int .u32 v15]:=⟨_,_,_,_,_,_,_,_,_,_,_,_,_,_,_,_,rfl⟩
theorem alp(g i:Nat)(w:World)(hg:dU w g 246 (tab i))(hi:i<16) :
 Calls prog 196 #[.int .i64 (i:Int),.pointer (some ⟨g,0,none⟩)] w fun e w'=>e=.returned (.tuple #[])∧dU w' g 246 (tab (i+1))∧w.grownBy w' (some g):=by
 have HG:=ah hg
 have c0:w.cell? ⟨g,i,none⟩=some (.int .u32 0):=by rw[hg.cell i,KG _ _ hi];simp
 have f0:=hg.free i
 clear hg
 have HR:Hid (Rb (lG 4 i) 4 i):=⟨rfl,by omega⟩
 generalize hY:lG 4 i=Y at HR
 have HY:=ah hY
 clear hY
 go_enter func196,ntmps196
 go_wp2
 go_loop [3,6] (fun rr kk=>∃k r:Nat,k≤4∧kk=.int .i64 (k:Int)∧rr=.int .u32 (r:Int)∧Rb Y (4+k) r) (fun _ k=>4 - (intOf k).toNat)
 case atStart=>exact⟨0,i,by omega,rfl,rfl,HR.out⟩
 case round=>
  obtain⟨k,q,hk,rfl,rfl,hrb⟩:=hrel;by_cases hk4:k<4
  ·have hst:=hrb.step (by omega)
   have hq:=hrb.2;have hand:bits .and .u32 (q:Int) 1=((q%2:Nat):Int):=(by rw[← nat_mask1];exact u32_and_nat q 1 hq (by omega));clear hrb;by_cases hodd:q%2=1
   ·have ho:(((q%2:Nat):Int)==1)=true:=by rw[bF];omega
    have hbx:bits .xor .u32 ((q:Int) / 2) 3988292384=((rW q:Nat):Int):=by
     unfold rW;rw[aA hodd,← u32_xor_nat _ _ (by omega) (by omega)];rfl
    generalize rW q=Q at hst hbx;have HST:=ah hst;clear hst hodd;go_wp2;go_round
    case rel=>exact⟨k+1,Q,by omega,by go_num,rfl,HST.out⟩
    case measure=>simp[intOf];omega
   have ho:(((q%2:Nat):Int)==1)=false:=(by rw[aB];omega);have hbx:((q:Int) / 2)=((rW q:Nat):Int):=by
    unfold rW;rw[ay hodd];omega
   have iy:=ah hbx;generalize rW q=Q at hst iy;have HST:=ah hst;clear hst hodd hbx;go_wp2;go_round
   case rel=>exact⟨k+1,Q,by omega,by go_num,by rw[iy.out],HST.out⟩
   case measure=>simp[intOf];omega
  obtain rfl:k=4:=by omega
  have hqy:q=Y:=hrb.1;subst hqy;clear hrb;go_wp2;go_end0
  refine⟨rfl,?_,aaN (NK _ _) _ _⟩;have:=HG.out.put i (.int .u32 (q:Int));rw[← HY.out,am2 i hi]at this;rw[← HY.out];exact this
theorem amX(w:World) :
 Calls prog 152 #[] w (aj w (.agg (tab 16))):=by
 go_enter func152,ntmps152
 go_wp2
 go_loopw [5] (fun k wr=>∃i:Nat,i≤16∧k=.int .i64 (i:Int)∧dU wr (w.heap.size+1) 246 (tab i)∧dU wr w.heap.size 246 (tab 0)∧Below w.heap.size w wr) (fun k _=>16 - (intOf k).toNat)
 case atStart=>
  refine⟨0,by omega,rfl,?_,?_,ba (ba b0 _) _⟩
  ·rw[PL]
   have:=dU.made (w.alloc (.cells #[.int .u32 0,.int .u32 0,.int .u32 0,.int .u32 0,.int .u32 0,.int .u32 0,.int .u32 0,.int .u32 0,.int .u32 0,.int .u32 0,.int .u32 0,.int .u32 0,.int .u32 0,.int .u32 0,.int .u32 0,.int .u32 0] 246)) 246 #[.int .u32 0,.int .u32 0,.int .u32 0,.int .u32 0,.int .u32 0,.int .u32 0,.int .u32 0,.int .u32 0,.int .u32 0,.int .u32 0,.int .u32 0,.int .u32 0,.int .u32 0,.int .u32 0,.int .u32 0,.int .u32 0];simpa using this
  rw[PL];exact(dU.made w _ _).more _
 case round=>
  obtain⟨i,hi,rfl,hb,hz,hw⟩:=hrel;have HZ:=ah hz;have hgt:=hz.lt;clear hz;have HB:=ah hb;have HW:=ah hw;clear hb hw;by_cases h16:i<16
  ·go_wp2_with fail
   refine(alp _ i _ HB.out h16).mono ?_;rintro e w1 ⟨rfl,hb1,hg1⟩;have hw1:=bg HW.out hg1 (by omega);have HZ1:=ah (HZ.out.step hg1 (by intro e;injection e with e;omega));have HB1:=ah hb1;have HW1:=ah hw1;clear hb1 hw1 hg1;go_wp2;go_round
   case rel=>exact⟨i+1,by omega,by go_num,HB1.out,HZ1.out,HW1.out⟩
   case measure=>simp[intOf];omega
  obtain rfl:i=16:=by omega
  obtain⟨v0,v1,v2,v3,v4,v5,v6,v7,v8,v9,v10,v11,v12,v13,v14,v15,hv⟩:=am1;have hb:=HB.out;rw[hv]at hb;have c0:wr.cell? ⟨w.heap.size+1,0,none⟩=some (.int .u32 v0):=hb.cell 0;have c1:wr.cell? ⟨w.heap.size+1,1,none⟩=some (.int .u32 v1):=hb.cell 1;have c2:wr.cell? ⟨w.heap.size+1,2,none⟩=some (.int .u32 v2):=hb.cell 2;have c3:wr.cell? ⟨w.heap.size+1,3,none⟩=some (.int .u32 v3):=hb.cell 3;have c4:wr.cell? ⟨w.heap.size+1,4,none⟩=some (.int .u32 v4):=hb.cell 4;have c5:wr.cell? ⟨w.heap.size+1,5,none⟩=some (.int .u32 v5):=hb.cell 5;have c6:wr.cell? ⟨w.heap.size+1,6,none⟩=some (.int .u32 v6):=hb.cell 6;have c7:wr.cell? ⟨w.heap.size+1,7,none⟩=some (.int .u32 v7):=hb.cell 7;have c8:wr.cell? ⟨w.heap.size+1,8,none⟩=some (.int .u32 v8):=hb.cell 8;have c9:wr.cell? ⟨w.heap.size+1,9,none⟩=some (.int .u32 v9):=hb.cell 9;have c10:wr.cell? ⟨w.heap.size+1,10,none⟩=some (.int .u32 v10):=hb.cell 10
  have c11:wr.cell? ⟨w.heap.size+1,11,none⟩=some (.int .u32 v11):=hb.cell 11;have c12:wr.cell? ⟨w.heap.size+1,12,none⟩=some (.int .u32 v12):=hb.cell 12;have c13:wr.cell? ⟨w.heap.size+1,13,none⟩=some (.int .u32 v13):=hb.cell 13;have c14:wr.cell? ⟨w.heap.size+1,14,none⟩=some (.int .u32 v14):=hb.cell 14;have c15:wr.cell? ⟨w.heap.size+1,15,none⟩=some (.int .u32 v15):=hb.cell 15;have hz:=HZ.out;rw[PL]at hz;have z0:wr.cell? ⟨w.heap.size,0,none⟩=some (.int .u32 0):=hz.cell 0;have f0:=hz.free 0;have z1:wr.cell? ⟨w.heap.size,1,none⟩=some (.int .u32 0):=hz.cell 1;have f1:=hz.free 1;have z2:wr.cell? ⟨w.heap.size,2,none⟩=some (.int .u32 0):=hz.cell 2;have f2:=hz.free 2;have z3:wr.cell? ⟨w.heap.size,3,none⟩=some (.int .u32 0):=hz.cell 3;have f3:=hz.free 3;have z4:wr.cell? ⟨w.heap.size,4,none⟩=some (.int .u32 0):=hz.cell 4;have f4:=hz.free 4
  have z5:wr.cell? ⟨w.heap.size,5,none⟩=some (.int .u32 0):=hz.cell 5;have f5:=hz.free 5;have z6:wr.cell? ⟨w.heap.size,6,none⟩=some (.int .u32 0):=hz.cell 6;have f6:=hz.free 6;have z7:wr.cell? ⟨w.heap.size,7,none⟩=some (.int .u32 0):=hz.cell 7;have f7:=hz.free 7;have z8:wr.cell? ⟨w.heap.size,8,none⟩=some (.int .u32 0):=hz.cell 8;have f8:=hz.free 8;have z9:wr.cell? ⟨w.heap.size,9,none⟩=some (.int .u32 0):=hz.cell 9;have f9:=hz.free 9;have z10:wr.cell? ⟨w.heap.size,10,none⟩=some (.int .u32 0):=hz.cell 10;have f10:=hz.free 10;have z11:wr.cell? ⟨w.heap.size,11,none⟩=some (.int .u32 0):=hz.cell 11;have f11:=hz.free 11;have z12:wr.cell? ⟨w.heap.size,12,none⟩=some (.int .u32 0):=hz.cell 12;have f12:=hz.free 12;have z13:wr.cell? ⟨w.heap.size,13,none⟩=some (.int .u32 0):=hz.cell 13;have f13:=hz.free 13;have z14:wr.cell? ⟨w.heap.size,14,none⟩=some (.int .u32 0):=hz.cell 14;have f14:=hz.free 14
  have z15:wr.cell? ⟨w.heap.size,15,none⟩=some (.int .u32 0):=hz.cell 15;have f15:=hz.free 15;clear hb hz;have hend:=(((((((((((((((HZ.out.put 0 (.int .u32 v0)).put 1 (.int .u32 v1)).put 2 (.int .u32 v2)).put 3 (.int .u32 v3)).put 4 (.int .u32 v4)).put 5 (.int .u32 v5)).put 6 (.int .u32 v6)).put 7 (.int .u32 v7)).put 8 (.int .u32 v8)).put 9 (.int .u32 v9)).put 10 (.int .u32 v10)).put 11 (.int .u32 v11)).put 12 (.int .u32 v12)).put 13 (.int .u32 v13)).put 14 (.int .u32 v14)).put 15 (.int .u32 v15);rw[PL]at hend;simp only[aF,List.set]at hend;rw[← hv]at hend;have HE:=ah hend;clear hend;go_wp2
  exact bodyPost_ret_by (results_cell_row results152 _ _ w.heap.size 246 (tab 16) (0,0) _ rfl HE.out underlying246 rfl (by kernel_rfl)) rfl ⟨rfl,(bs (bs (bs (bs (bs (bs (bs (bs (bs (bs (bs (bs (bs (bs (bs (bs HW.out (by simp) _) (by simp) _) (by simp) _) (by simp) _) (by simp) _) (by simp) _) (by simp) _) (by simp) _) (by simp) _) (by simp) _) (by simp) _) (by simp) _) (by simp) _) (by simp) _) (by simp) _) (by simp) _)⟩
theorem ae4(w:World):Calls prog 329 #[] w (aj w (.bool true)):=by
 go_enter func329,ntmps329;go_wp2_with(go_at_call 330;refine(aeK _).mono ?_;rintro e w' ⟨rfl,hb⟩);go_ret;exact⟨rfl,hb⟩
theorem anP:dY 300=[172,2]:=by
 rw[EZ (by omega),kL (by omega)];rfl
theorem aeL(w:World):Calls prog 328 #[] w (aj w (.bool true)):=by
 have e1:dQ [172,130,0]=(0,0,2):=by decide
 go_enter func328,ntmps328;go_wp2_with fail;refine(get_any _ _ (by decide)).mono ?_;rintro e w1 ⟨rfl,hb1⟩;simp only[e1];go_wp2_with fail;refine(ae4 _).mono ?_;rintro e w2 ⟨rfl,hb2⟩;go_wp2_with fail;refine(put_any 300 _ (by unfold In64;omega)).mono ?_;rintro e w3 ⟨rfl,hb3⟩;rw[anP];go_wp2_with fail;go_ret;exact⟨rfl,bb (bb hb1 hb2) hb3⟩
theorem ae5(w:World):Calls prog 327 #[] w (aj w (.bool true)):=by
 go_enter func327,ntmps327;go_wp2_with(go_at_call 328;refine(aeL _).mono ?_;rintro e w' ⟨rfl,hb⟩);go_ret;exact⟨rfl,hb⟩

end Go.Proofs.YtgidfnhfgiehjaaGreatDoor
namespace Go.PM
def sD:List Fs→Nat
 |[]=>0
 |f::L=>f.count+sD L
theorem U9:∀(L M:List Fs),sD (L++M)=sD L+sD M
 |[],M=>by simp[sD]
 |f::L,M=>by simp only[dI,sD,U9 L M];omega
def Fs.pR:Fs→Nat
 |.nil=>0
 |.cons _ _ _ _ i r=>i.count+r.pR
theorem Fs.DY:∀f:Fs,f.count=f.len+f.pR
 |.nil=>rfl
 |.cons _ _ _ _ i r=>by simp only[Fs.count,Fs.len,Fs.pR,Fs.DY r];omega
/-! ### Depth -/
def Fs.depth:Fs→Nat
 |.nil=>0
 |.cons _ y _ _ i r=>if y=2∨0<i.len then max (1+i.depth) r.depth else r.depth
def Fs.more:Fs→Bool
 |.nil=>false
 |.cons _ y _ _ i r=>decide (y=2∨0<i.len)||r.more
/-! ### Whether two lists are one -/
def Fs.same:Fs→Fs→Bool
 |.nil,.nil=>true
 |.cons t y n s i r,.cons t' y' n' s' i' r'=>decide (t=t'∧y=y'∧n=n'∧s=s')&&(i.same i'&&r.same r')
 |_,_=>false
theorem same_iff:∀f g:Fs,f.same g=true↔f=g
 |.nil,.nil=>by simp[Fs.same]
 |.nil,.cons ..=>by simp[Fs.same]
 |.cons ..,.nil=>by simp[Fs.same]
 |.cons t y n s i r,.cons t' y' n' s' i' r'=>by
   have h1:=same_iff i i';have h2:=same_iff r r';simp only[Fs.same,bT,bG,h1,h2,Fs.cons.injEq,and_assoc]
theorem amA(f:Fs):f.same f=true:=(same_iff f f).2 rfl
theorem amx{f g:Fs}(h:f≠g):f.same g=false:=by
 cases e:f.same g with
 |false=>rfl
 |true=>exact aJ ((same_iff f g).1 e) h
theorem VN{f g:Fs}(h:f.len≠g.len):f.same g=false:=amx fun e=>h (by rw[e])
def uS(L:List (Fs×Fs)):Bool:=L.all fun p=>p.1.same p.2

def lI(e:Nat)(R t:List UInt8):List (List UInt8)×Nat×List UInt8:=if e=0 then fZ (R++t)else([],e,R)
def aeo(R:List UInt8)(need:Nat):Prop:=∀b,(R++b).length<need→(gq (R++b)).2.2=1
def St(R:List UInt8)(need e:Nat):Prop:=e=0→(gq R).2.2=1∧aeo R need
theorem St.new:St [] 0 0:=fun _=>⟨rfl,fun b h=>by omega⟩
theorem ag5{R:List UInt8}{need e:Nat}(h:St R need e):lI e R []=([],e,R):=by
 unfold lI;by_cases h0:e=0
 ·rw[aA h0,bQ,BH (h h0).1,h0]
 rw[ay h0]
theorem aal(e:Nat)(R t p:List UInt8):lI e R (t++p)=
 if(lI e R t).2.1=0 then((lI e R t).1++(fZ ((lI e R t).2.2++p)).1,(fZ ((lI e R t).2.2++p)).2)else lI e R t:=by
 unfold lI
 by_cases h0:e=0
 ·simp only[aA h0]
  rw[← bP,ahj p (R++t)]
 ·simp only[ay h0]
theorem aam(t:List UInt8):lI 0 [] t=fZ t:=by unfold lI;rw[aA rfl,List.nil_append]
theorem St.keep{R p:List UInt8}{need:Nat}(h:St R need 0)(hl:(R++p).length<need):St (R++p) need 0∧fZ (R++p)=([],0,R++p):=by
 have h1:=(h rfl).2 p hl;refine⟨fun _=>⟨h1,fun b hb=>?_⟩,BH h1⟩;rw[bP]at hb⊢;exact(h rfl).2 _ hb
theorem St.fZ(s:List UInt8):St (Go.PM.fZ s).2.2 (if(Go.PM.fZ s).2.1=0 then wP (Go.PM.fZ s).2.2 else 0) (Go.PM.fZ s).2.1:=by
 intro h0;rw[aA h0];rcases ahm s with⟨_,h⟩|⟨h,_⟩
 ·exact⟨h,fun b hb=>ahg _ b h hb⟩
 exact aJ h0 h
theorem aaA:∀s,(Go.PM.fZ s).1.length+(Go.PM.fZ s).2.2.length≤s.length:=by
 refine Ti ?_ ?_ ?_
 ·intro s h;rw[BH h];simp
 ·intro s h ih
  have hk:=Gy h;rw[Gx h];simp only[bK];rw[aN]at ih;omega
 intro s h h1;rw[Gw h h1];simp
def flat(l:List ByteArray):List UInt8:=l.flatMap fun x=>x.data.toList
theorem aaw{l:List ByteArray}{k:Nat}(h:k<l.length):flat (l.take (k+1))=flat (l.take k)++l[k].data.toList:=by
 unfold flat
 rw[← aT h,List.flatMap_append];simp
theorem ahc(l:List ByteArray)(k:Nat):(flat (l.take k)).length≤(flat l).length:=by
 unfold flat
 conv=>rhs;rw[← dG k l]
 rw[List.flatMap_append,aC];omega
