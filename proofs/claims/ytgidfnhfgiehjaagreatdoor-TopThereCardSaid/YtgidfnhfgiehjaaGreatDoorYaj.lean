/-
  Parts of the proof. Conditions: as each names.
-/
import Derived.Test.YtgidfnhfgiehjaaGreatDoorYaf
import Derived.Test.YtgidfnhfgiehjaaGreatDoorYag
namespace Go.Proofs.YtgidfnhfgiehjaaGreatDoor
open Go.PM Go.RowKit Go.Proofs.Tryz
set_option maxRecDepth 100000
def nP(n:Int):Nat:=if 0≤n then(2*n).toNat else(-2*n - 1).toNat
def uj(z:Nat):Int:=if z%2=0 then((z / 2:Nat):Int)else -((z / 2:Nat):Int) - 1
theorem aob{n:Int}(h:iK n):In64 (nP n):=by unfold nP In64;unfold iK at h;split<;>omega
theorem an5{z:Nat}(h:In64 z):iK (uj z):=by unfold uj iK;unfold In64 at h;split<;>omega
theorem an4(a:Nat)(h:a<18446744073709551616):a ^^^ 18446744073709551615=18446744073709551615 - a:=by
 have e:(BitVec.ofNat 64 a ^^^ BitVec.allOnes 64).toNat=(~~~BitVec.ofNat 64 a).toNat:=by rw[BitVec.xor_allOnes]
 rw[BitVec.toNat_xor,BitVec.toNat_not,BitVec.toNat_ofNat,BitVec.toNat_allOnes]at e;rw[Nat.mod_eq_of_lt (by omega)]at e;omega
theorem map_eq(n:Int)(h:iK n):bits .xor .u64 (IntKind.u64.wrap (IntKind.u64.wrap n*2)) (IntKind.u64.wrap (n / 9223372036854775808))=(nP n:Int):=by
 unfold iK at h;unfold nP;rw[IntKind.wrap_u64,IntKind.wrap_u64,IntKind.wrap_u64];by_cases h0:0≤n
 ·rw[aA h0]
  have e1:n%18446744073709551616*2%18446744073709551616=((2*n).toNat:Int):=by omega
  have e2:n / 9223372036854775808%18446744073709551616=((0:Nat):Int):=by omega
  rw[e1,e2,bits_xor_u64_nat _ _ (by omega) (by omega),Nat.xor_zero]
 rw[ay h0];have e1:n%18446744073709551616*2%18446744073709551616=((18446744073709551616+2*n).toNat:Int):=by omega
 have e2:n / 9223372036854775808%18446744073709551616=((18446744073709551615:Nat):Int):=by omega
 rw[e1,e2,bits_xor_u64_nat _ _ (by omega) (by omega),an4 _ (by omega)];omega
theorem and_one(z:Nat)(h:In64 z):bits .and .u64 (z:Int) 1=(z:Int)%2:=by
 have:=bits_and_u64_nat z 1 h.out (by omega);rw[Nat.and_one_is_mod]at this;simpa using this
theorem back_eq(z:Nat)(h:In64 z):bits .xor .i64 (wrap64 ((z:Int) / 2)) (wrap64 (-wrap64 (bits .and .u64 (z:Int) 1)))=uj z:=by
 rw[and_one z h];unfold In64 at h;unfold uj;have e1:wrap64 ((z:Int) / 2)=((z / 2:Nat):Int):=by unfold wrap64;omega
 have o:∀a:Nat,a<9223372036854775808→(BitVec.ofInt 64 (a:Int)).toNat=a:=fun a ha=>by
  rw[BitVec.ofInt_natCast,BitVec.toNat_ofNat];exact Nat.mod_eq_of_lt (by omega)
 have ho:=o (z / 2) (by omega);by_cases h0:z%2=0
 ·rw[aA h0,e1]
  have e2:wrap64 (-wrap64 ((z:Int)%2))=((0:Nat):Int):=by unfold wrap64;omega
  rw[e2];show IntKind.i64.wrap ((BitVec.ofInt 64 ((z / 2:Nat):Int) ^^^ BitVec.ofInt 64 ((0:Nat):Int)).toNat:Int)=_;rw[BitVec.toNat_xor,ho,o 0 (by omega),Nat.xor_zero,IntKind.wrap_i64];omega
 rw[ay h0,e1];have e2:wrap64 (-wrap64 ((z:Int)%2)) = -1:=by unfold wrap64;omega
 rw[e2];show IntKind.i64.wrap ((BitVec.ofInt 64 ((z / 2:Nat):Int) ^^^ BitVec.ofInt 64 (-1)).toNat:Int)=_;have e3:BitVec.ofInt 64 (-1)=BitVec.allOnes 64:=by decide
 rw[e3,BitVec.xor_allOnes,BitVec.toNat_not,ho,IntKind.wrap_i64];omega
theorem ab6(n:Int)(w:World)(hn:iK n):Calls prog 88 #[.int .i64 n] w (aj w (.int .u64 (nP n:Int))):=by
 have HE:=ah (map_eq n hn);clear hn;go_enter func88,ntmps88;go_wp2;go_ret;rw[← HE.out];exact⟨rfl,b0⟩
theorem YT(z:Nat)(w:World)(hz:In64 z):Calls prog 140 #[.int .u64 (z:Int)] w (aj w (.int .i64 (uj z))):=by
 have HE:=ah (back_eq z hz);clear hz;go_enter func140,ntmps140;go_wp2;go_ret;rw[← HE.out];exact⟨rfl,b0⟩
theorem alC(n:Int)(w:World)(hn:iK n):Calls prog 117 #[.int .i64 n] w (aj w (.int .u64 (nP n:Int))):=by
 have HN:=ah hn;clear hn;by_cases h0:0≤n
 ·have e:IntKind.u64.wrap (2*IntKind.u64.wrap n)=(nP n:Int):=by
   have:=HN.out;unfold iK at this;unfold nP;rw[IntKind.wrap_u64,IntKind.wrap_u64,aA h0];omega
  have HE:=ah e;clear e;go_enter func117,ntmps117;go_wp2;go_ret;rw[← HE.out];exact⟨rfl,b0⟩
 have e:IntKind.u64.wrap (IntKind.u64.wrap (2*IntKind.u64.wrap (IntKind.u64.wrap (IntKind.u64.wrap (wrap64 (-wrap64 (n+1)))+1) - 1))+1)=(nP n:Int):=by
  have:=HN.out;unfold iK at this;unfold nP wrap64;simp only[IntKind.wrap_u64];rw[ay h0];omega
 have HE:=ah e;clear e;go_enter func117,ntmps117;go_wp2;go_ret;rw[← HE.out];exact⟨rfl,b0⟩
theorem aeM(w:World):Calls prog 326 #[] w (aj w (.bool true)):=by
 go_enter func326,ntmps326;go_wp2_with fail;refine(ae5 _).mono ?_;rintro e w1 ⟨rfl,hb1⟩;go_wp2_with fail;refine(ab6 (-3) _ (by unfold iK;omega)).mono ?_;rintro e w2 ⟨rfl,hb2⟩;rw[show nP (-3)=5 from by decide];go_wp2_with fail;refine(YT 5 _ (by unfold In64;omega)).mono ?_;rintro e w3 ⟨rfl,hb3⟩;rw[show uj 5 = -3 from by decide];go_wp2;go_ret;exact⟨rfl,bb (bb hb1 hb2) hb3⟩
theorem ae6(w:World):Calls prog 325 #[] w (aj w (.bool true)):=by
 go_enter func325,ntmps325;go_wp2_with(go_at_call 326;refine(aeM _).mono ?_;rintro e w' ⟨rfl,hb⟩);go_ret;exact⟨rfl,hb⟩
end Go.Proofs.YtgidfnhfgiehjaaGreatDoor
namespace Go.PM
def eu:Fs→List UInt8
 |.nil=>[]
 |.cons t y n s i r=>dY (4*t+y.toNat)++((if y=0 then dY n else if y=1 then dY s.size++s.data.toList else dY (eu i).length++eu i)++eu r)
theorem Jr:∀f g:Fs,eu (f.app g)=eu f++eu g
 |.nil,g=>rfl
 |.cons t y n s i r,g=>by simp only[Fs.app,eu,Jr r g,bP]
def Fs.tag:Fs→Nat
 |.nil=>0
 |.cons t _ _ _ _ _=>t
def Fs.last:Fs→Nat→Nat
 |.nil,l=>l
 |.cons t _ _ _ _ r,_=>r.last t
def kY:Fs→Nat→Nat→Prop
 |.nil,_,_=>True
 |.cons t y n s i r,ahead,within=>(ahead<t∧0<t∧t≤4294967296∧In64 n∧(y=0∧s=ByteArray.empty∧i=.nil∨y=1∧n=0∧i=.nil∧s.size≤9223372036854775807∨y=2∧n=0∧s=ByteArray.empty∧within<8∧kY i 0 (within+1)))∧kY r t within
def nJ(rec:List UInt8→Fs×Nat)(s:List UInt8)(deep last:Nat):Fs×Nat×Nat :=
 if(dQ s).2.2≠0 then(.nil,0,(dQ s).2.2)
 else if(dQ s).1 / 4=0∨4294967296<(dQ s).1 / 4 then(.nil,0,18)
 else if(dQ s).1%4=3 then(.nil,0,8)
 else if(dQ s).1 / 4≤last then(.nil,0,7)
 else if(dQ (s.drop (dQ s).2.1)).2.2≠0 then(.nil,0,(dQ (s.drop (dQ s).2.1)).2.2)
 else if(dQ s).1%4=0 then(.cons ((dQ s).1 / 4) 0 (dQ (s.drop (dQ s).2.1)).1 ByteArray.empty .nil .nil,(dQ s).2.1+(dQ (s.drop (dQ s).2.1)).2.1,0)
 else if s.length - ((dQ s).2.1+(dQ (s.drop (dQ s).2.1)).2.1)<(dQ (s.drop (dQ s).2.1)).1 then(.nil,0,1)
 else if(dQ s).1%4=1 then(.cons ((dQ s).1 / 4) 1 0 (txt ((s.drop ((dQ s).2.1+(dQ (s.drop (dQ s).2.1)).2.1)).take (dQ (s.drop (dQ s).2.1)).1)) .nil .nil,(dQ s).2.1+(dQ (s.drop (dQ s).2.1)).2.1+(dQ (s.drop (dQ s).2.1)).1,0)
 else if deep=8 then(.nil,0,9)
 else if(rec ((s.drop ((dQ s).2.1+(dQ (s.drop (dQ s).2.1)).2.1)).take (dQ (s.drop (dQ s).2.1)).1)).2≠0 then(.nil,0,(rec ((s.drop ((dQ s).2.1+(dQ (s.drop (dQ s).2.1)).2.1)).take (dQ (s.drop (dQ s).2.1)).1)).2)
 else(.cons ((dQ s).1 / 4) 2 0 ByteArray.empty (rec ((s.drop ((dQ s).2.1+(dQ (s.drop (dQ s).2.1)).2.1)).take (dQ (s.drop (dQ s).2.1)).1)).1 .nil,(dQ s).2.1+(dQ (s.drop (dQ s).2.1)).2.1+(dQ (s.drop (dQ s).2.1)).1,0)
def lJ(f:Fs)(q:Fs×Nat):Fs×Nat:=if q.2≠0 then(.nil,q.2)else(f.app q.1,0)
theorem ahw{f:Fs}{q:Fs×Nat}(h:(lJ f q).2=0):q.2=0∧lJ f q=(f.app q.1,0):=by
 unfold lJ at h⊢;by_cases e:q.2≠0
 ·rw[aA e]at h;exact aJ h e
 rw[ay e];exact⟨dH.1 e,rfl⟩
theorem xQ{f:Fs}{q:Fs×Nat}(h:q.2≠0):lJ f q=(.nil,q.2):=by unfold lJ;rw[aA h]
theorem vJ{f:Fs}{q:Fs×Nat}(h:q.2=0):lJ f q=(f.app q.1,0):=by unfold lJ;rw[ay (by rw[h];simp)]
def nX:Nat→List UInt8→Nat→Nat→Fs×Nat
 |0,_,_,_=>(.nil,0)
 |N+1,s,deep,last=>
   if s.length=0 then(.nil,0)
   else if(nJ (fun t=>nX N t (deep+1) 0) s deep last).2.2≠0 then(.nil,(nJ (fun t=>nX N t (deep+1) 0) s deep last).2.2)
   else lJ (nJ (fun t=>nX N t (deep+1) 0) s deep last).1 (nX N (s.drop (nJ (fun t=>nX N t (deep+1) 0) s deep last).2.1) deep (nJ (fun t=>nX N t (deep+1) 0) s deep last).1.tag)
def gV(s:List UInt8)(deep last:Nat):Fs×Nat:=nX s.length s deep last
def jH(s:List UInt8)(deep last:Nat):Fs×Nat×Nat:=nJ (fun t=>gV t (deep+1) 0) s deep last
theorem Tj{rec rec':List UInt8→Fs×Nat}{s:List UInt8}(deep last:Nat)(h:∀t:List UInt8,t.length+2≤s.length→rec t=rec' t):nJ rec s deep last=nJ rec' s deep last:=by
 unfold nJ;by_cases h1:(dQ s).2.2≠0
 ·rw[aA h1,aA h1]
 rw[ay h1,ay h1];have o1:=nZ (dH.1 h1);by_cases h2:(dQ s).1 / 4=0∨4294967296<(dQ s).1 / 4
 ·rw[aA h2,aA h2]
 rw[ay h2,ay h2];by_cases h3:(dQ s).1%4=3
 ·rw[aA h3,aA h3]
 rw[ay h3,ay h3];by_cases h4:(dQ s).1 / 4≤last
 ·rw[aA h4,aA h4]
 rw[ay h4,ay h4];by_cases h5:(dQ (s.drop (dQ s).2.1)).2.2≠0
 ·rw[aA h5,aA h5]
 rw[ay h5,ay h5];have o2:=nZ (dH.1 h5);rw[aN]at o2;rw[h ((s.drop ((dQ s).2.1+(dQ (s.drop (dQ s).2.1)).2.1)).take (dQ (s.drop (dQ s).2.1)).1) (by rw[bD,aN];omega)]
theorem Jq{rec:List UInt8→Fs×Nat}{s:List UInt8}{deep last:Nat}(h:(nJ rec s deep last).2.2=0) :
 ∃(t:Nat) (y:Int) (n:Nat) (x:ByteArray) (i:Fs) (k:Nat),nJ rec s deep last=(.cons t y n x i .nil,k,0)∧2≤k∧k≤s.length∧last<t∧0<t∧t≤4294967296∧In64 n∧
  (y=0∧x=ByteArray.empty∧i=.nil∧s.take k=dY (4*t)++dY n∨
   y=1∧n=0∧i=.nil∧x.size≤s.length∧s.take k=dY (4*t+1)++(dY x.size++x.data.toList)∨
   y=2∧n=0∧x=ByteArray.empty∧deep≠8∧∃u:List UInt8,u.length+2≤s.length∧rec u=(i,0)∧s.take k=dY (4*t+2)++(dY u.length++u)):=by
 unfold nJ at h⊢
 by_cases h1:(dQ s).2.2≠0
 ·rw[aA h1]at h;exact aJ h h1
 rw[ay h1]at h⊢
 obtain⟨a1,a2,_,a3,a4⟩:=nZ (dH.1 h1)
 by_cases h2:(dQ s).1 / 4=0∨4294967296<(dQ s).1 / 4
 ·rw[aA h2]at h;exact aJ h (by simp)
 rw[ay h2]at h⊢
 by_cases h3:(dQ s).1%4=3
 ·rw[aA h3]at h;exact aJ h (by simp)
 rw[ay h3]at h⊢
 by_cases h4:(dQ s).1 / 4≤last
 ·rw[aA h4]at h;exact aJ h (by simp)
 rw[ay h4]at h⊢
 by_cases h5:(dQ (s.drop (dQ s).2.1)).2.2≠0
 ·rw[aA h5]at h;exact aJ h h5
 rw[ay h5]at h⊢
 obtain⟨b1,b2,_,b3,b4⟩:=nZ (dH.1 h5)
 generalize hn:(dQ s).1=n at *
 generalize hk:(dQ s).2.1=k at *
 generalize hm:(dQ (s.drop k)).1=m at *
 generalize hj:(dQ (s.drop k)).2.1=j at *
 rw[aN]at b2
 have htk:∀e,s.take (k+j+e)=dY n++(dY m++(s.drop (k+j)).take e):=fun e=>by
  rw[List.take_add,List.take_add,← a4,← b4,bP]
 by_cases h6:n%4=0
 ·rw[aA h6]at h⊢
  refine⟨_,_,_,_,_,_,rfl,by omega,by omega,by omega,by omega,by omega,b3,.inl ⟨rfl,rfl,rfl,?_⟩⟩;have:=htk 0;simp only[Nat.add_zero,List.take_zero,bQ]at this;rw[this,show 4*(n / 4)=n by omega]
 rw[ay h6]at h⊢
 by_cases h7:s.length - (k+j)<m
 ·rw[aA h7]at h;exact aJ h (by simp)
 rw[ay h7]at h⊢
 have htl:((s.drop (k+j)).take m).length=m:=by rw[bD,aN];omega
 by_cases h8:n%4=1
 ·rw[aA h8]at h⊢
  refine⟨_,_,_,_,_,_,rfl,by omega,by omega,by omega,by omega,by omega,by unfold In64;omega,.inr (.inl ⟨rfl,rfl,rfl,by rw[gI,htl];omega,?_⟩)⟩;rw[htk m,gI,iD,htl,show 4*(n / 4)+1=n by omega]
 rw[ay h8]at h⊢
 by_cases h9:deep=8
 ·rw[aA h9]at h;exact aJ h (by simp)
 rw[ay h9]at h⊢
 by_cases h10:(rec ((s.drop (k+j)).take m)).2≠0
 ·rw[aA h10]at h;exact aJ h h10
 rw[ay h10]at h⊢
 refine⟨_,_,_,_,_,_,rfl,by omega,by omega,by omega,by omega,by omega,by unfold In64;omega,.inr (.inr ⟨rfl,rfl,rfl,h9,(s.drop (k+j)).take m,by rw[htl];omega,?_,?_⟩)⟩
 ·exact Prod.ext rfl (dH.1 h10)
 ·rw[htk m,htl,show 4*(n / 4)+2=n by omega]
theorem SY:∀(N:Nat) (s:List UInt8) (deep last:Nat),s.length≤N→nX (N+1) s deep last=nX N s deep last
 |0,s,deep,last,h=>by
   have:s.length=0:=(by omega);simp[nX,this]
 |N+1,s,deep,last,h=>by
   rw[nX.eq_def (N+1+1),nX.eq_def (N+1)];simp only[];by_cases h0:s.length=0
   ·rw[aA h0,aA h0]
   rw[ay h0,ay h0];have e:nJ (fun t=>nX (N+1) t (deep+1) 0) s deep last=nJ (fun t=>nX N t (deep+1) 0) s deep last:=Tj deep last fun t ht=>SY N t _ _ (by omega);rw[e];by_cases h1:(nJ (fun t=>nX N t (deep+1) 0) s deep last).2.2≠0
   ·rw[aA h1,aA h1]
   rw[ay h1,ay h1];obtain⟨t,y,n,x,i,k,hf,hk,hks,_⟩:=Jq (dH.1 h1);rw[hf];show lJ _ (nX (N+1) (s.drop k) deep t)=lJ _ (nX N (s.drop k) deep t);rw[SY N (s.drop k) deep t (by rw[aN];omega)]
theorem SX{N:Nat}{s:List UInt8}(deep last:Nat)(h:s.length≤N):nX N s deep last=gV s deep last:=by
 unfold gV;obtain⟨d,rfl⟩:=Nat.le.dest h;clear h;induction d with
 |zero=>rfl
 |succ d ih=>rw[← Nat.add_assoc,SY _ _ _ _ (by omega),ih]
theorem Gv(deep last:Nat):gV [] deep last=(.nil,0):=rfl
theorem Nv{s:List UInt8}{deep last:Nat}(h:s.length≠0)(h1:(jH s deep last).2.2≠0):gV s deep last=(.nil,(jH s deep last).2.2):=by
 obtain⟨N,hN⟩:∃N,s.length=N+1:=⟨s.length - 1,by omega⟩;have e:nJ (fun t=>nX N t (deep+1) 0) s deep last=jH s deep last:=Tj deep last fun t ht=>SX _ _ (by omega);unfold gV;rw[hN,nX,ay h,e,aA h1]
theorem Jp{s:List UInt8}{deep last:Nat}(h:s.length≠0)(h1:(jH s deep last).2.2=0) :
 gV s deep last=lJ (jH s deep last).1 (gV (s.drop (jH s deep last).2.1) deep (jH s deep last).1.tag):=by
 obtain⟨N,hN⟩:∃N,s.length=N+1:=⟨s.length - 1,by omega⟩
 have e:nJ (fun t=>nX N t (deep+1) 0) s deep last=jH s deep last:=Tj deep last fun t ht=>SX _ _ (by omega)
 obtain⟨t,y,n,x,i,k,hf,hk,hks,_⟩:=Jq (show(nJ (fun t=>gV t (deep+1) 0) s deep last).2.2=0 from h1)
 have hf':jH s deep last=(.cons t y n x i .nil,k,0):=hf
 have hu:gV s deep last=nX (N+1) s deep last:=by rw[← hN];rfl
 rw[hu,nX,ay h,e,ay (by rw[h1];simp),hf']
 show lJ _ (nX N (s.drop k) deep t)=lJ _ (gV (s.drop k) deep t)
 rw[SX _ _ (by rw[aN];omega)]
theorem Nw:∀(N:Nat) (s:List UInt8) (deep last:Nat),s.length≤N→deep≤8→s.length≤1000000→(gV s deep last).2=0→eu (gV s deep last).1=s∧kY (gV s deep last).1 last deep∧(gV s deep last).1.count≤s.length
 |N,s,deep,last,hN,hd,hs,h=>by
   by_cases h0:s.length=0
   ·obtain rfl:s=[]:=aV h0
    rw[Gv];exact⟨rfl,trivial,au _⟩
   by_cases h1:(jH s deep last).2.2≠0
   ·rw[Nv h0 h1]at h;exact aJ h h1
   have h1':=dH.1 h1;rw[Jp h0 h1']at h⊢;obtain⟨t,y,n,x,i,k,hf,hk,hks,ht,ht0,ht1,hn,hor⟩:=Jq (show(nJ (fun t=>gV t (deep+1) 0) s deep last).2.2=0 from h1');have hf':jH s deep last=(.cons t y n x i .nil,k,0):=hf;rw[hf']at h⊢;have h3:(lJ (.cons t y n x i .nil) (gV (s.drop k) deep t)).2=0:=h;show eu (lJ (.cons t y n x i .nil) (gV (s.drop k) deep t)).1=s∧kY (lJ (.cons t y n x i .nil) (gV (s.drop k) deep t)).1 last deep∧(lJ (.cons t y n x i .nil) (gV (s.drop k) deep t)).1.count≤s.length;obtain⟨h2,h4⟩:=ahw h3;rw[h4];clear h h3 h4
   match N,hN with
   |0,hN=>omega
   |N+1,hN=>
     obtain⟨g1,g2,g3⟩:=Nw N (s.drop k) deep t (by rw[aN];omega) hd (by rw[aN];omega) h2;generalize(gV (s.drop k) deep t).1=r at *;rw[aN]at g3;have hse:s=s.take k++s.drop k:=(dG k s).symm;rcases hor with⟨rfl,rfl,rfl,htk⟩|⟨rfl,rfl,rfl,hx,htk⟩|⟨rfl,rfl,rfl,hd8,u,hu,hru,htk⟩
     ·refine⟨?_,⟨⟨ht,ht0,ht1,hn,.inl ⟨rfl,rfl,rfl⟩⟩,g2⟩,?_⟩
      ·rw[hse,htk,← g1]
       simp[Fs.app,eu]
      simp only[Fs.app,Fs.count];omega
     ·refine⟨?_,⟨⟨ht,ht0,ht1,hn,.inr (.inl ⟨rfl,rfl,rfl,by omega⟩)⟩,g2⟩,?_⟩
      ·rw[hse,htk,← g1]
       simp[Fs.app,eu]
      simp only[Fs.app,Fs.count];omega
     have hu2:(gV u (deep+1) 0).2=0:=(by rw[hru]);obtain⟨e1,e2,e3⟩:=Nw N u (deep+1) 0 (by omega) (by omega) (by omega) hu2;rw[hru]at e1 e2 e3;simp only[]at e1 e2 e3;have Oy:u.length+2≤k:=by
      have:=congrArg List.length htk;simp only[bD,aC,fO]at this;have:=yj (4*t+2);have:=yj u.length;omega
     refine⟨?_,⟨⟨ht,ht0,ht1,hn,.inr (.inr ⟨rfl,rfl,rfl,by omega,e2⟩)⟩,g2⟩,?_⟩
     ·rw[hse,htk,← g1,← e1]
      simp[Fs.app,eu]
     simp only[Fs.app,Fs.count];omega
theorem S9(z:List UInt8):∀(f:Fs) (deep last:Nat),deep≤8→kY f last deep→(eu f).length≤1000000→
 gV (eu f++z) deep last=lJ f (gV z deep (f.last last))
 |.nil,deep,last,hd,_,_=>by
   show gV z deep last=lJ .nil (gV z deep last);by_cases h:(gV z deep last).2≠0
   ·rw[xQ h]
    by_cases h0:z.length=0
    ·obtain rfl:z=[]:=aV h0
     exact aJ rfl h
    by_cases h1:(jH z deep last).2.2≠0
    ·rw[Nv h0 h1]
    rw[Jp h0 (dH.1 h1)]at h⊢;generalize gV (z.drop (jH z deep last).2.1) deep (jH z deep last).1.tag=q at *;by_cases hq:q.2=0
    ·rw[vJ hq]at h;exact aJ rfl h
    rw[xQ hq]
   rw[vJ (dH.1 h)];exact Prod.ext rfl (dH.1 h)
 |.cons t y n x i r,deep,last,hd,hc,hl=>by
   obtain⟨⟨ht,ht0,ht1,hn,hor⟩,hcr⟩:=hc;have hr:=S9 z r deep t hd hcr (by rw[eu]at hl;simp only[aC]at hl;omega);have h4:4*t+y.toNat<18446744073709551616:=(by rcases hor with⟨rfl,_⟩|⟨rfl,_⟩|⟨rfl,_⟩<;>simp<;>omega);have hsz:=yj (4*t+y.toNat);generalize hb:(if y=0 then dY n else if y=1 then dY x.size++x.data.toList else dY (eu i).length++eu i)=B at *;have hft:eu (.cons t y n x i r)++z=dY (4*t+y.toNat)++(B++(eu r++z)):=(by rw[eu,hb];simp only[bP]);have hv1:=wW (4*t+y.toNat) h4 (B++(eu r++z));have hlb:(eu (.cons t y n x i r)).length=fH (4*t+y.toNat)+(B.length+(eu r).length):=(by rw[eu,hb];simp only[aC,fO]);rw[hlb]at hl;rw[hft];have hne:(dY (4*t+y.toNat)++(B++(eu r++z))).length≠0:=(by simp only[aC,fO];omega)
   have hdr:(dY (4*t+y.toNat)++(B++(eu r++z))).drop (fH (4*t+y.toNat))=B++(eu r++z):=by
    rw[← fO,dM]
   have hdiv:(4*t+y.toNat) / 4=t∧(4*t+y.toNat)%4=y.toNat:=(by rcases hor with⟨rfl,_⟩|⟨rfl,_⟩|⟨rfl,_⟩<;>simp<;>omega);have hone:jH (dY (4*t+y.toNat)++(B++(eu r++z))) deep last=(.cons t y n x i .nil,fH (4*t+y.toNat)+B.length,0):=by
    unfold jH nJ;rw[hv1];simp only[ne_eq,not_true_eq_false,if_false,hdiv.1,hdiv.2,hdr];rw[ay (by omega),ay (by rcases hor with⟨rfl,_⟩|⟨rfl,_⟩|⟨rfl,_⟩<;>simp),ay (by omega)];rcases hor with⟨rfl,rfl,rfl⟩|⟨rfl,rfl,rfl,hx⟩|⟨rfl,rfl,rfl,hd8,hci⟩
    ·have hB:B=dY n:=by rw[← hb];rfl
     have hv2:=wW n hn (eu r++z);rw[hB,hv2,ay (by simp),fO];rfl
    ·have hB:B=dY x.size++x.data.toList:=by rw[← hb];rfl
     have UK:x.size<18446744073709551616:=(by omega);have hv2:=wW x.size UK (x.data.toList++(eu r++z));rw[hB,bP,hv2,ay (by simp)];have hxl:x.data.toList.length=x.size:=fK x;rw[ay (by decide),ay (by simp only[aC,fO,hxl];omega),aA (by decide)];have e1:(dY (4*t+Int.toNat 1)++(dY x.size++(x.data.toList++(eu r++z)))).drop (fH (4*t+Int.toNat 1)+fH x.size)=x.data.toList++(eu r++z):=by
      rw[← bP,← fO,← fO,← aC,dM]
     rw[e1];have e2:(x.data.toList++(eu r++z)).take x.size=x.data.toList:=(by rw[← hxl,List.take_left]);rw[e2,Ci,aC,fO,hxl,Nat.add_assoc]
    have hB:B=dY (eu i).length++eu i:=(by rw[← hb];rfl);rw[hB,aC]at hl;have UK:(eu i).length<18446744073709551616:=(by omega);have hv2:=wW (eu i).length UK (eu i++(eu r++z));rw[hB,bP,hv2,ay (by simp)];rw[ay (by decide),ay (by simp only[aC,fO];omega),ay (by decide),ay (by omega)];have e1:(dY (4*t+Int.toNat 2)++(dY (eu i).length++(eu i++(eu r++z)))).drop (fH (4*t+Int.toNat 2)+fH (eu i).length)=eu i++(eu r++z):=by
     rw[← bP,← fO,← fO,← aC,dM]
    rw[e1];have e2:(eu i++(eu r++z)).take (eu i).length=eu i:=(by rw[List.take_left]);have hin:=S9 [] i (deep+1) 0 (by omega) hci (by omega);rw[bQ,Gv,vJ rfl,Fs.xJ]at hin;rw[e2,hin];simp only[not_true_eq_false,if_false];rw[aC,fO,Nat.add_assoc]
   have ahX:(dY (4*t+y.toNat)++(B++(eu r++z))).drop (fH (4*t+y.toNat)+B.length)=eu r++z:=by
    rw[← bP,← fO,← aC,dM]
   rw[Jp hne (by rw[hone]),hone];show lJ (.cons t y n x i .nil) (gV ((dY (4*t+y.toNat)++(B++(eu r++z))).drop (fH (4*t+y.toNat)+B.length)) deep t)=_;rw[ahX,hr];show lJ (.cons t y n x i .nil) (lJ r (gV z deep (r.last t)))=lJ (.cons t y n x i r) (gV z deep (r.last t));generalize gV z deep (r.last t)=q;by_cases hz:q.2=0
   ·rw[vJ hz,vJ hz,vJ rfl];rfl
   rw[xQ hz,xQ hz];exact xQ hz
end Go.PM
section
namespace Go.Proofs.YtgidfnhfgiehjaaGreatDoor
open Go.RowKit Go.PM
theorem aaM{y:Int}{n:Nat}{s:ByteArray}{i:Fs}:qB y n s i.len=true↔y=0∧s=ByteArray.empty∧i=.nil∨y=1∧n=0∧i=.nil∨y=2∧n=0∧s=ByteArray.empty:=by
 have hs:s.size=0↔s=ByteArray.empty:=⟨fun h=>AA h,fun h=>by rw[h];rfl⟩;have hi:i.len=0↔i=.nil:=⟨fun h=>Fs.jr h,fun h=>by rw[h];rfl⟩;unfold qB;by_cases y0:y=0
 ·subst y0;simp[hs,hi]
 by_cases y1:y=1
 ·subst y1;simp[hi]
 by_cases y2:y=2
 ·subst y2;simp[hs]
 simp[y0,y1,y2]
theorem xP:∀(f:Fs) (a w:Nat),f.All mF→w≤8→(fM f a w=0↔kY f a w)
 |.nil,a,w,_,_=>by simp[fM,kY]
 |.cons t y n s i r,a,w,hk,hw=>by
   have hr:=xP r t w hk.2.2 hw;rw[fM,kY];by_cases h1:t=0∨4294967296<t
   ·rw[aA h1];constructor
    ·intro h;cases h
    rintro⟨⟨_,_,_,_⟩,_⟩;omega
   rw[ay h1];by_cases h2:t≤a
   ·rw[aA h2];constructor
    ·intro h;cases h
    rintro⟨⟨_,_,_,_⟩,_⟩;omega
   rw[ay h2];by_cases h3:qB y n s i.len=false
   ·rw[aA h3];constructor
    ·intro h;cases h
    rintro⟨⟨_,_,_,_,h⟩,_⟩;have:qB y n s i.len=true:=aaM.2 (by
     rcases h with⟨h1,h2,h3⟩|⟨h1,h2,h3,_⟩|⟨h1,h2,h3,_⟩
     ·exact .inl ⟨h1,h2,h3⟩
     ·exact .inr (.inl ⟨h1,h2,h3⟩)
     ·exact .inr (.inr ⟨h1,h2,h3⟩))
    rw[this]at h3;cases h3
   rw[ay h3];have h3':=aaM.1 (by simpa using h3);have hbase:a<t∧0<t∧t≤4294967296∧In64 n:=⟨by omega,by omega,by omega,hk.1.2.2.1⟩;by_cases h4:y≠2
   ·rw[aA h4,hr]
    constructor
    ·intro h
     refine⟨⟨hbase.1,hbase.2.1,hbase.2.2.1,hbase.2.2.2,?_⟩,h⟩;rcases h3' with h|⟨h1,h2,h3⟩|h
     ·exact .inl h
     ·exact .inr (.inl ⟨h1,h2,h3,hk.1.2.2.2⟩)
     exact aJ h.1 h4
    exact fun h=>h.2
   rw[ay h4];have hy:y=2:=dH.1 h4;subst hy;have h5:n=0∧s=ByteArray.empty:=(by rcases h3' with⟨h,_⟩|⟨h,_⟩|⟨_,h⟩;cases h;cases h;exact h);by_cases h6:8≤w
   ·rw[aA h6];constructor
    ·intro h;cases h
    rintro⟨⟨_,_,_,_,h⟩,_⟩;rcases h with⟨h,_⟩|⟨h,_⟩|⟨_,_,_,h,_⟩
    ·cases h
    ·cases h
    omega
   rw[ay h6];have hi:=xP i 0 (w+1) hk.2.1 (by omega);by_cases h7:fM i 0 (w+1)≠0
   ·rw[aA h7];constructor
    ·intro h;exact aJ h h7
    rintro⟨⟨_,_,_,_,h⟩,_⟩;rcases h with⟨h,_⟩|⟨h,_⟩|⟨_,_,_,_,h⟩
    ·cases h
    ·cases h
    exact aJ (hi.2 h) h7
   rw[ay h7,hr];have h7':=hi.1 (dH.1 h7);exact⟨fun h=>⟨⟨hbase.1,hbase.2.1,hbase.2.2.1,hbase.2.2.2,.inr (.inr ⟨rfl,h5.1,h5.2,by omega,h7'⟩)⟩,h⟩,fun h=>h.2⟩
end Go.Proofs.YtgidfnhfgiehjaaGreatDoor
namespace Go.PM
theorem ag2:∀{f:Fs} {a a' w:Nat},a'≤a→kY f a w→kY f a' w
 |.nil,_,_,_,_,_=>trivial
 |.cons ..,_,_,_,h,hf=>⟨⟨by have:=hf.1.1;omega,hf.1.2⟩,hf.2⟩
theorem aak:∀{f g:Fs} {a w:Nat},kY (f.app g) a w↔kY f a w∧kY g (f.last a) w
 |.nil,g,a,w=>by simp[Fs.app,kY,Fs.last]
 |.cons t y n s i r,g,a,w=>by simp only[Fs.app,kY,Fs.last,aak (f:=r),and_assoc]
theorem Fs.take_drop:∀(f:Fs) (k:Nat),(f.take k).app (f.drop k)=f
 |f,0=>by cases f<;>rfl
 |.nil,_+1=>rfl
 |.cons t y n s i r,k+1=>by rw[Fs.take,Fs.drop,Fs.app,Fs.take_drop r k]
theorem Fs.All.take{P:Nat→Int→Nat→ByteArray→Prop}:∀{f:Fs} (k:Nat),f.All P→(f.take k).All P
 |f,0,_=>by cases f<;>trivial
 |.nil,_+1,_=>trivial
 |.cons ..,k+1,h=>⟨h.1,h.2.1,Fs.All.take k h.2.2⟩
end Go.PM
end
namespace Go.Proofs.YtgidfnhfgiehjaaGreatDoor
open Go.PM Go.RowKit Go.Proofs.Tryz
set_option maxRecDepth 100000
set_option maxHeartbeats 4000000
attribute [local go_sem ↓] Go.wp_at_zero Go.wp_at_succ
theorem akm(t y:Nat)(ht:t≤4294967296)(hy:y<4):bits .or .u64 ((t:Int)*4) (y:Int)=((4*t+y:Nat):Int):=by
 have h1:=bits_or_u64_nat (4*t) y (by omega) (by omega);have h2:=Nat.two_pow_add_eq_or_of_lt (i:=2) (b:=y) (by omega) t;rw[show(2:Nat) ^ 2*t=4*t by omega]at h2;rw[← h2]at h1;have e:((t:Int)*4)=((4*t:Nat):Int):=by omega
 rw[e];exact h1
theorem aa1(b o t:Nat)(y:Int)(w:World)(h0:w.cell? ⟨b,o,none⟩=some (.int .u64 (t:Int)))(h1:w.cell? ⟨b,o+1,none⟩=some (.int .i64 y))(ht:t≤4294967296)(hy:0≤y∧y≤2) :
 Calls prog 95 #[.pointer (some ⟨b,o,none⟩)] w (aj w (.int .u64 ((4*t+y.toNat:Nat):Int))):=by
 obtain⟨Y,rfl⟩:=bM hy.1
 have hor:=akm t Y ht (by omega)
 have hti:(t:Int)≤4294967296:=by omega
 have ht0:(0:Int)≤(t:Int)*4:=by omega
 have hYi:(Y:Int)≤2:=by omega
 rw[Int.toNat_natCast]
 clear hy
 generalize hX:(4*t+Y:Nat)=X at hor⊢
 clear hX
 go_enter func95,ntmps95
 go_wp2_with fail
 go_quiet(fail)
 go_wp2_with fail
 go_ret
 exact⟨rfl,bn b0 _⟩
theorem SN{f:Fs}{a d:Nat}(k:Nat)(h:kY f a d):∃a',kY (f.drop k) a' d:=by
 rw[← Fs.take_drop f k,aak]at h;exact⟨_,h.2⟩
theorem Tv(t:Nat)(y:Int)(n:Nat)(s:ByteArray)(i:Fs):(eu (.cons t y n s i .nil)).length=fH (4*t+y.toNat)+(if y=0 then dY n else if y=1 then dY s.size++s.data.toList else dY (eu i).length++eu i).length:=by
 simp only[eu,bQ,aC,fO]
theorem Tz{f:Fs}{k t n:Nat}{y:Int}{s:ByteArray}{i:Fs}(h:f.take (k+1)=(f.take k).app (.cons t y n s i .nil)):eu (f.take (k+1))=eu (f.take k)++eu (.cons t y n s i .nil):=by rw[h,Jr]
theorem TA:∀(f:Fs) (k:Nat),(eu (f.take k)).length≤(eu f).length:=fun f k=>by
 have h:=Jr (f.take k) (f.drop k);rw[Fs.take_drop]at h;rw[h,aC];omega
theorem adS(N:Nat):∀(A:Option Addr) (c:Nat) (f:Fs) (I:Nat→Prop) (a d:Nat) (w:World),f.count≤N→eF w I (.slice A f.len c) f→kY f a d→f.count≤1000000→(eu f).length≤1000000000000→
 Calls prog 47 #[.slice A f.len c] w (aj w (.int .i64 ((eu f).length:Int))):=by
 induction N with
 |zero=>
   intro A c f I a d w hN hr hP h60 hL;have:f=.nil:=Fs.jr (by have:=f.kH;omega);subst this;go_enter func47,ntmps47;go_wp2_with fail;go_loopw [3,9] (fun nn kk wr=>nn=.int .i64 0∧kk=.int .i64 0∧wr=w) (fun _ _ _=>0)
   case atStart=>exact⟨rfl,rfl,rfl⟩
   case round=>
    obtain⟨rfl,rfl,rfl⟩:=hrel;go_wp2_with fail;go_ret;exact⟨rfl,b0⟩
 |succ N ih=>
   intro A c f I a d w hN hr hP h60 hL;have IH:=ah ih;have HR:=ah hr;have HP:=ah hP;have CO:Hid (f.count≤1000000∧f.count≤N+1):=⟨h60,hN⟩;have hfl:=aI f.kH h60;clear ih hr hP h60 hN;have H0:Hid ((eu (f.take 0)).length=0):=(by cases f<;>rfl);generalize hT:(eu f).length=T at *;have HT:=ah hT;clear hT;go_enter func47,ntmps47;go_wp2_with fail;go_loopw [3,9] (fun nn kk wr=>∃k n:Nat,k≤f.len∧kk=.int .i64 (k:Int)∧nn=.int .i64 (n:Int)∧n≤1000000000000∧Hid ((eu (f.take k)).length=n)∧Below w.heap.size w wr) (fun _ kk _=>f.len - (intOf kk).toNat)
   case atStart=>exact⟨0,0,by omega,rfl,rfl,by omega,H0,b0⟩
   case round=>
    obtain⟨k,m,hk,rfl,rfl,hm,hmt,hbel⟩:=hrel;by_cases hlt:k<f.len
    ·obtain⟨t,y,n,s,i,hdc,htk⟩:=f.drop_cons k hlt
     obtain⟨A0,c0,hv,hc0,hor⟩:=HR.out.below hbel;injection hv with hv1 hv2 hv3;subst hv1 hv3;rcases hor with h0|⟨b,o,rfl,yX,hbl,hat⟩
     ·omega
     have hak:=hat.drop k;rw[hdc]at hak;obtain⟨c0,c1,c2,c3,⟨Ai,ci,c4,hci,hin⟩,_⟩:=hak;obtain⟨a',BJ⟩:=SN k HP.out;rw[hdc]at BJ;obtain⟨⟨_,ht0,Ov,nM,hcase⟩,_⟩:=BJ;have hcc:=f.yP k;rw[hdc]at hcc;simp only[Fs.count]at hcc;have hstep:=Tz htk;have hle:=TA f (k+1);rw[hstep,aC,Tv,hmt.out,HT.out]at hle;have hlen:(eu (f.take (k+1))).length=m+(fH (4*t+y.toNat)+(if y=0 then dY n else if y=1 then dY s.size++s.data.toList else dY (eu i).length++eu i).length):=(by rw[hstep,aC,Tv,hmt.out]);have UM:0≤y∧y≤2:=(by rcases hcase with⟨h,_⟩|⟨h,_⟩|⟨h,_⟩<;>omega);have wQ:In64 (4*t+y.toNat):=(by unfold In64;omega);have OA:=iJ wQ
     have Dh:Hid (∀x:World,Below wr.heap.size wr x→Calls prog 95 #[.pointer (some ⟨b,o+k*5,none⟩)] x (aj x (.int .u64 ((4*t+y.toNat:Nat):Int)))):=fun x hx=>by
      have e:=fun j=>World.cell?_of_block (a:=⟨b,j,none⟩) (hx.block b hbl);exact aa1 b (o+k*5) t y x ((e _).trans c0) ((e _).trans c1) Ov UM
     have zC:Hid (∀x:World,Below wr.heap.size wr x→x.cell? ⟨b,o+k*5+1,none⟩=some (.int .i64 y)∧x.cell? ⟨b,o+k*5+2,none⟩=some (.int .u64 (n:Int))∧x.cell? ⟨b,o+k*5+3,none⟩=some (.string s)∧x.cell? ⟨b,o+k*5+4,none⟩=some (.slice Ai i.len ci)):=fun x hx=>by
      have e:=fun j=>World.cell?_of_block (a:=⟨b,j,none⟩) (hx.block b hbl);exact⟨(e _).trans c1,(e _).trans c2,(e _).trans c3,(e _).trans c4⟩
     have pY:Hid (eF wr I (.slice Ai i.len ci) i):=⟨Ai,ci,rfl,hci,hin⟩;have eX:=ah hbel;have HX:=ah wQ;have pK:(k:Int)<(f.len:Int):=(by omega);have hic:i.count≤N∧i.count≤1000000:=(by have:=CO.out;omega);clear wQ hdc htk hstep hat hin hv2 hbel hmt c0 c1 c2 c3 c4;generalize Ju:4*t+y.toNat=X at *;have LZ:=ah Ju;clear Ju;rcases hcase with⟨rfl,rfl,rfl⟩|⟨rfl,rfl,rfl,hs63⟩|⟨rfl,rfl,rfl,hd8,zY⟩
     ·rw[aA rfl,fO]at hlen hle
      have HN:=ah nM;have hvn:=iJ nM;have HLEN:=ah hlen;have hmn:m+(fH X+fH n)≤1000000000000:=(by omega);clear hlen nM hle;go_wp2_with fail;refine(Dh.out _ b0).mono ?_;rintro e1 W1 ⟨rfl,jk⟩;obtain⟨q1,q2,q3,q4⟩:=zC.out _ jk;have HB1:=ah jk;clear jk;go_wp2_with fail;refine(size_any X _ HX.out).mono ?_;rintro e2 W2 ⟨rfl,rfl⟩;go_wp2_with fail;refine(size_any n _ HN.out).mono ?_;rintro e3 W3 ⟨rfl,rfl⟩;go_wp2_with fail;go_roundw
      case rel=>exact⟨k+1,m+(fH X+fH n),by omega,by go_num,by go_num,hmn,HLEN.out,eX.out.trans (HB1.out.mono eX.out.size)⟩
      case measure=>simp[intOf];omega
     ·rw[ay (by decide),aA rfl,aC,fO,fK]at hlen hle
      have GZ:In64 s.size:=(by show s.size<_;omega);have jA:=ah GZ;have hvn:=iJ GZ;have HLEN:=ah hlen;have hmn:m+(fH X+(fH s.size+s.size))≤1000000000000:=(by omega);have hsz:s.size≤1000000000000:=(by omega);clear hlen hle GZ nM;go_wp2_with fail;refine(Dh.out _ b0).mono ?_;rintro e1 W1 ⟨rfl,jk⟩;obtain⟨q1,q2,q3,q4⟩:=zC.out _ jk;have HB1:=ah jk;clear jk;go_wp2_with fail;refine(size_any X _ HX.out).mono ?_;rintro e2 W2 ⟨rfl,rfl⟩;go_wp2_with fail;have hw1:IntKind.i64.wrap ((fH s.size:Int)+(s.size:Int))=(fH s.size:Int)+(s.size:Int):=(by simp[IntKind.wrap,IntKind.signed,IntKind.bits];omega);have hw2:IntKind.i64.wrap (((m:Int)+(fH X:Int))+((fH s.size:Int)+(s.size:Int)))=((m:Int)+(fH X:Int))+((fH s.size:Int)+(s.size:Int)):=(by simp[IntKind.wrap,IntKind.signed,IntKind.bits];omega)
      go_quiet((go_at_call 78;exact Calls.quiet_of_same ((size_any s.size _ jA.out).mono fun e w' ⟨he,hw⟩=>⟨he,hw.symm⟩)));clear hw1 hw2;go_wp2_with fail;go_roundw
      case rel=>exact⟨k+1,m+(fH X+(fH s.size+s.size)),by omega,by go_num,by go_num,hmn,HLEN.out,eX.out.trans ((bn HB1.out _).mono eX.out.size)⟩
      case measure=>simp[intOf];omega
     rw[ay (by decide),ay (by decide),aC,fO]at hlen hle;have HIH:Hid (∀x:World,Below wr.heap.size wr x→Calls prog 47 #[.slice Ai i.len ci] x (aj x (.int .i64 ((eu i).length:Int)))):=fun x hx=>
      IH.out Ai ci i I 0 (d+1) x hic.1 (pY.out.below hx) zY hic.2 (by omega)
     generalize(eu i).length=L at *;have GI:In64 L:=(by show L<_;omega);have jA:=ah GI;have hvn:=iJ GI;have HLEN:=ah hlen;have hmn:m+(fH X+(fH L+L))≤1000000000000:=(by omega);clear hlen hle GI nM zY;go_wp2_with fail;refine(Dh.out _ b0).mono ?_;rintro e1 W1 ⟨rfl,jk⟩;obtain⟨q1,q2,q3,q4⟩:=zC.out _ jk;have HB1:=ah jk;clear jk;go_wp2_with fail;refine(size_any X _ HX.out).mono ?_;rintro e2 W2 ⟨rfl,rfl⟩;go_wp2_with fail;refine(HIH.out _ HB1.out).mono ?_;rintro e3 W3 ⟨rfl,hbi⟩;go_wp2_with fail;refine(size_any L _ jA.out).mono ?_;rintro e4 W4 ⟨rfl,rfl⟩;go_wp2_with fail;go_roundw
     case rel=>exact⟨k+1,m+(fH X+(fH L+L)),by omega,by go_num,by go_num,hmn,HLEN.out,eX.out.trans ((bb HB1.out hbi).mono eX.out.size)⟩
     case measure=>simp[intOf];omega
    obtain rfl:k=f.len:=(by omega);have e:m=T:=(by have:=hmt.out;rw[f.Hy _ (au _),HT.out]at this;exact this.symm);subst e;have HB:=ah hbel;clear hmt hbel HT;go_wp2_with fail;go_ret;exact⟨rfl,HB.out⟩
def BS(w:World)(v0:Value)(v:Value)(l:List UInt8)(x:World):Prop :=
 Buf x 5 v l∧dX (fun k=>foot v0=some k) w x∧∀g,foot v=some g→foot v0=some g∨w.heap.size≤g
theorem BS.start{w:World}{v:Value}{l:List UInt8}(h:Buf w 5 v l):BS w v v l w:=⟨h,dX.refl _ _,fun _ h=>.inl h⟩
theorem BS.bel{w x y:World}{v0 v:Value}{l:List UInt8}(h:BS w v0 v l x)(hb:Below x.heap.size x y):BS w v0 v l y:=⟨h.1.below hb,h.2.1.bel hb,h.2.2⟩
theorem BS.fE{w x y:World}{v0 v:Value}{l:List UInt8}(h:BS w v0 v l x)(v':Value)(l':List UInt8)(hb:Buf y 5 v' l')(ht:dX (fun k=>foot v=some k) x y)(hf:∀g,foot v'=some g→foot v=some g∨x.heap.size≤g):BS w v0 v' l' y:=by
 refine⟨hb,h.2.1.trans ht fun g hg e=>?_,fun g hg=>?_⟩
 ·rcases h.2.2 g e with h1|h1
  ·exact h1
  omega
 rcases hf g hg with h1|h1
 ·exact h.2.2 g h1
 exact .inr (aI h.2.1.size h1)
theorem BS.app{w x:World}{v0 v:Value}{l:List UInt8}(h:BS w v0 v l x)(s:ByteArray)(hn:l.length+s.size≤1000000) :
 ∃v' y,(Builtin.append_ #[42,9] 42 #[v,.string s]).run prog x=.ok v' y∧BS w v0 v' (l++s.data.toList) y:=by
 obtain⟨i0,hi0,hz0,hz1,hz2⟩:=info_parts UU
 obtain⟨v',y,hr,hb,ht,hf⟩:=YX (P:=prog) h.1 s 42 9 42 i0 underlying42 underlying9 hi0 hz0 hz1 hz2 hn
 refine⟨v',y,hr,h.fE v' _ hb ht fun g hg=>?_⟩
 rcases hf with h1|h1
 ·exact .inl (h1▸hg)
 ·exact .inr (h1 g hg)
def MS(w:World)(v0:Value)(l:List UInt8)(e:Ending)(w':World):Prop:=∃v',e=.returned v'∧BS w v0 v' l w'
theorem write_any(N:Nat):∀(v0:Value) (L:List UInt8) (A:Option Addr) (c:Nat) (f:Fs) (I:Nat→Prop) (a d:Nat) (w:World),f.count≤N→Buf w 5 v0 L→eF w I (.slice A f.len c) f→(∀k,I k→foot v0≠some k)→kY f a d→f.count≤1000000→L.length+(eu f).length≤1000000→
 Calls prog 48 #[v0,.slice A f.len c] w (MS w v0 (L++eu f)):=by
 induction N with
 |zero=>
   intro v0 L A c f I a d w hN hb hr hI hP h60 hL;have:f=.nil:=Fs.jr (by have:=f.kH;omega);subst this;have HE:Hid (MS w v0 (L++eu .nil) (.returned v0) w):=⟨v0,rfl,by rw[show eu .nil=[]from rfl,bQ];exact BS.start hb⟩;go_enter func48,ntmps48;go_wp2_with fail;go_loopw [0,9] (fun vv kk wr=>vv=v0∧kk=.int .i64 0∧wr=w) (fun _ _ _=>0)
   case atStart=>exact⟨rfl,rfl,rfl⟩
   case round=>
    obtain⟨rfl,rfl,rfl⟩:=hrel;go_wp2_with fail;go_ret;exact HE.out
 |succ N ih=>
   intro v0 L A c f I a d w hN hb hr hI hP h60 hL;have IH:=ah ih;have HR:=ah hr.lt;have HI:=ah hI;have HP:=ah hP;have CO:Hid (f.count≤1000000∧f.count≤N+1):=⟨h60,hN⟩;have hfl:=aI f.kH h60;have HL:=ah hL;have H0:Hid (BS w v0 v0 (L++eu (f.take 0)) w):=by
    have:eu (f.take 0)=[]:=(by cases f<;>rfl);rw[this,bQ];exact BS.start hb
   clear ih hr hI hP h60 hN hb hL;go_enter func48,ntmps48;go_wp2_with fail;go_loopw [0,9] (fun vv kk wr=>∃k:Nat,k≤f.len∧kk=.int .i64 (k:Int)∧Hid (BS w v0 vv (L++eu (f.take k)) wr)) (fun _ kk _=>f.len - (intOf kk).toNat)
   case atStart=>exact⟨0,by omega,rfl,H0⟩
   case round=>
    obtain⟨k,hk,rfl,nR⟩:=hrel;by_cases hlt:k<f.len
    ·obtain⟨t,y,n,s,i,hdc,htk⟩:=f.drop_cons k hlt
     obtain⟨A0,c0,hv,hc0,hor⟩:=HR.out;injection hv with hv1 hv2 hv3;subst hv1 hv3;rcases hor with h0|⟨b,o,rfl,yX,hbl,hat⟩
     ·omega
     have hak:=hat.drop k;rw[hdc]at hak;obtain⟨c0,c1,c2,c3,⟨Ai,ci,c4,hci,hin⟩,_⟩:=hak;obtain⟨a',BJ⟩:=SN k HP.out;rw[hdc]at BJ;obtain⟨⟨_,ht0,Ov,nM,hcase⟩,_⟩:=BJ;have hcc:=f.yP k;rw[hdc]at hcc;simp only[Fs.count]at hcc;have hstep:=Tz htk;have hle:=TA f (k+1);rw[hstep,aC,Tv]at hle;have hlen:=HL.out;have UM:0≤y∧y≤2:=(by rcases hcase with⟨h,_⟩|⟨h,_⟩|⟨h,_⟩<;>omega);have wQ:In64 (4*t+y.toNat):=(by show 4*t+y.toNat<18446744073709551616;omega);have hblk:∀x:World,dX (fun k=>foot v0=some k) w x→x.heap[b]?=w.heap[b]?:=fun x hx=>hx.block b hbl (HI.out b yX.1);have Dh:Hid (∀x:World,dX (fun k=>foot v0=some k) w x→Calls prog 95 #[.pointer (some ⟨b,o+k*5,none⟩)] x (aj x (.int .u64 ((4*t+y.toNat:Nat):Int)))):=fun x hx=>by
      have e:=fun j=>World.cell?_of_block (a:=⟨b,j,none⟩) (hblk x hx);exact aa1 b (o+k*5) t y x ((e _).trans c0) ((e _).trans c1) Ov UM
     have zC:Hid (∀x:World,dX (fun k=>foot v0=some k) w x→x.cell? ⟨b,o+k*5+1,none⟩=some (.int .i64 y)∧x.cell? ⟨b,o+k*5+2,none⟩=some (.int .u64 (n:Int))∧x.cell? ⟨b,o+k*5+3,none⟩=some (.string s)∧x.cell? ⟨b,o+k*5+4,none⟩=some (.slice Ai i.len ci)):=fun x hx=>by
      have e:=fun j=>World.cell?_of_block (a:=⟨b,j,none⟩) (hblk x hx);exact⟨(e _).trans c1,(e _).trans c2,(e _).trans c3,(e _).trans c4⟩
     have pY:Hid (∀x:World,dX (fun k=>foot v0=some k) w x→eF x (fun k=>I k∧k<w.heap.size) (.slice Ai i.len ci) i):=fun x hx=>by
      have h1:eF w (fun k=>I k∧k<w.heap.size) (.slice Ai i.len ci) i:=⟨Ai,ci,rfl,hci,hin⟩;exact h1.fE hx fun k hk=>HI.out k hk.1
     have HX:=ah wQ;have pK:(k:Int)<(f.len:Int):=(by omega);have hic:i.count≤N∧i.count≤1000000:=(by have:=CO.out;omega);have htl:eu (.cons t y n s i .nil)=dY (4*t+y.toNat)++(if y=0 then dY n else if y=1 then dY s.size++s.data.toList else dY (eu i).length++eu i):=(by simp only[eu,bQ]);rw[htl]at hstep;clear htl wQ hdc htk hat hin hv2 hblk c0 c1 c2 c3 c4;generalize Ju:4*t+y.toNat=X at *;generalize hP0:eu (f.take k)=P0 at *;have hlp:L.length+(P0.length+fH X)≤1000000∧(L++P0).length=L.length+P0.length:=⟨by omega,aC⟩;obtain⟨hlp,hlq⟩:=hlp;have LZ:=ah Ju;clear Ju hP0;rcases hcase with⟨rfl,rfl,rfl⟩|⟨rfl,rfl,rfl,hs63⟩|⟨rfl,rfl,rfl,hd8,zY⟩
     ·rw[aA rfl]at hstep
      rw[aA rfl,fO]at hle;have HN:=ah nM;have HST:=ah hstep;clear hstep nM;go_wp2_with fail;refine(Dh.out _ nR.out.2.1).mono ?_;rintro e1 W1 ⟨rfl,jk⟩;have HB1:=ah (nR.out.bel jk);clear jk;go_wp2_with fail;refine(put_any X _ HX.out).mono ?_;rintro e2 W2 ⟨rfl,jk⟩;obtain⟨v1,W3,hrun,hbs⟩:=(HB1.out.bel jk).app (txt (dY X)) (by rw[gI,fO];omega);have HR1:=ah hrun;have HB3:=ah hbs;obtain⟨q1,q2,q3,q4⟩:=zC.out _ hbs.2.1;clear jk hrun hbs;go_wp2_with(at_builtin;(refine wpList_append_run rfl _ _ _ _ rfl _ _ _ rfl rfl HR1.out ?_));go_wp2_with fail;refine(put_any n _ HN.out).mono ?_;rintro e3 W4 ⟨rfl,jk⟩;obtain⟨v2,W5,hrun,hbs⟩:=(HB3.out.bel jk).app (txt (dY n)) (by rw[gI,fO,iD,aC,fO];omega);have HR2:=ah hrun;have gY:=ah hbs;clear jk hrun hbs
      go_wp2_with(at_builtin;(refine wpList_append_run rfl _ _ _ _ rfl _ _ _ rfl rfl HR2.out ?_));go_roundw
      case rel=>exact⟨k+1,by omega,by go_num,by have:=gY.out;rw[HST.out];show BS _ _ _ _ _;simpa only[iD,bP]using this⟩
      case measure=>simp[intOf];omega
     ·rw[ay (by decide),aA rfl]at hstep
      rw[ay (by decide),aA rfl,aC,fO,fK]at hle;have GZ:In64 s.size:=(by show s.size<_;omega);have jA:=ah GZ;have HST:=ah hstep;have hss:s.size≤1000000:=(by omega);clear hstep nM GZ;go_wp2_with fail;refine(Dh.out _ nR.out.2.1).mono ?_;rintro e1 W1 ⟨rfl,jk⟩;have HB1:=ah (nR.out.bel jk);clear jk;go_wp2_with fail;refine(put_any X _ HX.out).mono ?_;rintro e2 W2 ⟨rfl,jk⟩;obtain⟨v1,W3,hrun,hbs⟩:=(HB1.out.bel jk).app (txt (dY X)) (by rw[gI,fO];omega);have HR1:=ah hrun;have HB3:=ah hbs;obtain⟨q1,q2,q3,q4⟩:=zC.out _ hbs.2.1;clear jk hrun hbs;go_wp2_with(at_builtin;(refine wpList_append_run rfl _ _ _ _ rfl _ _ _ rfl rfl HR1.out ?_));go_wp2_with fail;refine(put_any s.size _ jA.out).mono ?_;rintro e3 W4 ⟨rfl,jk⟩
      obtain⟨v2,W5,hrun,hbs⟩:=(HB3.out.bel jk).app (txt (dY s.size)) (by rw[gI,fO,iD,aC,fO];omega);obtain⟨v3,W6,hrun2,aa0⟩:=hbs.app s (by rw[iD,iD,aC,aC,fO,fO];omega);have HR2:=ah hrun;have HR3:=ah hrun2;have gY:=ah aa0;obtain⟨p1,p2,p3,p4⟩:=zC.out _ hbs.2.1;clear jk hrun hbs hrun2 aa0;go_wp2_with(first|(at_builtin;refine wpList_append_run rfl _ _ _ _ rfl _ _ _ rfl rfl HR2.out ?_)|(at_builtin;refine wpList_append_run rfl _ _ _ _ rfl _ _ _ rfl rfl HR3.out ?_));go_roundw
      case rel=>exact⟨k+1,by omega,by go_num,by have:=gY.out;rw[HST.out];show BS _ _ _ _ _;simpa only[iD,bP]using this⟩
      case measure=>simp[intOf];omega
     rw[ay (by decide),ay (by decide)]at hstep;rw[ay (by decide),ay (by decide),aC,fO]at hle;have Bf:Hid (∀x:World,dX (fun k=>foot v0=some k) w x→Calls prog 47 #[.slice Ai i.len ci] x (aj x (.int .i64 ((eu i).length:Int)))):=fun x hx=>
      adS i.count Ai ci i _ 0 (d+1) x (au _) (pY.out x hx) zY hic.2 (by omega)
     have HPI:=ah zY;have Qp:Hid ((eu i).length+fH (eu i).length+(L.length+(P0.length+fH X))≤1000000):=(by show _≤_;omega);have GI:In64 (eu i).length:=(by show(eu i).length<_;omega);have jA:=ah GI;have HST:=ah hstep;have hss:(eu i).length≤1000000:=(by omega);have Xr:=ah hic;clear hstep nM GI hle zY hic hlen;generalize NS:(eu i).length=LI at Bf jA Qp hss;have Xy:=ah NS;clear NS;go_wp2_with fail;refine(Dh.out _ nR.out.2.1).mono ?_;rintro e1 W1 ⟨rfl,jk⟩;have HB1:=ah (nR.out.bel jk);clear jk;go_wp2_with fail;refine(put_any X _ HX.out).mono ?_;rintro e2 W2 ⟨rfl,jk⟩;obtain⟨v1,W3,hrun,hbs⟩:=(HB1.out.bel jk).app (txt (dY X)) (by rw[gI,fO];omega);have HR1:=ah hrun;have HB3:=ah hbs;obtain⟨q1,q2,q3,q4⟩:=zC.out _ hbs.2.1;clear jk hrun hbs
     go_wp2_with(at_builtin;(refine wpList_append_run rfl _ _ _ _ rfl _ _ _ rfl rfl HR1.out ?_));go_wp2_with fail;refine(Bf.out _ HB3.out.2.1).mono ?_;rintro e3 W4 ⟨rfl,jk⟩;have HB4:=ah (HB3.out.bel jk);clear jk;go_wp2_with fail;refine(put_any LI _ jA.out).mono ?_;rintro e4 W5 ⟨rfl,jk⟩;obtain⟨v2,W6,hrun,hbs⟩:=(HB4.out.bel jk).app (txt (dY LI)) (by have:=Qp.out;rw[gI,fO,iD,aC,fO];omega);have HR2:=ah hrun;have iE:=ah hbs;obtain⟨p1,p2,p3,p4⟩:=zC.out _ hbs.2.1;clear jk hrun hbs;go_wp2_with(at_builtin;(refine wpList_append_run rfl _ _ _ _ rfl _ _ _ rfl rfl HR2.out ?_))
     refine(IH.out v2 _ Ai ci i (fun k=>I k∧k<w.heap.size) 0 (d+1) W6 Xr.out.1 iE.out.1 (pY.out _ iE.out.2.1) (fun g hg e=>by rcases iE.out.2.2 g e with h|h;exact HI.out g hg.1 h;omega) HPI.out Xr.out.2 (by have:=Qp.out;rw[Xy.out,iD,iD,aC,aC,fO,fO];omega)).mono ?_;rintro e5 W7 ⟨v3,rfl,hbs⟩;have iV:=ah (iE.out.fE v3 _ hbs.1 hbs.2.1 hbs.2.2);clear hbs;go_wp2_with fail;go_roundw
     case rel=>exact⟨k+1,by omega,by go_num,by have:=iV.out;rw[HST.out,Xy.out];show BS _ _ _ _ _;simpa only[iD,bP]using this⟩
     case measure=>simp[intOf];omega
    obtain rfl:k=f.len:=(by omega);have HE:Hid (MS w v0 (L++eu f) (.returned u0) wr):=⟨u0,rfl,by have:=nR.out;rwa [f.Hy _ (au _)]at this⟩;clear nR;go_wp2_with fail;go_ret;exact HE.out
