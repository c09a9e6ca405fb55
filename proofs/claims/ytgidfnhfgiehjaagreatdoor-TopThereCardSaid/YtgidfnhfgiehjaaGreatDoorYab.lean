/-
  Parts of the proof. Conditions: as each names.
-/
import Derived.Lib.ValidU
import Derived.Lib.RuneCount
import Derived.Test.YtgidfnhfgiehjaaGreatDoorYaa
namespace Go.PM
def rW(r:Nat):Nat:=if r%2=1 then r / 2 ^^^ 3988292384 else r / 2
def lG:Nat→Nat→Nat
 |0,r=>r
 |k+1,r=>lG k (rW r)
theorem an2(a b:Nat):(a ^^^ b) / 2=a / 2 ^^^ b / 2:=by
 have:=Nat.shiftRight_xor_distrib (a:=a) (b:=b) (i:=1);simpa[Nat.shiftRight_succ]using this
theorem an3(a b:Nat):(a ^^^ b)%2=(a%2+b%2)%2:=by
 have h:∀x:Nat,x%2=(x.testBit 0).toNat:=fun x=>by
  rw[Nat.testBit_zero];rcases Nat.mod_two_eq_zero_or_one x with e|e<;>simp[e]
 rw[h (a ^^^ b),h a,h b,Nat.testBit_xor];cases a.testBit 0<;>cases b.testBit 0<;>rfl
theorem afP(a b:Nat):rW (a ^^^ b)=rW a ^^^ rW b:=by
 unfold rW;rw[an2,an3];have ha:a%2=0∨a%2=1:=by omega
 have hb:b%2=0∨b%2=1:=by omega
 rcases ha with ha|ha<;>rcases hb with hb|hb<;>simp[ha,hb]
 ·rw[Nat.xor_assoc]
 ·rw[Nat.xor_assoc,Nat.xor_assoc,Nat.xor_comm 3988292384]
 rw[Nat.xor_assoc,Nat.xor_comm 3988292384,Nat.xor_assoc,Nat.xor_self,Nat.xor_zero]
theorem Zi:∀(k a b:Nat),lG k (a ^^^ b)=lG k a ^^^ lG k b
 |0,_,_=>rfl
 |k+1,a,b=>by rw[lG,afP,Zi k];rfl
theorem Zf{r:Nat}(h:r<4294967296):rW r<4294967296:=by
 unfold rW;split
 ·exact Nat.xor_lt_two_pow (n:=32) (by omega) (by omega)
 omega
theorem DZ:∀(k:Nat) {r:Nat},r<4294967296→lG k r<4294967296
 |0,_,h=>h
 |k+1,_,h=>DZ k (Zf h)
theorem Zg:∀(k r:Nat),lG k (r*2 ^ k)=r
 |0,r=>by simp[lG]
 |k+1,r=>by
   have e:r*2 ^ (k+1)=2*(r*2 ^ k):=(by rw[Nat.pow_succ,Nat.mul_comm (2 ^ k) 2,← Nat.mul_assoc,Nat.mul_comm r 2,Nat.mul_assoc]);rw[lG,e];have:rW (2*(r*2 ^ k))=r*2 ^ k:=by
    unfold rW;rw[ay (by omega)];omega
   rw[this,Zg k]
theorem amS(r k:Nat):r=(r%2 ^ k) ^^^ (r / 2 ^ k*2 ^ k):=by
 have h:r%2 ^ k<2 ^ k:=Nat.mod_lt _ (Nat.pow_pos (by omega));apply Nat.eq_of_testBit_eq;intro i;rw[Nat.testBit_xor,Nat.testBit_mod_two_pow,Nat.mul_comm,Nat.testBit_two_pow_mul];by_cases hi:i<k
 ·have:¬k≤i:=by omega
  simp[hi,this]
 have:k≤i:=by omega
 simp[hi,this,Nat.testBit_div_two_pow]
theorem Zh(k r:Nat):lG k r=r / 2 ^ k ^^^ lG k (r%2 ^ k):=by
 conv=>lhs;rw[amS r k]
 rw[Zi,Zg,Nat.xor_comm]
def Y0(r:Nat)(b:UInt8):Nat:=lG 8 (r ^^^ b.toNat)
def cover(r:Nat)(l:List UInt8):Nat:=l.foldl Y0 r
def nH(l:List UInt8):Nat:=4294967295 ^^^ cover 4294967295 l
def oG(n:Nat):List UInt8:=[UInt8.ofNat (n%256),UInt8.ofNat (n / 256%256),UInt8.ofNat (n / 65536%256),UInt8.ofNat (n / 16777216%256)]
def sU:List UInt8→Nat
 |[a,b,c,d]=>a.toNat+b.toNat*256+c.toNat*65536+d.toNat*16777216
 |_=>0
theorem Y1{r:Nat}(h:r<4294967296)(b:UInt8):Y0 r b<4294967296 :=
 DZ 8 (Nat.xor_lt_two_pow (n:=32) (by omega) (by have:=b.toNat_lt;omega))
theorem Ze:∀(l:List UInt8) {r:Nat},r<4294967296→cover r l<4294967296
 |[],_,h=>h
 |b::l,_,h=>Ze l (Y1 h b)
theorem RV(r:Nat)(a b:List UInt8):cover r (a++b)=cover (cover r a) b:=by simp[cover]
theorem Zj(l:List UInt8):nH l<4294967296:=Nat.xor_lt_two_pow (n:=32) (by omega) (by have:=Ze l (r:=4294967295) (by omega);omega)
theorem not_not(r:Nat):4294967295 ^^^ (4294967295 ^^^ r)=r:=by rw[← Nat.xor_assoc,Nat.xor_self,Nat.zero_xor]
theorem afO(n:Nat)(h:n<4294967296):sU (oG n)=n:=by
 simp only[oG,sU];have e:∀k,k<256→(UInt8.ofNat k).toNat=k:=fun k hk=>by simp;omega
 rw[e _ (by omega),e _ (by omega),e _ (by omega),e _ (by omega)];omega
theorem afv(l:List UInt8)(h:l.length=4):oG (sU l)=l:=by
 match l,h with
 |[a,b,c,d],_=>
   simp only[oG,sU];have:=a.toNat_lt;have:=b.toNat_lt;have:=c.toNat_lt;have:=d.toNat_lt
   rw[show(a.toNat+b.toNat*256+c.toNat*65536+d.toNat*16777216)%256=a.toNat by omega,
    show(a.toNat+b.toNat*256+c.toNat*65536+d.toNat*16777216) / 256%256=b.toNat by omega,
    show(a.toNat+b.toNat*256+c.toNat*65536+d.toNat*16777216) / 65536%256=c.toNat by omega,
    show(a.toNat+b.toNat*256+c.toNat*65536+d.toNat*16777216) / 16777216%256=d.toNat by omega]
   simp
def kX(b:UInt8):Bool:=128≤b.toNat&&b.toNat<192
def nY(a:Nat):Option (Nat×Nat×Nat) :=
 if 192≤a∧a<224 then some (2,a - 192,128)else if 224≤a∧a<240 then some (3,a - 224,2048)else if 240≤a∧a<248 then some (4,a - 240,65536)else none
def jg(n:Nat):Nat→List UInt8→Option Nat
 |0,_=>some n
 |_+1,[]=>none
 |k+1,d::r=>if kX d then jg (64*n+(d.toNat - 128)) k r else none
def lY(n least:Nat):Bool:=decide (n<least)||decide (1114111<n)||(decide (55296≤n)&&decide (n<57344))
def kK:List UInt8→Nat
 |[]=>0
 |a::r=>
   if a.toNat<128 then 1
   else match nY a.toNat with
    |none=>0
    |some (size,n0,least)=>
      match jg n0 (size - 1) r with
      |none=>0
      |some n=>if lY n least then 0 else size
theorem V9{a:UInt8}{r:List UInt8}(h:a.toNat<128):kK (a::r)=1:=by simp[kK,h]
theorem EY{a:UInt8}{r:List UInt8}(h:¬a.toNat<128):kK (a::r)=match nY a.toNat with
 |none=>0
 |some (size,n0,least)=>
   match jg n0 (size - 1) r with
   |none=>0
   |some n=>if lY n least then 0 else size:=by
 rw[kK,ay h]
theorem anm{a size n0 least:Nat}(h:nY a=some (size,n0,least)):2≤size∧size≤4:=by
 unfold nY at h;split at h
 ·injection h with h;injection h with h _;omega
 split at h
 ·injection h with h;injection h with h _;omega
 split at h
 ·injection h with h;injection h with h _;omega
 cases h
theorem KL:∀(k n m:Nat) (r:List UInt8),jg n k r=some m→k≤r.length
 |0,_,_,_,_=>aW _
 |_+1,_,_,[],h=>by simp[jg]at h
 |k+1,n,m,d::r,h=>by
   rw[jg]at h;split at h
   ·have:=KL k _ _ r h
    simp only[bK];omega
   cases h
theorem ant{s:List UInt8}(h:kK s≠0):∃a r,s=a::r∧((a.toNat<128∧kK s=1)∨
 (¬a.toNat<128∧∃size n0 least n,nY a.toNat=some (size,n0,least)∧jg n0 (size - 1) r=some n∧lY n least=false∧kK s=size)):=by
 match s,h with
 |a::r,h=>
   refine⟨a,r,rfl,?_⟩;by_cases h1:a.toNat<128
   ·exact .inl ⟨h1,V9 h1⟩
   rw[EY h1]at h⊢;refine .inr ⟨h1,?_⟩;cases hc:nY a.toNat with
   |none=>rw[hc]at h;simp at h
   |some x=>
     obtain⟨size,n0,least⟩:=x;rw[hc]at h;simp only at h⊢;cases hu:jg n0 (size - 1) r with
     |none=>rw[hu]at h;simp at h
     |some n=>
       rw[hu]at h;simp only at h;by_cases hb:lY n least=true
       ·rw[aA hb]at h;simp at h
       exact⟨size,n0,least,n,rfl,hu,by simpa using hb,by simp[hb]⟩
theorem PW{s:List UInt8}(h:kK s≠0):1≤kK s∧kK s≤s.length∧kK s≤4:=by
 obtain⟨a,r,rfl,h1|⟨_,size,n0,least,n,hc,hu,_,he⟩⟩:=ant h
 ·rw[h1.2];simp
 have:=anm hc;have:=KL _ _ _ _ hu;rw[he];simp only[bK];omega
theorem anr(s:List UInt8):kK s≤4:=by
 by_cases h:kK s=0
 ·omega
 exact(PW h).2.2
theorem adD:kK []=0:=rfl
/-! ### Good texts -/
def jE(s:List UInt8):Bool:=if _h:kK s=0 then decide (s=[])else jE (s.drop (kK s))
termination_by s.length
decreasing_by
 have:=PW _h
 simp;omega
theorem ug:jE []=true:=by rw[jE,dif_pos adD];rfl
theorem sG{s:List UInt8}(h:kK s≠0):jE s=jE (s.drop (kK s)):=by rw[jE,dif_neg h]
theorem Wh{s:List UInt8}(h:kK s=0)(hs:s≠[]):jE s=false:=by rw[jE,dif_pos h];simpa using hs
/-! ### Cut -/
def qH(l:List UInt8):Nat×Nat :=
 let at' (k:Nat):Nat:=(l.getD k 0).toNat
 let cont (k:Nat):Bool:=decide (k<l.length)&&at' k / 64==2
 let b0:=at' 0
 if b0<0x80 then(b0,1)
 else if b0 / 32==6&&cont 1 then
  let c:=(b0%32)*64+at' 1%64
  if c≥0x80 then(c,2)else(Utf8.runeError,1)
 else if b0 / 16==14&&cont 1&&cont 2 then
  let c:=(b0%16)*4096+(at' 1%64)*64+at' 2%64
  if c≥0x800&&Utf8.valid c then(c,3)else(Utf8.runeError,1)
 else if b0 / 8==30&&cont 1&&cont 2&&cont 3 then
  let c:=(b0%8)*262144+(at' 1%64)*4096+(at' 2%64)*64+at' 3%64
  if c≥0x10000&&Utf8.valid c then(c,4)else(Utf8.runeError,1)
 else(Utf8.runeError,1)
theorem ahB(s:ByteArray)(i k:Nat):s.get! (i+k)=(s.data.toList.drop i).getD k 0:=by
 rw[List.getD_eq_getElem?_getD,List.getElem?_drop,bU];show s.data[i+k]! = _;rw[getElem!_def];cases s.data[i+k]?<;>rfl
theorem af4(s:ByteArray)(i:Nat):Utf8.decode s i=qH (s.data.toList.drop i):=by
 have hl:∀k,decide (i+k<s.size)=decide (k<(s.data.toList.drop i).length):=fun k=>by
  rw[aN,Array.length_toList];show decide (i+k<s.size)=decide (k<s.size - i);rw[decide_eq_decide];omega
 unfold Utf8.decode qH;simp only[ahB,hl]
theorem vY(b:UInt8):(b.toNat / 64==2)=kX b:=by
 unfold kX;rw[Bool.eq_iff_iff];simp only[bF,bT,bG];omega
theorem anC(n:Nat):Utf8.valid (n:Int) = !(decide (1114111<n)||(decide (55296≤n)&&decide (n<57344))):=by
 unfold Utf8.valid;rw[Bool.eq_iff_iff];simp only[Bool.or_eq_true,bT,bG,Bool.not_eq_true',Bool.or_eq_false_iff,bV,Bool.and_eq_false_imp];omega
theorem adC(n least:Nat):(decide (n≥least)&&Utf8.valid (n:Int)) = !lY n least:=by
 rw[anC];unfold lY;rw[Bool.eq_iff_iff];simp only[bT,bG,Bool.not_eq_true',Bool.or_eq_false_iff,bV,Bool.and_eq_false_imp];omega
theorem ano(a b c:UInt8)(r:List UInt8)(h1:¬a.toNat<128)(h2:¬a.toNat / 32=6)(h3:a.toNat / 16=14) :
 qH (a::b::c::r)=if(kX b&&kX c)=true then(if(!lY ((a.toNat%16)*4096+(b.toNat%64)*64+c.toNat%64) 2048)=true then((a.toNat%16)*4096+(b.toNat%64)*64+c.toNat%64,3)else(65533,1))else(65533,1):=by
 have e:qH (a::b::c::r)=(if a.toNat<0x80 then(a.toNat,1)
  else if(a.toNat / 32==6&&(decide (1<(a::b::c::r).length)&&b.toNat / 64==2))=true then
   (if(a.toNat%32)*64+b.toNat%64≥0x80 then((a.toNat%32)*64+b.toNat%64,2)else(Utf8.runeError,1))
  else if(a.toNat / 16==14&&(decide (1<(a::b::c::r).length)&&b.toNat / 64==2)&&(decide (2<(a::b::c::r).length)&&c.toNat / 64==2))=true then
   (if(decide ((a.toNat%16)*4096+(b.toNat%64)*64+c.toNat%64≥0x800)&&Utf8.valid (((a.toNat%16)*4096+(b.toNat%64)*64+c.toNat%64:Nat):Int))=true then((a.toNat%16)*4096+(b.toNat%64)*64+c.toNat%64,3)else(Utf8.runeError,1))
  else if(a.toNat / 8==30&&(decide (1<(a::b::c::r).length)&&b.toNat / 64==2)&&(decide (2<(a::b::c::r).length)&&c.toNat / 64==2)&&(decide (3<(a::b::c::r).length)&&((a::b::c::r).getD 3 0).toNat / 64==2))=true then
   (if (decide ((a.toNat % 8) * 262144+(b.toNat % 64) * 4096+(c.toNat % 64) * 64+((a :: b :: c :: r).getD 3 0).toNat % 64 ≥ 0x10000) && Utf8.valid (((a.toNat % 8) * 262144+(b.toNat % 64) * 4096+(c.toNat % 64) * 64+((a :: b :: c :: r).getD 3 0).toNat % 64:Nat):Int))=true then
     ((a.toNat%8)*262144+(b.toNat%64)*4096+(c.toNat%64)*64+((a::b::c::r).getD 3 0).toNat%64,4)else(Utf8.runeError,1))
  else(Utf8.runeError,1)):=rfl
 have l1:decide (1<(a::b::c::r).length)=true:=by simp
 have l2:decide (2<(a::b::c::r).length)=true:=by simp
 rw[e,ay h1,ay (by simp[h2]),vY,vY,adC,l1,l2]
 have h4:(a.toNat / 8==30)=false:=by rw[aB];omega
 rw[show(a.toNat / 16==14)=true by simp[h3],h4]
 simp only[Bool.true_and,Bool.false_and]
 rw[ay (c:=false=true) (by simp)]
 rfl
theorem anp(a b c d:UInt8)(r:List UInt8)(h1:¬a.toNat<128)(h2:¬a.toNat / 32=6)(h3:¬a.toNat / 16=14)(h4:a.toNat / 8=30) :
 qH (a::b::c::d::r)=if(kX b&&kX c&&kX d)=true then(if(!lY ((a.toNat%8)*262144+(b.toNat%64)*4096+(c.toNat%64)*64+d.toNat%64) 65536)=true then
  ((a.toNat%8)*262144+(b.toNat%64)*4096+(c.toNat%64)*64+d.toNat%64,4)else(65533,1))else(65533,1):=by
 have e:qH (a::b::c::d::r)=(if a.toNat<0x80 then(a.toNat,1)
  else if(a.toNat / 32==6&&(decide (1<(a::b::c::d::r).length)&&b.toNat / 64==2))=true then
   (if(a.toNat%32)*64+b.toNat%64≥0x80 then((a.toNat%32)*64+b.toNat%64,2)else(Utf8.runeError,1))
  else if(a.toNat / 16==14&&(decide (1<(a::b::c::d::r).length)&&b.toNat / 64==2)&&(decide (2<(a::b::c::d::r).length)&&c.toNat / 64==2))=true then
   (if(decide ((a.toNat%16)*4096+(b.toNat%64)*64+c.toNat%64≥0x800)&&Utf8.valid (((a.toNat%16)*4096+(b.toNat%64)*64+c.toNat%64:Nat):Int))=true then((a.toNat%16)*4096+(b.toNat%64)*64+c.toNat%64,3)else(Utf8.runeError,1))
  else if(a.toNat / 8==30&&(decide (1<(a::b::c::d::r).length)&&b.toNat / 64==2)&&(decide (2<(a::b::c::d::r).length)&&c.toNat / 64==2)&&(decide (3<(a::b::c::d::r).length)&&d.toNat / 64==2))=true then
   (if (decide ((a.toNat % 8) * 262144+(b.toNat % 64) * 4096+(c.toNat % 64) * 64+d.toNat % 64 ≥ 0x10000) && Utf8.valid (((a.toNat % 8) * 262144+(b.toNat % 64) * 4096+(c.toNat % 64) * 64+d.toNat % 64:Nat):Int))=true then
     ((a.toNat%8)*262144+(b.toNat%64)*4096+(c.toNat%64)*64+d.toNat%64,4)else(Utf8.runeError,1))
  else(Utf8.runeError,1)):=rfl
 have l1:decide (1<(a::b::c::d::r).length)=true:=by simp
 have l2:decide (2<(a::b::c::d::r).length)=true:=by simp
 have l3:decide (3<(a::b::c::d::r).length)=true:=by simp
 rw[e,ay h1,ay (by simp[h2]),ay (by simp[h3]),vY,vY,vY,adC,l1,l2,l3]
 rw[show(a.toNat / 8==30)=true by simp[h4]]
 simp only[Bool.true_and]
 rfl
theorem anq(a:UInt8)(r:List UInt8):(qH (a::r)).2=max 1 (kK (a::r))∧(((qH (a::r)).1=65533∧(qH (a::r)).2=1)↔kK (a::r)=0):=by
 by_cases h1:a.toNat<128
 ·rw[V9 h1]
  unfold qH;simp[h1];omega
 rw[EY h1];by_cases h2:a.toNat / 32=6
 ·have hc:nY a.toNat=some (2,a.toNat - 192,128):=by unfold nY;rw[aA (by omega)]
  rw[hc];unfold qH
  match r with
  |[]=>simp[h1,h2,jg,Utf8.runeError]
  |b::r=>
    by_cases hb:kX b=true
    ·have hbi:=hb
     unfold kX at hbi;simp only[bT,bG]at hbi;by_cases hn:128≤(a.toNat%32)*64+b.toNat%64
     ·have hu:lY (64*(a.toNat - 192)+(b.toNat - 128)) 128=false:=by unfold lY;simp;omega
      simp[h1,h2,jg,vY,hb,hn,hu]
     have hu:lY (64*(a.toNat - 192)+(b.toNat - 128)) 128=true:=(by unfold lY;simp;omega);simp[h1,h2,jg,vY,hb,hn,hu,Utf8.runeError]
    simp[h1,h2,jg,vY,hb,Utf8.runeError]
 ·by_cases h3:a.toNat / 16=14
  ·have hc:nY a.toNat=some (3,a.toNat - 224,2048):=by unfold nY;rw[ay (by omega),aA (by omega)]
   rw[hc]
   match r with
   |[]=>simp[qH,h1,jg,Utf8.runeError]
   |[b]=>
     by_cases hb:kX b=true
     ·simp[qH,h1,h2,jg,vY,hb,Utf8.runeError]
     simp[qH,h1,jg,vY,hb,Utf8.runeError]
   |b::c::r=>
     rw[ano a b c r h1 h2 h3];by_cases hb:kX b=true
     ·by_cases hd:kX c=true
      ·have hbi:=hb
       have hdi:=hd;unfold kX at hbi hdi;simp only[bT,bG]at hbi hdi;have e:64*(64*(a.toNat - 224)+(b.toNat - 128))+(c.toNat - 128)=(a.toNat%16)*4096+(b.toNat%64)*64+c.toNat%64:=(by omega);simp only[jg,hb,hd,e,if_true,Bool.and_self,Nat.add_one_sub_one];cases lY ((a.toNat%16)*4096+(b.toNat%64)*64+c.toNat%64) 2048<;>simp
      simp[jg,hb,hd]
     simp[jg,hb]
  ·by_cases h4:a.toNat / 8=30
   ·have hc:nY a.toNat=some (4,a.toNat - 240,65536):=by unfold nY;rw[ay (by omega),ay (by omega),aA (by omega)]
    rw[hc]
    match r with
    |[]=>simp[qH,h1,jg,Utf8.runeError]
    |[b]=>
      by_cases hb:kX b=true
      ·simp[qH,h1,h2,jg,vY,hb,Utf8.runeError]
      simp[qH,h1,jg,vY,hb,Utf8.runeError]
    |[b,c]=>by_cases hb:kX b=true<;>by_cases hd:kX c=true<;>simp[qH,h1,h2,h3,jg,vY,hb,hd,Utf8.runeError]
    |b::c::d::r=>
      rw[anp a b c d r h1 h2 h3 h4];by_cases hb:kX b=true
      ·by_cases hd:kX c=true
       ·by_cases hf:kX d=true
        ·have hbi:=hb
         have hdi:=hd;have hfi:=hf;unfold kX at hbi hdi hfi;simp only[bT,bG]at hbi hdi hfi;have e:64*(64*(64*(a.toNat - 240)+(b.toNat - 128))+(c.toNat - 128))+(d.toNat - 128)=(a.toNat%8)*262144+(b.toNat%64)*4096+(c.toNat%64)*64+d.toNat%64:=(by omega);simp only[jg,hb,hd,hf,e,if_true,Bool.and_self,Nat.add_one_sub_one];cases lY ((a.toNat%8)*262144+(b.toNat%64)*4096+(c.toNat%64)*64+d.toNat%64) 65536<;>simp
        simp[jg,hb,hd,hf]
       simp[jg,hb,hd]
      simp[jg,hb]
   ·have hc:nY a.toNat=none:=by unfold nY;rw[ay (by omega),ay (by omega),ay (by omega)]
    rw[hc];simp[qH,h1,h2,h3,h4,Utf8.runeError]
theorem af2(s:ByteArray)(i:Nat)(h:i<s.size):(Utf8.decode s i).2=max 1 (kK (s.data.toList.drop i))∧(((Utf8.decode s i).1=65533∧(Utf8.decode s i).2=1)↔kK (s.data.toList.drop i)=0):=by
 rw[af4];cases hl:s.data.toList.drop i with
 |nil=>
   have:=congrArg List.length hl;rw[aN,Array.length_toList]at this;have e:s.data.size=s.size:=rfl;simp at this;omega
 |cons a r=>exact anq a r
theorem adI:∀(n:Nat) (l:List UInt8),l.length≤n→Lib.validGoD n l=jE l
 |0,l,h=>by
   have:l=[]:=aV (by omega);subst this;rw[ug];rfl
 |n+1,l,h=>by
   rw[Lib.validGoD];by_cases hl:l=[]
   ·rw[aA hl,hl,ug]
   rw[ay hl];have hd:(Lib.decodeL l).2=max 1 (kK l)∧(((Lib.decodeL l).1=65533∧(Lib.decodeL l).2=1)↔kK l=0):=by
    have:=af2 ⟨l.toArray⟩ 0 (by show 0<l.toArray.size;rw[List.size_toArray];exact Nat.pos_of_ne_zero fun e=>hl (aV e));exact this
   by_cases h0:kK l=0
   ·rw[aA (hd.2.2 h0),Wh h0 hl]
   rw[ay (fun e=>h0 (hd.2.1 e)),hd.1,sG h0];have hk:=PW h0;rw[Nat.max_eq_right hk.1];exact adI n _ (by rw[aN];omega)
theorem anE(l:List UInt8):Lib.validD l=jE l:=adI _ l (au _)
