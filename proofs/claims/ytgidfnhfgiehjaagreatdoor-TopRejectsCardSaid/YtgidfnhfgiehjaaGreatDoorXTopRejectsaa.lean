/-
  Texts of the proof, joined: PlainVarint PlainCrc PlainFrame PlainStream PlainEntry PlainDescr PlainPrefix. Conditions: as each names.
-/
import Derived.Lib.Bytealg

section
namespace Go.PM
theorem div_ind {P:Nat→Prop} (h0:∀ n,n < 128→P n) (h1:∀ n,128≤n→P (n / 128)→P n):∀ n,P n:=by
 intro n
 induction n using Nat.strongRecOn with
 | _ n ih =>
   by_cases h:n < 128
   · exact h0 n h
   · exact h1 n (by omega) (ih (n / 128) (by omega))
def vput (n:Nat):List UInt8:=if n < 128 then [UInt8.ofNat n] else UInt8.ofNat (n % 128+128) :: vput (n / 128)
termination_by n
decreasing_by omega
theorem vput_small {n:Nat} (h:n < 128):vput n=[UInt8.ofNat n]:=by rw [vput,if_pos h]
theorem vput_big {n:Nat} (h:128≤n):vput n=UInt8.ofNat (n % 128+128) :: vput (n / 128):=by rw [vput,if_neg (by omega)]
def vsz (n:Nat):Nat:=if n < 128 then 1 else 1+vsz (n / 128)
termination_by n
decreasing_by omega
theorem vsz_small {n:Nat} (h:n < 128):vsz n=1:=by rw [vsz,if_pos h]
theorem vsz_big {n:Nat} (h:128≤n):vsz n=1+vsz (n / 128):=by rw [vsz,if_neg (by omega)]
theorem vsz_pos (n:Nat):1≤vsz n:=by
 by_cases h:n < 128
 · rw [vsz_small h];omega
 · rw [vsz_big (by omega)];omega
theorem vput_length:∀ (n:Nat),(vput n).length=vsz n:=by
 apply div_ind
 · intro n h;rw [vput_small h,vsz_small h];rfl
 · intro n h ih;rw [vput_big h,vsz_big h,List.length_cons,ih];omega
theorem vsz_le:∀ (k n:Nat),n < 128 ^ (k+1)→vsz n≤k+1
 | 0,n,h => by
   have:n < 128:=by simpa using h
   rw [vsz_small this];omega
 | k+1,n,h => by
   by_cases h1:n < 128
   · rw [vsz_small h1];omega
   · rw [vsz_big (by omega)]
     have h2:n / 128 < 128 ^ (k+1):=by
      rw [Nat.div_lt_iff_lt_mul (by omega)]
      rw [Nat.pow_succ] at h
      exact h
     have:=vsz_le k (n / 128) h2
     omega
theorem vsz_le10 {n:Nat} (h:n < 18446744073709551616):vsz n≤10 :=
 vsz_le 9 n (Nat.lt_of_lt_of_le h (by decide))
def vraw:Nat→Nat→List UInt8
 | 0,_ => []
 | k+1,n => UInt8.ofNat (n % 128+128) :: vraw k (n / 128)
theorem vraw_length:∀ (k n:Nat),(vraw k n).length=k
 | 0,_ => rfl
 | k+1,n => by simp [vraw,vraw_length k]
theorem vraw_snoc:∀ (k n:Nat),vraw (k+1) n=vraw k n++[UInt8.ofNat (n / 128 ^ k % 128+128)]
 | 0,n => by simp [vraw]
 | k+1,n => by
   rw [vraw,vraw_snoc k (n / 128),vraw,List.cons_append]
   rw [Nat.div_div_eq_div_mul,Nat.pow_succ,Nat.mul_comm]
theorem vput_raw:∀ (n:Nat),vput n=vraw (vsz n - 1) n++[UInt8.ofNat (n / 128 ^ (vsz n - 1))]:=by
 apply div_ind
 · intro n h;rw [vput_small h,vsz_small h];simp [vraw]
 · intro n h ih
   have hp:=vsz_pos (n / 128)
   have e:vsz n - 1=(vsz (n / 128) - 1)+1:=by rw [vsz_big h];omega
   rw [vput_big h,e,vraw,ih,List.cons_append]
   rw [Nat.div_div_eq_div_mul,Nat.pow_succ,Nat.mul_comm]
theorem vtop_lt:∀ (n:Nat),n / 128 ^ (vsz n - 1) < 128:=by
 apply div_ind
 · intro n h;rw [vsz_small h];simpa using h
 · intro n h ih
   have hp:=vsz_pos (n / 128)
   have e:vsz n - 1=(vsz (n / 128) - 1)+1:=by rw [vsz_big h];omega
   rw [e,Nat.pow_succ,Nat.mul_comm,← Nat.div_div_eq_div_mul]
   exact ih
def vgetL:Nat→Nat→List UInt8→Nat × Nat × Nat
 | i,_,[] => if 10≤i then (0,0,3) else (0,0,1)
 | i,acc,c :: r =>
   if 10≤i then (0,0,3)
   else if 128≤c.toNat then vgetL (i+1) (acc+(c.toNat % 128) * 128 ^ i) r
   else if i=9∧1 < c.toNat then (0,0,3)
   else if 0 < i∧c.toNat=0 then (0,0,2)
   else (acc+c.toNat * 128 ^ i,i+1,0)
def vget (s:List UInt8):Nat × Nat × Nat:=vgetL 0 0 s
theorem toNat_lo {n:Nat} (h:n < 256):(UInt8.ofNat n).toNat=n:=by
 simp;omega
theorem vgetL_put (r:List UInt8):∀ (n i acc:Nat),i+vsz n≤10→(i+vsz n=10→n / 128 ^ (vsz n - 1)≤1)→(0 < i→0 < n) →
 vgetL i acc (vput n++r)=(acc+n * 128 ^ i,i+vsz n,0):=by
 refine div_ind ?_ ?_
 · intro n h i acc h1 h2 h3
   rw [vsz_small h] at h1 h2 ⊢
   rw [vput_small h,List.cons_append,vgetL,toNat_lo (by omega),if_neg (by omega),if_neg (by omega),if_neg,if_neg]
   · omega
   · rintro ⟨hi,hn⟩
     have:n≤1:=by simpa using h2 (by omega)
     omega
 · intro n h ih i acc h1 h2 h3
   have hp:=vsz_pos (n / 128)
   rw [vsz_big h] at h1 h2 ⊢
   rw [vput_big h,List.cons_append,vgetL,toNat_lo (by omega),if_neg (by omega),if_pos (by omega),ih (i+1) _ (by omega) ?_ (by omega)]
   · have e:(n % 128+128) % 128=n % 128:=by omega
     rw [e,Nat.pow_succ]
     have hd:n=n % 128+128 * (n / 128):=by omega
     refine Prod.ext ?_ (Prod.ext ?_ rfl)
     · show acc+n % 128 * 128 ^ i+n / 128 * (128 ^ i * 128)=acc+n * 128 ^ i
       have:n * 128 ^ i=n % 128 * 128 ^ i+n / 128 * (128 ^ i * 128):=by
        conv => lhs;rw [hd]
        rw [Nat.add_mul,Nat.mul_comm (128 ^ i) 128,← Nat.mul_assoc,Nat.mul_comm 128 (n / 128)]
       omega
     · show i+1+vsz (n / 128)=i+(1+vsz (n / 128));omega
   · intro h4
     have:=h2 (by omega)
     have e:1+vsz (n / 128) - 1=(vsz (n / 128) - 1)+1:=by omega
     rw [e,Nat.pow_succ,Nat.mul_comm,← Nat.div_div_eq_div_mul] at this
     exact this
theorem vtop10 {n:Nat} (h:n < 18446744073709551616) (e:vsz n=10):n / 128 ^ (vsz n - 1)≤1:=by
 rw [e]
 have:n / 128 ^ 9 < 2:=by
  rw [Nat.div_lt_iff_lt_mul (by decide)]
  exact Nat.lt_of_lt_of_le h (by decide)
 show n / 128 ^ 9≤1
 omega
theorem vget_put (n:Nat) (h:n < 18446744073709551616) (r:List UInt8):vget (vput n++r)=(n,vsz n,0):=by
 unfold vget
 have h10:=vsz_le10 h
 rw [vgetL_put r n 0 0 (by omega) (fun e => vtop10 h (by omega)) (by omega)]
 simp
theorem pow_lt {i j:Nat} (h:i≤j):128 ^ i≤128 ^ j:=Nat.pow_le_pow_right (by omega) h
theorem vgetL_cases:∀ (s:List UInt8) (i acc:Nat),acc < 128 ^ i→i≤10 →
 (∃ e,vgetL i acc s=(0,0,e)∧(e=1∨e=2∨e=3)) ∨
 ∃ n k,vgetL i acc s=(acc+n * 128 ^ i,i+k,0)∧1≤k∧i+k≤10∧k≤s.length∧vput n=s.take k∧vsz n=k∧(i+k=10→n / 128 ^ (k - 1)≤1)∧(0 < i→0 < n)
 | [],i,acc,_,_ => .inl (by simp only [vgetL];split <;> simp)
 | c :: r,i,acc,ha,hi => by
   rw [vgetL]
   by_cases h0:10≤i
   · rw [if_pos h0];exact .inl ⟨3,rfl,by omega⟩
   rw [if_neg h0]
   by_cases h1:128≤c.toNat
   · rw [if_pos h1]
     have hc:c.toNat < 256:=c.toNat_lt
     have hlt:acc+c.toNat % 128 * 128 ^ i < 128 ^ (i+1):=by
      have:c.toNat % 128 * 128 ^ i≤127 * 128 ^ i:=Nat.mul_le_mul_right _ (by omega)
      rw [Nat.pow_succ];omega
     rcases vgetL_cases r (i+1) _ hlt (by omega) with h | ⟨n,k,h,k1,k2,k3,k4,k5,k6,k7⟩
     · exact .inl h
     · have hn:0 < n:=k7 (by omega)
       have d1:(c.toNat % 128+128 * n) / 128=n:=by omega
       have d2:(c.toNat % 128+128 * n) % 128=c.toNat % 128:=by omega
       refine .inr ⟨c.toNat % 128+128 * n,k+1,?_,by omega,by omega,by simp;omega,?_,?_,?_,by omega⟩
       · rw [h,Nat.pow_succ,Nat.add_mul]
         refine Prod.ext ?_ (Prod.ext ?_ rfl)
         · show acc+c.toNat % 128 * 128 ^ i+n * (128 ^ i * 128)=acc+(c.toNat % 128 * 128 ^ i+128 * n * 128 ^ i)
           have:n * (128 ^ i * 128)=128 * n * 128 ^ i:=by rw [Nat.mul_comm (128 ^ i) 128,← Nat.mul_assoc,Nat.mul_comm n 128]
           omega
         · show i+1+k=i+(k+1);omega
       · rw [vput_big (by omega),d1,d2,List.take_succ_cons,k4]
         congr 1
         have:c.toNat % 128+128=c.toNat:=by omega
         rw [this];simp
       · rw [vsz_big (by omega),d1,k5];omega
       · intro he
         have e:k+1 - 1=(k - 1)+1:=by omega
         rw [e,Nat.pow_succ,Nat.mul_comm (128 ^ (k - 1)) 128,← Nat.div_div_eq_div_mul,d1]
         exact k6 (by omega)
   rw [if_neg h1]
   by_cases h2:i=9∧1 < c.toNat
   · rw [if_pos h2];exact .inl ⟨3,rfl,by omega⟩
   rw [if_neg h2]
   by_cases h3:0 < i∧c.toNat=0
   · rw [if_pos h3];exact .inl ⟨2,rfl,by omega⟩
   rw [if_neg h3]
   refine .inr ⟨c.toNat,1,rfl,by omega,by omega,by simp,?_,vsz_small (by omega),?_,by omega⟩
   · rw [vput_small (by omega)];simp
   · intro he
     simp only [Nat.sub_self,Nat.pow_zero,Nat.div_one]
     omega
theorem vget_cases (s:List UInt8) :
 (∃ e,vget s=(0,0,e)∧(e=1∨e=2∨e=3)) ∨
 ∃ n k,vget s=(n,k,0)∧n < 18446744073709551616∧1≤k∧k≤10∧k≤s.length∧vput n=s.take k∧vsz n=k:=by
 rcases vgetL_cases s 0 0 (by simp) (by omega) with h | ⟨n,k,h,k1,k2,k3,k4,k5,k6,_⟩
 · exact .inl h
 · refine .inr ⟨n,k,by unfold vget;rw [h];simp,?_,k1,by omega,k3,k4,k5⟩
   have ht:=vtop_lt n
   rw [k5] at ht
   by_cases h10:k=10
   · subst h10
     have:n / 128 ^ 9 < 2:=by have:=k6 (by omega);simp only [Nat.add_one_sub_one] at this;omega
     rw [Nat.div_lt_iff_lt_mul (by decide)] at this
     exact Nat.lt_of_lt_of_le this (by decide)
   · rw [Nat.div_lt_iff_lt_mul (Nat.pow_pos (by omega))] at ht
     have h2:128 * 128 ^ (k - 1)≤128 ^ 9:=by
      rw [Nat.mul_comm,← Nat.pow_succ];exact pow_lt (by omega)
     have h3:128 ^ 9 < 18446744073709551616:=by decide
     omega
end Go.PM
end

section
namespace Go.PM
def cstep (r:Nat):Nat:=if r % 2=1 then r / 2 ^^^ 3988292384 else r / 2
def csteps:Nat→Nat→Nat
 | 0,r => r
 | k+1,r => csteps k (cstep r)
theorem xor_div2 (a b:Nat):(a ^^^ b) / 2=a / 2 ^^^ b / 2:=by
 have:=Nat.shiftRight_xor_distrib (a:=a) (b:=b) (i:=1)
 simpa [Nat.shiftRight_succ] using this
theorem xor_mod2 (a b:Nat):(a ^^^ b) % 2=(a % 2+b % 2) % 2:=by
 have h:∀ x:Nat,x % 2=(x.testBit 0).toNat:=fun x => by
  rw [Nat.testBit_zero]
  rcases Nat.mod_two_eq_zero_or_one x with e | e <;> simp [e]
 rw [h (a ^^^ b),h a,h b,Nat.testBit_xor]
 cases a.testBit 0 <;> cases b.testBit 0 <;> rfl
theorem cstep_xor (a b:Nat):cstep (a ^^^ b)=cstep a ^^^ cstep b:=by
 unfold cstep
 rw [xor_div2,xor_mod2]
 have ha:a % 2=0∨a % 2=1:=by omega
 have hb:b % 2=0∨b % 2=1:=by omega
 rcases ha with ha | ha <;> rcases hb with hb | hb <;> simp [ha,hb]
 · rw [Nat.xor_assoc]
 · rw [Nat.xor_assoc,Nat.xor_assoc,Nat.xor_comm 3988292384]
 · rw [Nat.xor_assoc,Nat.xor_comm 3988292384,Nat.xor_assoc,Nat.xor_self,Nat.xor_zero]
theorem csteps_xor:∀ (k a b:Nat),csteps k (a ^^^ b)=csteps k a ^^^ csteps k b
 | 0,_,_ => rfl
 | k+1,a,b => by rw [csteps,cstep_xor,csteps_xor k];rfl
theorem cstep_lt {r:Nat} (h:r < 4294967296):cstep r < 4294967296:=by
 unfold cstep
 split
 · exact Nat.xor_lt_two_pow (n:=32) (by omega) (by omega)
 · omega
theorem csteps_lt:∀ (k:Nat) {r:Nat},r < 4294967296→csteps k r < 4294967296
 | 0,_,h => h
 | k+1,_,h => csteps_lt k (cstep_lt h)
theorem csteps_shift:∀ (k r:Nat),csteps k (r * 2 ^ k)=r
 | 0,r => by simp [csteps]
 | k+1,r => by
   have e:r * 2 ^ (k+1)=2 * (r * 2 ^ k):=by rw [Nat.pow_succ,Nat.mul_comm (2 ^ k) 2,← Nat.mul_assoc,Nat.mul_comm r 2,Nat.mul_assoc]
   rw [csteps,e]
   have:cstep (2 * (r * 2 ^ k))=r * 2 ^ k:=by
    unfold cstep
    rw [if_neg (by omega)];omega
   rw [this,csteps_shift k]
theorem split_xor (r k:Nat):r=(r % 2 ^ k) ^^^ (r / 2 ^ k * 2 ^ k):=by
 have h:r % 2 ^ k < 2 ^ k:=Nat.mod_lt _ (Nat.pow_pos (by omega))
 apply Nat.eq_of_testBit_eq
 intro i
 rw [Nat.testBit_xor,Nat.testBit_mod_two_pow,Nat.mul_comm,Nat.testBit_two_pow_mul]
 by_cases hi:i < k
 · have:¬ k≤i:=by omega
   simp [hi,this]
 · have:k≤i:=by omega
   simp [hi,this,Nat.testBit_div_two_pow]
theorem csteps_table (k r:Nat):csteps k r=r / 2 ^ k ^^^ csteps k (r % 2 ^ k):=by
 conv => lhs;rw [split_xor r k]
 rw [csteps_xor,csteps_shift,Nat.xor_comm]
def cbyte (r:Nat) (b:UInt8):Nat:=csteps 8 (r ^^^ b.toNat)
def cover (r:Nat) (l:List UInt8):Nat:=l.foldl cbyte r
def csum (l:List UInt8):Nat:=4294967295 ^^^ cover 4294967295 l
def cput (n:Nat):List UInt8:=[UInt8.ofNat (n % 256),UInt8.ofNat (n / 256 % 256),UInt8.ofNat (n / 65536 % 256),UInt8.ofNat (n / 16777216 % 256)]
def cget:List UInt8→Nat
 | [a,b,c,d] => a.toNat+b.toNat * 256+c.toNat * 65536+d.toNat * 16777216
 | _ => 0
theorem cbyte_lt {r:Nat} (h:r < 4294967296) (b:UInt8):cbyte r b < 4294967296 :=
 csteps_lt 8 (Nat.xor_lt_two_pow (n:=32) (by omega) (by have:=b.toNat_lt;omega))
theorem cover_lt:∀ (l:List UInt8) {r:Nat},r < 4294967296→cover r l < 4294967296
 | [],_,h => h
 | b :: l,_,h => cover_lt l (cbyte_lt h b)
theorem cover_append (r:Nat) (a b:List UInt8):cover r (a++b)=cover (cover r a) b:=by simp [cover]
theorem csum_lt (l:List UInt8):csum l < 4294967296:=Nat.xor_lt_two_pow (n:=32) (by omega) (by have:=cover_lt l (r:=4294967295) (by omega);omega)
theorem not_not (r:Nat):4294967295 ^^^ (4294967295 ^^^ r)=r:=by rw [← Nat.xor_assoc,Nat.xor_self,Nat.zero_xor]
theorem cget_put (l:List UInt8) (h:l.length=4):cput (cget l)=l:=by
 match l,h with
 | [a,b,c,d],_ =>
   simp only [cput,cget]
   have:=a.toNat_lt;have:=b.toNat_lt;have:=c.toNat_lt;have:=d.toNat_lt
   rw [show (a.toNat+b.toNat * 256+c.toNat * 65536+d.toNat * 16777216) % 256=a.toNat by omega,
    show (a.toNat+b.toNat * 256+c.toNat * 65536+d.toNat * 16777216) / 256 % 256=b.toNat by omega,
    show (a.toNat+b.toNat * 256+c.toNat * 65536+d.toNat * 16777216) / 65536 % 256=c.toNat by omega,
    show (a.toNat+b.toNat * 256+c.toNat * 65536+d.toNat * 16777216) / 16777216 % 256=d.toNat by omega]
   simp
end Go.PM
end

section
namespace Go.PM
def ftext (p:List UInt8):List UInt8:=[81,70]++vput p.length++p++cput (csum p)
def fsize (n:Nat):Nat:=2+vsz n+n+4
theorem ftext_length (p:List UInt8):(ftext p).length=fsize p.length:=by
 simp [ftext,fsize,vput_length,cput];omega
def fmark (s:List UInt8):Nat :=
 if s.length=0 then 1 else if s.getD 0 0≠81 then 5 else if s.length=1 then 1 else if s.getD 1 0≠70 then 5 else 0
def fbody (s:List UInt8):List UInt8 × Nat × Nat :=
 let g:=vget (s.drop 2)
 if g.2.2≠0 then ([],0,g.2.2)
 else if 65536 < g.1 then ([],0,4)
 else if (s.drop (2+g.2.1)).length < g.1+4 then ([],0,1)
 else if cget (((s.drop (2+g.2.1)).drop g.1).take 4)≠csum ((s.drop (2+g.2.1)).take g.1) then ([],0,6)
 else ((s.drop (2+g.2.1)).take g.1,fsize g.1,0)
def fparse (s:List UInt8):List UInt8 × Nat × Nat:=if fmark s≠0 then ([],0,fmark s) else fbody s
theorem fmark_cases (s:List UInt8):fmark s=0∧(∃ r,s=81 :: 70 :: r)∨fmark s=1∧s.length≤1∨fmark s=5:=by
 unfold fmark
 match s with
 | [] => simp
 | [a] => by_cases h:a=81 <;> simp [h]
 | a :: b :: r => by_cases h:a=81 <;> by_cases h2:b=70 <;> simp [h,h2]
theorem fparse_cases (s:List UInt8):(∃ e,fparse s=([],0,e)∧e≠0) ∨
 ∃ p r,s=ftext p++r∧p.length≤65536∧fparse s=(p,fsize p.length,0):=by
 unfold fparse
 rcases fmark_cases s with ⟨h,r,rfl⟩ | ⟨h,_⟩ | h
 · rw [if_neg (by simp [h])]
   unfold fbody
   simp only [List.drop_succ_cons,List.drop_zero]
   rcases vget_cases r with ⟨e,he,h3⟩ | ⟨n,k,hg,hn,hk,_,hkl,hput,hsz⟩
   · left;refine ⟨e,?_,by omega⟩
     rw [he];simp;omega
   · rw [hg]
     simp only [ne_eq,not_true_eq_false,if_false]
     have hd:(81 :: 70 :: r).drop (2+k)=r.drop k:=by rw [Nat.add_comm];rfl
     rw [hd]
     split
     · exact .inl ⟨4,rfl,by omega⟩
     split
     · exact .inl ⟨1,rfl,by omega⟩
     split
     · exact .inl ⟨6,rfl,by omega⟩
     · rename_i h1 h2 h3
       right
       have hlen:((r.drop k).take n).length=n:=by rw [List.length_take];omega
       refine ⟨(r.drop k).take n,(r.drop k).drop (n+4),?_,by omega,by rw [hlen]⟩
       have h4:(((r.drop k).drop n).take 4).length=4:=by simp at h2 ⊢;omega
       have h3:cget (((r.drop k).drop n).take 4)=csum ((r.drop k).take n):=Classical.not_not.1 h3
       unfold ftext
       rw [hlen,hput,← h3,cget_put _ h4]
       simp only [List.append_assoc,List.cons_append,List.nil_append]
       congr 2
       have e1:(r.drop k).drop (n+4)=((r.drop k).drop n).drop 4:=by rw [List.drop_drop,List.drop_drop,List.drop_drop]
       rw [e1,List.take_append_drop,List.take_append_drop,List.take_append_drop]
 · rw [if_pos (by omega),h];exact .inl ⟨1,rfl,by omega⟩
 · rw [if_pos (by omega),h];exact .inl ⟨5,rfl,by omega⟩
theorem vgetL_more (t:List UInt8):∀ (s:List UInt8) (i acc:Nat),(vgetL i acc s).2.2≠1→vgetL i acc (s++t)=vgetL i acc s
 | [],i,acc,h => by
   by_cases h0:10≤i
   · cases t with
     | nil => rfl
     | cons c t => simp [vgetL,h0]
   · simp [vgetL,h0] at h
 | c :: r,i,acc,h => by
   rw [List.cons_append]
   simp only [vgetL] at h ⊢
   by_cases h0:10≤i
   · simp [h0]
   · simp only [h0,if_false] at h ⊢
     by_cases h1:128≤c.toNat
     · simp only [h1,if_true] at h ⊢
       exact vgetL_more t r _ _ h
     · simp only [h1,if_false]
theorem vget_more (s t:List UInt8) (h:(vget s).2.2≠1):vget (s++t)=vget s:=vgetL_more t s 0 0 h
theorem fbody_more (a b:UInt8) (r t:List UInt8) (h:(fbody (a :: b :: r)).2.2≠1):fbody (a :: b :: (r++t))=fbody (a :: b :: r):=by
 have e2:∀ (k:Nat) (x:List UInt8),(a :: b :: x).drop (2+k)=x.drop k:=fun k x => by rw [Nat.add_comm];rfl
 unfold fbody at h ⊢
 simp only [List.drop_succ_cons,List.drop_zero,e2] at h ⊢
 have hv:(vget r).2.2≠1:=by
  intro hv
  rw [hv] at h
  simp at h
 rw [vget_more r t hv]
 rcases vget_cases r with ⟨e',he',h3⟩ | ⟨n,k,hg,hn,hk,_,hkl,hput,hsz⟩
 · rw [he']
   have:e'≠0:=by omega
   simp only [this,ne_eq,not_false_eq_true,if_true]
 · rw [hg] at h ⊢
   simp only [ne_eq,not_true_eq_false,if_false] at h ⊢
   by_cases h4:65536 < n
   · rw [if_pos h4,if_pos h4]
   · rw [if_neg h4] at h ⊢
     rw [if_neg h4]
     by_cases h5:(r.drop k).length < n+4
     · rw [if_pos h5] at h;simp at h
     · rw [if_neg h5,List.drop_append_of_le_length hkl,if_neg (by rw [List.length_append];omega)]
       rw [List.take_append_of_le_length (by omega),List.drop_append_of_le_length (by omega),List.take_append_of_le_length (by simp at h5 ⊢;omega)]
theorem fparse_more (s t:List UInt8) (h:(fparse s).2.2≠1):fparse (s++t)=fparse s:=by
 unfold fparse at h ⊢
 match s with
 | [] => simp [fmark] at h
 | [a] =>
   by_cases ha:a=81
   · simp [fmark,ha] at h
   · simp [fmark,ha]
 | a :: b :: r =>
   have hm:fmark (a :: b :: r++t)=fmark (a :: b :: r):=by simp [fmark]
   rw [hm]
   by_cases h1:fmark (a :: b :: r)≠0
   · rw [if_pos h1,if_pos h1]
   · rw [if_neg h1] at h ⊢
     rw [if_neg h1]
     exact fbody_more a b r t h
end Go.PM
end

section
namespace Go.PM
/-! ### The number as the document has it: first its size,then its value -/
def rszL:Nat→List UInt8→Nat
 | _,[] => 0
 | i,c :: r => if 10≤i then 0 else if c.toNat < 128 then i+1 else rszL (i+1) r
def rsz (s:List UInt8):Nat:=rszL 0 s
def vacc (s:List UInt8):Nat→Nat
 | 0 => 0
 | i+1 => vacc s i+(s.getD i 0).toNat % 128 * 128 ^ i
/-! ### All numbers,all frames -/
theorem vget_ok {s:List UInt8} (h:(vget s).2.2=0):1≤(vget s).2.1∧(vget s).2.1≤s.length∧(vget s).2.1≤10∧(vget s).1 < 18446744073709551616∧vput (vget s).1=s.take (vget s).2.1:=by
 rcases vget_cases s with ⟨e,he,h3⟩ | ⟨n,k,hg,hn,hk,h10,hkl,hput,hsz⟩
 · rw [he] at h;simp at h;omega
 · rw [hg];exact ⟨hk,hkl,h10,hn,hput⟩
theorem vget_err {s:List UInt8} (h:(vget s).2.2≠0):vget s=(0,0,(vget s).2.2):=by
 rcases vget_cases s with ⟨e,he,h3⟩ | ⟨n,k,hg,_⟩
 · rw [he]
 · rw [hg] at h;simp at h
def vall (s:List UInt8):List Nat × Nat :=
 if s.length=0 then ([],0)
 else if _h:(vget s).2.2=0 then
  let x:=vall (s.drop (vget s).2.1)
  if x.2=0 then ((vget s).1 :: x.1,0) else ([],x.2)
 else ([],(vget s).2.2)
termination_by s.length
decreasing_by
 have:=vget_ok _h
 simp;omega
theorem fparse_ok {s:List UInt8} (h:(fparse s).2.2=0):7≤(fparse s).2.1∧(fparse s).2.1≤s.length∧(fparse s).1.length≤65536∧(fparse s).2.1=fsize (fparse s).1.length∧s.take (fparse s).2.1=ftext (fparse s).1:=by
 rcases fparse_cases s with ⟨e,he,h3⟩ | ⟨p,r,hs,hp,he⟩
 · rw [he] at h;simp at h;omega
 · rw [he]
   have:=vsz_pos p.length
   refine ⟨by simp [fsize];omega,?_,hp,rfl,?_⟩
   · rw [hs,List.length_append,ftext_length];simp
   · rw [hs,← ftext_length];simp
def fall (s:List UInt8):List (List UInt8) × Nat :=
 if s.length=0 then ([],0)
 else if _h:(fparse s).2.2=0 then
  let x:=fall (s.drop (fparse s).2.1)
  if x.2=0 then ((fparse s).1 :: x.1,0) else ([],x.2)
 else ([],(fparse s).2.2)
termination_by s.length
decreasing_by
 have:=fparse_ok _h
 simp;omega
def fof (s:List UInt8):List (List UInt8) × Nat × List UInt8 :=
 if (fparse s).2.2=1 then ([],0,s)
 else if _h:(fparse s).2.2=0 then
  let x:=fof (s.drop (fparse s).2.1)
  ((fparse s).1 :: x.1,x.2)
 else ([],(fparse s).2.2,[])
termination_by s.length
decreasing_by
 have:=fparse_ok _h
 simp;omega
theorem fof_short {s:List UInt8} (h:(fparse s).2.2=1):fof s=([],0,s):=by rw [fof,if_pos h]
theorem fof_ok {s:List UInt8} (h:(fparse s).2.2=0):fof s=((fparse s).1 :: (fof (s.drop (fparse s).2.1)).1,(fof (s.drop (fparse s).2.1)).2):=by
 rw [fof,if_neg (by omega),dif_pos h]
theorem fof_bad {s:List UInt8} (h:(fparse s).2.2≠0) (h1:(fparse s).2.2≠1):fof s=([],(fparse s).2.2,[]):=by
 rw [fof,if_neg h1,dif_neg h]
theorem fof_ind {P:List UInt8→Prop} (h1:∀ s,(fparse s).2.2=1→P s) (h0:∀ s,(fparse s).2.2=0→P (s.drop (fparse s).2.1)→P s)
 (hb:∀ s,(fparse s).2.2≠0→(fparse s).2.2≠1→P s):∀ s,P s:=by
 intro s
 induction hn:s.length using Nat.strongRecOn generalizing s with
 | _ n ih =>
   by_cases e1:(fparse s).2.2=1
   · exact h1 s e1
   by_cases e0:(fparse s).2.2=0
   · refine h0 s e0 (ih _ ?_ _ rfl)
     have:=fparse_ok e0
     simp;omega
   · exact hb s e0 e1
theorem fof_rest:∀ s,(fof s).2.1=0∧(fparse (fof s).2.2).2.2=1∨(fof s).2.1≠0∧(fof s).2.1≠1∧(fof s).2.2=[]:=by
 refine fof_ind ?_ ?_ ?_
 · intro s h;rw [fof_short h];exact .inl ⟨rfl,h⟩
 · intro s h ih;rw [fof_ok h];exact ih
 · intro s h h1;rw [fof_bad h h1];exact .inr ⟨h,h1,rfl⟩
theorem fof_append (t:List UInt8):∀ s,fof (s++t) =
 if (fof s).2.1=0 then ((fof s).1++(fof ((fof s).2.2++t)).1,(fof ((fof s).2.2++t)).2) else fof s:=by
 refine fof_ind ?_ ?_ ?_
 · intro s h;rw [fof_short h];simp
 · intro s h ih
   have hm:=fparse_more s t (by omega)
   have hk:=fparse_ok h
   have e:fof (s++t)=((fparse s).1 :: (fof (s.drop (fparse s).2.1++t)).1,(fof (s.drop (fparse s).2.1++t)).2):=by
    rw [fof_ok (by rw [hm];exact h),hm,List.drop_append_of_le_length hk.2.1]
   rw [e,fof_ok h,ih]
   split <;> rfl
 · intro s h h1
   have hm:=fparse_more s t h1
   rw [fof_bad (by rw [hm];exact h) (by rw [hm];exact h1),hm,fof_bad h h1]
   rw [if_neg h]
/-! ### How many bytes are wanted -/
def fneed (s:List UInt8):Nat:=if s.length < 2 then 0 else if (vget (s.drop 2)).2.2=0 then fsize (vget (s.drop 2)).1 else 0
theorem fneed_ok (s b:List UInt8) (h:(fparse s).2.2=1) (hl:(s++b).length < fneed s):(fparse (s++b)).2.2=1:=by
 unfold fneed at hl
 split at hl
 · simp at hl
 split at hl
 · rename_i h2 h3
   match s,h2 with
   | x :: y :: r,_ =>
     have e2:∀ (k:Nat) (z:List UInt8),(x :: y :: z).drop (2+k)=z.drop k:=fun k z => by rw [Nat.add_comm];rfl
     simp only [List.drop_succ_cons,List.drop_zero] at hl h3
     have hm:fmark (x :: y :: r++b)=fmark (x :: y :: r):=by simp [fmark]
     unfold fparse at h ⊢
     rw [hm]
     by_cases hmk:fmark (x :: y :: r)≠0
     · rw [if_pos hmk] at h ⊢;exact h
     · rw [if_neg hmk] at h ⊢
       unfold fbody at h ⊢
       simp only [List.cons_append,List.drop_succ_cons,List.drop_zero,e2] at h ⊢
       have hv:=vget_more r b (by omega)
       rw [hv]
       rw [if_neg (by omega)] at h ⊢
       by_cases h4:65536 < (vget r).1
       · rw [if_pos h4] at h;simp at h
       · rw [if_neg h4] at h ⊢
         rcases vget_cases r with ⟨e,he,h5⟩ | ⟨n,k,hg,hn,hk,h10,hkl,hput,hsz⟩
         · rw [he] at h3;simp at h3;omega
         · rw [hg] at h hl ⊢
           rw [if_pos]
           unfold fsize at hl
           simp only [List.length_drop,List.length_append,List.length_cons] at hl ⊢
           omega
 · simp at hl
end Go.PM
end

section
namespace Go.PM
open Go.Lib (compareBytes)
theorem u8_tri (a b:UInt8):a < b∨b < a∨a=b:=by
 rw [UInt8.lt_iff_toNat_lt,UInt8.lt_iff_toNat_lt,← UInt8.toNat_inj];omega
theorem u8_asym {a b:UInt8} (h:a < b):¬ b < a:=by
 rw [UInt8.lt_iff_toNat_lt] at *;omega
theorem u8_irr (a:UInt8):¬ a < a:=by rw [UInt8.lt_iff_toNat_lt];omega
theorem u8_trans {a b c:UInt8} (h:a < b) (k:b < c):a < c:=by
 rw [UInt8.lt_iff_toNat_lt] at *;omega
theorem cmpB_self:∀ a:List UInt8,compareBytes a a=0
 | [] => rfl
 | x :: r => by rw [compareBytes,if_neg (u8_irr x),if_neg (u8_irr x),cmpB_self r]
theorem cmpB_eq:∀ a b:List UInt8,compareBytes a b=0→a=b
 | [],[],_ => rfl
 | [],_ :: _,h => by simp [compareBytes] at h
 | _ :: _,[],h => by simp [compareBytes] at h
 | x :: r,y :: s,h => by
   rw [compareBytes] at h
   rcases u8_tri x y with k | k | k
   · rw [if_pos k] at h;omega
   · rw [if_neg (u8_asym k),if_pos k] at h;omega
   · subst k
     rw [if_neg (u8_irr x),if_neg (u8_irr x)] at h
     rw [cmpB_eq r s h]
theorem cmpB_iff (a b:List UInt8):compareBytes a b=0↔a=b:=⟨cmpB_eq a b,fun h => by rw [h,cmpB_self]⟩
theorem cmpB_neg:∀ a b:List UInt8,compareBytes b a = - compareBytes a b
 | [],[] => rfl
 | [],_ :: _ => rfl
 | _ :: _,[] => rfl
 | x :: r,y :: s => by
   rw [compareBytes,compareBytes]
   rcases u8_tri x y with k | k | k
   · rw [if_pos k,if_neg (u8_asym k),if_pos k];rfl
   · rw [if_pos k,if_neg (u8_asym k),if_pos k]
   · subst k
     rw [if_neg (u8_irr x),if_neg (u8_irr x),if_neg (u8_irr x),if_neg (u8_irr x),cmpB_neg r s]
theorem cmpB_range:∀ a b:List UInt8,compareBytes a b = -1∨compareBytes a b=0∨compareBytes a b=1
 | [],[] => by simp [compareBytes]
 | [],_ :: _ => by simp [compareBytes]
 | _ :: _,[] => by simp [compareBytes]
 | x :: r,y :: s => by
   rw [compareBytes]
   have:=cmpB_range r s
   split
   · simp
   · split
     · simp
     · exact this
theorem cmpB_trans:∀ a b c:List UInt8,compareBytes a b < 0→compareBytes b c < 0→compareBytes a c < 0
 | [],[],_,h,_ => by simp [compareBytes] at h
 | [],_ :: _,[],_,k => by simp [compareBytes] at k
 | [],_ :: _,_ :: _,_,_ => by simp [compareBytes]
 | _ :: _,[],_,h,_ => by simp [compareBytes] at h
 | _ :: _,_ :: _,[],_,k => by simp [compareBytes] at k
 | x :: r,y :: s,z :: t,h,k => by
   rw [compareBytes] at h k ⊢
   rcases u8_tri x y with xy | xy | xy
   · rcases u8_tri y z with yz | yz | yz
     · rw [if_pos (u8_trans xy yz)];omega
     · rw [if_neg (u8_asym yz),if_pos yz] at k;omega
     · subst yz;rw [if_pos xy];omega
   · rw [if_neg (u8_asym xy),if_pos xy] at h;omega
   · subst xy
     rw [if_neg (u8_irr x),if_neg (u8_irr x)] at h
     rcases u8_tri x z with yz | yz | yz
     · rw [if_pos yz];omega
     · rw [if_neg (u8_asym yz),if_pos yz] at k;omega
     · subst yz
       rw [if_neg (u8_irr x),if_neg (u8_irr x)] at k
       rw [if_neg (u8_irr x),if_neg (u8_irr x)]
       exact cmpB_trans r s t h k
theorem less_cmp:∀ a b:List UInt8,Op.bytesLess a b=decide (compareBytes a b < 0)
 | [],[] => by simp [Op.bytesLess,compareBytes]
 | _ :: _,[] => by simp [Op.bytesLess,compareBytes]
 | [],_ :: _ => by simp [Op.bytesLess,compareBytes]
 | x :: r,y :: s => by
   rw [Op.bytesLess,compareBytes,less_cmp r s]
   rcases u8_tri x y with k | k | k
   · simp [k]
   · have h1:=u8_asym k
     have h2:x≠y:=fun e => by subst e;exact u8_irr x k
     simp [h1,h2,k]
   · subst k
     simp
def ecmp (ak av bk bv:List UInt8):Int:=if compareBytes ak bk≠0 then compareBytes ak bk else compareBytes av bv
theorem ecmp_neg (ak av bk bv:List UInt8):ecmp bk bv ak av = - ecmp ak av bk bv:=by
 unfold ecmp
 rw [cmpB_neg ak bk,cmpB_neg av bv]
 by_cases h:compareBytes ak bk=0
 · simp [h]
 · rw [if_pos (by omega),if_pos h]
theorem ecmp_iff (ak av bk bv:List UInt8):ecmp ak av bk bv=0↔ak=bk∧av=bv:=by
 unfold ecmp
 by_cases h:compareBytes ak bk=0
 · rw [if_neg (by omega),cmpB_iff]
   have:=(cmpB_iff ak bk).1 h
   simp [this]
 · rw [if_pos h]
   have:ak≠bk:=fun e => h ((cmpB_iff ak bk).2 e)
   simp [h,this]
theorem ecmp_trans (ak av bk bv ck cv:List UInt8) (h:ecmp ak av bk bv < 0) (k:ecmp bk bv ck cv < 0):ecmp ak av ck cv < 0:=by
 unfold ecmp at *
 by_cases h1:compareBytes ak bk=0
 · have e1:=(cmpB_iff ak bk).1 h1
   subst e1
   rw [if_neg (by omega)] at h
   by_cases h2:compareBytes ak ck=0
   · rw [if_neg (by omega)] at k ⊢
     exact cmpB_trans _ _ _ h k
   · rw [if_pos h2] at k ⊢;exact k
 · rw [if_pos h1] at h
   by_cases h2:compareBytes bk ck=0
   · have e2:=(cmpB_iff bk ck).1 h2
     subst e2
     rw [if_pos h1];exact h
   · rw [if_pos h2] at k
     have:=cmpB_trans _ _ _ h k
     rw [if_pos (by omega)];exact this
def eput (k v:List UInt8):List UInt8:=vput k.length++(k++(vput v.length++v))
def etx (s:List UInt8):List UInt8 × Nat × Nat :=
 if (vget s).2.2≠0 then ([],0,(vget s).2.2) else if s.length - (vget s).2.1 < (vget s).1 then ([],0,1) else ((s.drop (vget s).2.1).take (vget s).1,(vget s).2.1+(vget s).1,0)
theorem etx_ok {s:List UInt8} (h:(etx s).2.2=0):(etx s).2.1≤s.length∧1≤(etx s).2.1∧s.take (etx s).2.1=vput (etx s).1.length++(etx s).1∧(etx s).1.length < 18446744073709551616:=by
 unfold etx at *
 split at h
 · rename_i k;exact absurd h k
 · rename_i k
   split at h
   · exact absurd h (by simp)
   · rename_i k2
     obtain ⟨h1,h2,h3,h4,h5⟩:=vget_ok (s:=s) (by omega)
     rw [if_neg k,if_neg k2]
     simp only
     have hl:((s.drop (vget s).2.1).take (vget s).1).length=(vget s).1:=by rw [List.length_take,List.length_drop];omega
     refine ⟨by omega,by omega,?_,by omega⟩
     rw [hl,h5,List.take_add]
theorem etx_put (k r:List UInt8) (hk:k.length < 18446744073709551616):etx (vput k.length++(k++r))=(k,(vput k.length).length+k.length,0):=by
 have e:=vget_put k.length hk (k++r)
 unfold etx
 rw [e]
 simp only
 rw [if_neg (by simp),← vput_length,if_neg (by simp only [List.length_append];omega),List.drop_left,List.take_left' rfl]
def enx (chk:List UInt8→List UInt8→Int) (s:List UInt8):(List UInt8 × List UInt8) × Nat × Int :=
 if (etx s).2.2≠0 then (([],[]),0,((etx s).2.2:Int))
 else if (etx (s.drop (etx s).2.1)).2.2≠0 then (([],[]),0,((etx (s.drop (etx s).2.1)).2.2:Int))
 else if chk (etx s).1 (etx (s.drop (etx s).2.1)).1≠0 then (([],[]),0,chk (etx s).1 (etx (s.drop (etx s).2.1)).1)
 else (((etx s).1,(etx (s.drop (etx s).2.1)).1),(etx s).2.1+(etx (s.drop (etx s).2.1)).2.1,0)
theorem enx_ok {chk:List UInt8→List UInt8→Int} {s:List UInt8} (h:(enx chk s).2.2=0) :
 (enx chk s).2.1≤s.length∧1≤(enx chk s).2.1∧s.take (enx chk s).2.1=eput (enx chk s).1.1 (enx chk s).1.2∧chk (enx chk s).1.1 (enx chk s).1.2=0:=by
 unfold enx at *
 split at h
 · rename_i k;simp at h;exact absurd h k
 · rename_i k1
   rw [if_neg k1]
   split at h
   · rename_i k;simp at h;exact absurd h k
   · rename_i k2
     rw [if_neg k2]
     split at h
     · rename_i k;exact absurd h k
     · rename_i k3
       rw [if_neg k3]
       obtain ⟨a1,a2,a3,a4⟩:=etx_ok (s:=s) (by omega)
       obtain ⟨b1,b2,b3,b4⟩:=etx_ok (s:=s.drop (etx s).2.1) (by omega)
       rw [List.length_drop] at b1
       simp only
       refine ⟨by omega,by omega,?_,by omega⟩
       rw [List.take_add,a3,b3]
       simp [eput]
theorem eput_length (k v:List UInt8):(eput k v).length=(vput k.length).length+k.length+((vput v.length).length+v.length):=by
 simp [eput];omega
theorem enx_put (chk:List UInt8→List UInt8→Int) (k v r:List UInt8) (hk:k.length < 18446744073709551616) (hv:v.length < 18446744073709551616) :
 enx chk (eput k v++r)=if chk k v≠0 then (([],[]),0,chk k v) else ((k,v),(eput k v).length,0):=by
 have e1:etx (eput k v++r)=(k,(vput k.length).length+k.length,0):=by
  have:=etx_put k (vput v.length++v++r) hk
  simpa [eput] using this
 have e2:(eput k v++r).drop ((vput k.length).length+k.length)=vput v.length++(v++r):=by
  have:eput k v++r=(vput k.length++k)++(vput v.length++(v++r)):=by simp [eput]
  rw [this]
  exact List.drop_left' (by simp)
 have e3:=etx_put v r hv
 unfold enx
 rw [e1]
 simp only
 rw [if_neg (by simp),e2,e3]
 simp only
 rw [if_neg (by simp),eput_length]
end Go.PM
end

section
namespace Go.PM
open Go.Lib (compareBytes)
abbrev Ent:=List UInt8 × List UInt8
def ecm (a b:Ent):Int:=ecmp a.1 a.2 b.1 b.2
theorem ecm_neg (a b:Ent):ecm b a = - ecm a b:=ecmp_neg _ _ _ _
theorem ecm_iff (a b:Ent):ecm a b=0↔a=b:=by
 unfold ecm
 rw [ecmp_iff,Prod.ext_iff]
theorem ecm_trans {a b c:Ent} (h:ecm a b < 0) (k:ecm b c < 0):ecm a c < 0:=ecmp_trans _ _ _ _ _ _ h k
theorem ecm_le_trans {a b c:Ent} (h:ecm a b≤0) (k:ecm b c≤0):ecm a c≤0:=by
 by_cases h0:ecm a b=0
 · rw [(ecm_iff a b).1 h0];exact k
 by_cases k0:ecm b c=0
 · rw [← (ecm_iff b c).1 k0];exact h
 · have:=ecm_trans (a:=a) (b:=b) (c:=c) (by omega) (by omega);omega
def eins (x:Ent):List Ent→List Ent
 | [] => [x]
 | y :: r => if ecm y x < 0 then y :: eins x r else x :: y :: r
def efold:List Ent→List Ent→List Ent
 | acc,[] => acc
 | acc,x :: r => efold (eins x acc) r
def esort (l:List Ent):List Ent:=efold [] l
theorem eins_perm (x:Ent):∀ l:List Ent,(eins x l).Perm (x :: l)
 | [] => List.Perm.refl _
 | y :: r => by
   rw [eins]
   split
   · exact ((eins_perm x r).cons y).trans (List.Perm.swap x y r)
   · exact List.Perm.refl _
theorem efold_perm:∀ (l acc:List Ent),(efold acc l).Perm (acc++l)
 | [],acc => by rw [efold,List.append_nil]
 | x :: r,acc => by
   rw [efold]
   exact (efold_perm r _).trans (((eins_perm x acc).append_right r).trans List.perm_middle.symm)
theorem esort_perm (l:List Ent):(esort l).Perm l:=efold_perm l []
theorem eins_le (x:Ent):∀ l:List Ent,l.Pairwise (fun a b => ecm a b≤0)→(eins x l).Pairwise (fun a b => ecm a b≤0)
 | [],_ => by simp [eins]
 | y :: r,h => by
   rw [List.pairwise_cons] at h
   rw [eins]
   split
   · rename_i hlt
     rw [List.pairwise_cons]
     refine ⟨fun b hb => ?_,eins_le x r h.2⟩
     rcases List.mem_cons.1 ((eins_perm x r).mem_iff.1 hb) with rfl | hb
     · omega
     · exact h.1 b hb
   · rename_i hlt
     rw [List.pairwise_cons]
     have hxy:ecm x y≤0:=by have:=ecm_neg x y;omega
     refine ⟨fun b hb => ?_,by rw [List.pairwise_cons];exact h⟩
     rcases List.mem_cons.1 hb with rfl | hb
     · exact hxy
     · exact ecm_le_trans hxy (h.1 b hb)
theorem efold_le:∀ (l acc:List Ent),acc.Pairwise (fun a b => ecm a b≤0)→(efold acc l).Pairwise (fun a b => ecm a b≤0)
 | [],_,h => h
 | x :: r,acc,h => by rw [efold];exact efold_le r _ (eins_le x acc h)
theorem esort_le (l:List Ent):(esort l).Pairwise (fun a b => ecm a b≤0):=efold_le l [] List.Pairwise.nil
theorem eord_one:∀ l l':List Ent,l.Perm l'→l.Pairwise (fun a b => ecm a b≤0)→l'.Pairwise (fun a b => ecm a b≤0)→l=l'
 | [],l',hp,_,_ => (List.nil_perm.1 hp).symm
 | x :: r,[],hp,_,_ => absurd (List.perm_nil.1 hp) (by simp)
 | x :: r,y :: s,hp,h,h' => by
   rw [List.pairwise_cons] at h h'
   have hx:x ∈ y :: s:=hp.mem_iff.1 (by simp)
   have hy:y ∈ x :: r:=hp.mem_iff.2 (by simp)
   have e:x=y:=by
    rcases List.mem_cons.1 hx with e | hx
    · exact e
    rcases List.mem_cons.1 hy with e | hy
    · exact e.symm
    have h1:=h'.1 x hx
    have h2:=h.1 y hy
    have h3:=ecm_neg x y
    exact (ecm_iff x y).1 (by omega)
   subst e
   rw [eord_one r s (List.Perm.cons_inv hp) h.2 h'.2]
theorem esort_of {l l':List Ent} (hp:l.Perm l') (hs:l'.Pairwise (fun a b => ecm a b≤0)):l'=esort l:=eord_one l' _ (hp.symm.trans (esort_perm l).symm) hs (esort_le l)
def dmany (n:Nat):Int:=if n=0 then 12 else if 16 < n then 13 else 0
def dbeh (a k:List UInt8):Int:=if k=a then 14 else if compareBytes k a < 0 then 7 else 0
def dbehO:Option (List UInt8)→List UInt8→Int
 | none,_ => 0
 | some a,k => dbeh a k
section
variable (chk:List UInt8→List UInt8→Int)
def dchk1:Option (List UInt8)→List Ent→Int
 | _,[] => 0
 | p,e :: r => if chk e.1 e.2≠0 then chk e.1 e.2 else if dbehO p e.1≠0 then dbehO p e.1 else dchk1 (some e.1) r
def dchk (l:List Ent):Int:=if dmany l.length≠0 then dmany l.length else dchk1 chk none l
def dall:List Ent→Int
 | [] => 0
 | e :: r => if chk e.1 e.2≠0 then chk e.1 e.2 else dall r
def dtw:List Ent→Bool
 | a :: b :: r => decide (b.1=a.1) || dtw (b :: r)
 | _ => false
def dof (l:List Ent):List Ent × Int :=
 if dmany l.length≠0 then ([],dmany l.length) else if dall chk l≠0 then ([],dall chk l) else if dtw (esort l)=true then ([],14) else (esort l,0)
def dkeyL (l:List Ent):List UInt8:=(l.map fun e => eput e.1 e.2).flatten
def dkey (l:List Ent):List UInt8:=vput l.length++dkeyL l
def dloop:Nat→Option (List UInt8)→List UInt8→List Ent × Nat × Int
 | 0,_,_ => ([],0,0)
 | n+1,p,s =>
   if (enx chk s).2.2≠0 then ([],0,(enx chk s).2.2) else if dbehO p (enx chk s).1.1≠0 then ([],0,dbehO p (enx chk s).1.1)
   else if (dloop n (some (enx chk s).1.1) (s.drop (enx chk s).2.1)).2.2≠0 then ([],0,(dloop n (some (enx chk s).1.1) (s.drop (enx chk s).2.1)).2.2)
   else ((enx chk s).1 :: (dloop n (some (enx chk s).1.1) (s.drop (enx chk s).2.1)).1,(enx chk s).2.1+(dloop n (some (enx chk s).1.1) (s.drop (enx chk s).2.1)).2.1,0)
def dnext (s:List UInt8):List Ent × Nat × Int :=
 if (vget s).2.2≠0 then ([],0,((vget s).2.2:Int)) else if dmany (vget s).1≠0 then ([],0,dmany (vget s).1)
 else if (dloop chk (vget s).1 none (s.drop (vget s).2.1)).2.2≠0 then ([],0,(dloop chk (vget s).1 none (s.drop (vget s).2.1)).2.2)
 else ((dloop chk (vget s).1 none (s.drop (vget s).2.1)).1,(vget s).2.1+(dloop chk (vget s).1 none (s.drop (vget s).2.1)).2.1,0)
def dparse (s:List UInt8):List Ent × Int:=if (dnext chk s).2.2≠0 then ([],(dnext chk s).2.2) else if (dnext chk s).2.1 < s.length then ([],10) else ((dnext chk s).1,0)
variable {chk}
theorem dchk1_all:∀ {l:List Ent} {p:Option (List UInt8)},dchk1 chk p l=0→dall chk l=0
 | [],_,_ => rfl
 | e :: r,p,h => by
   rw [dchk1] at h
   rw [dall]
   split at h
   · rename_i k;exact absurd h k
   · rename_i k
     rw [if_neg k]
     split at h
     · rename_i k;exact absurd h k
     · exact dchk1_all h
theorem dbeh_lt {a k:List UInt8} (h:dbeh a k=0):compareBytes a k < 0:=by
 unfold dbeh at h
 split at h
 · exact absurd h (by decide)
 · rename_i e
   split at h
   · exact absurd h (by decide)
   · have h1:=cmpB_neg a k
     have h2:compareBytes a k≠0:=fun e' => e ((cmpB_iff a k).1 e').symm
     omega
theorem dbeh_of {a k:List UInt8} (h:compareBytes a k < 0):dbeh a k=0:=by
 have h1:=cmpB_neg a k
 unfold dbeh
 rw [if_neg (fun e => by rw [e,cmpB_self] at h;omega),if_neg (by omega)]
theorem dall_iff:∀ m:List Ent,dall chk m=0↔∀ e ∈ m,chk e.1 e.2=0
 | [] => by simp [dall]
 | e :: r => by
   rw [dall]
   by_cases k:chk e.1 e.2=0
   · rw [if_neg (by omega),dall_iff r];simp [k]
   · rw [if_pos k];simp [k]
theorem dloop_ok:∀ (n:Nat) (p:Option (List UInt8)) (s:List UInt8),(dloop chk n p s).2.2=0 →
 (dloop chk n p s).2.1≤s.length∧s.take (dloop chk n p s).2.1=dkeyL (dloop chk n p s).1∧(dloop chk n p s).1.length=n∧dchk1 chk p (dloop chk n p s).1=0
 | 0,p,s,_ => by simp [dloop,dkeyL,dchk1]
 | n+1,p,s,h => by
   rw [dloop] at h ⊢
   split at h
   · rename_i k;exact absurd h k
   rename_i k1
   rw [if_neg k1]
   split at h
   · rename_i k;exact absurd h k
   rename_i k2
   rw [if_neg k2]
   split at h
   · rename_i k;exact absurd h k
   rename_i k3
   rw [if_neg k3]
   obtain ⟨a1,a2,a3,a4⟩:=enx_ok (chk:=chk) (s:=s) (by omega)
   obtain ⟨b1,b2,b3,b4⟩:=dloop_ok n (some (enx chk s).1.1) (s.drop (enx chk s).2.1) (by omega)
   rw [List.length_drop] at b1
   simp only
   refine ⟨by omega,?_,by rw [List.length_cons,b3],?_⟩
   · rw [List.take_add,a3,b2]
     simp [dkeyL]
   · rw [dchk1,if_neg (by omega),if_neg k2]
     exact b4
theorem dloop_put (r:List UInt8):∀ (l:List Ent) (p:Option (List UInt8)),dchk1 chk p l=0→(∀ e ∈ l,e.1.length < 18446744073709551616∧e.2.length < 18446744073709551616)→dloop chk l.length p (dkeyL l++r)=(l,(dkeyL l).length,0)
 | [],p,_,_ => by simp [dloop,dkeyL]
 | e :: m,p,h,hl => by
   rw [dchk1] at h
   split at h
   · rename_i k;exact absurd h k
   rename_i k1
   split at h
   · rename_i k;exact absurd h k
   rename_i k2
   have e1:dkeyL (e :: m)++r=eput e.1 e.2++(dkeyL m++r):=by simp [dkeyL]
   have e2:=enx_put chk e.1 e.2 (dkeyL m++r) (hl e (by simp)).1 (hl e (by simp)).2
   rw [if_neg k1] at e2
   have ih:=dloop_put r m (some e.1) h fun x hx => hl x (by simp [hx])
   rw [List.length_cons,dloop,e1,e2]
   simp only
   rw [if_neg (by simp),if_neg k2,List.drop_left,ih]
   simp [dkeyL]
theorem dnext_put (l:List Ent) (r:List UInt8) (h:dchk chk l=0) (hl:∀ e ∈ l,e.1.length < 18446744073709551616∧e.2.length < 18446744073709551616):dnext chk (dkey l++r)=(l,(dkey l).length,0):=by
 unfold dchk at h
 split at h
 · rename_i k;exact absurd h k
 rename_i k
 have hm:l.length≤16:=by
  unfold dmany at k
  by_cases h0:l.length=0
  · omega
  by_cases h1:16 < l.length
  · rw [if_neg h0,if_pos h1] at k;exact absurd (by decide) k
  · omega
 have e1:dkey l++r=vput l.length++(dkeyL l++r):=by simp [dkey]
 have e2:=vget_put l.length (by omega) (dkeyL l++r)
 have e3:=dloop_put r l none h hl
 unfold dnext
 rw [e1,e2]
 simp only
 rw [if_neg (by simp),if_neg k,← vput_length,List.drop_left,e3]
 simp [dkey]
theorem dnext_ok {s:List UInt8} (h:(dnext chk s).2.2=0):(dnext chk s).2.1≤s.length∧s.take (dnext chk s).2.1=dkey (dnext chk s).1∧dchk chk (dnext chk s).1=0:=by
 unfold dnext at *
 split at h
 · rename_i k;simp at h;exact absurd h k
 rename_i k1
 rw [if_neg k1]
 split at h
 · rename_i k;exact absurd h k
 rename_i k2
 rw [if_neg k2]
 split at h
 · rename_i k;exact absurd h k
 rename_i k3
 rw [if_neg k3]
 obtain ⟨a1,a2,a3,a4,a5⟩:=vget_ok (s:=s) (by omega)
 obtain ⟨b1,b2,b3,b4⟩:=dloop_ok (chk:=chk) (vget s).1 none (s.drop (vget s).2.1) (by omega)
 rw [List.length_drop] at b1
 simp only
 refine ⟨by omega,?_,?_⟩
 · rw [List.take_add,b2,← a5]
   unfold dkey
   rw [b3]
 · unfold dchk
   rw [b3,if_neg k2]
   exact b4
theorem dparse_ok {s:List UInt8} (h:(dparse chk s).2=0):s=dkey (dparse chk s).1∧dchk chk (dparse chk s).1=0:=by
 unfold dparse at *
 split at h
 · rename_i k;exact absurd h k
 rename_i k1
 rw [if_neg k1]
 split at h
 · exact absurd h (by decide)
 rename_i k2
 rw [if_neg k2]
 obtain ⟨a1,a2,a3⟩:=dnext_ok (chk:=chk) (s:=s) (by omega)
 simp only
 refine ⟨?_,a3⟩
 rw [← a2,List.take_of_length_le (by omega)]
theorem dparse_put {l:List Ent} (h:dchk chk l=0) (hl:∀ e ∈ l,e.1.length < 18446744073709551616∧e.2.length < 18446744073709551616):dparse chk (dkey l)=(l,0):=by
 have:=dnext_put l [] h hl
 rw [List.append_nil] at this
 unfold dparse
 rw [this]
 simp
end
end Go.PM
end

section
namespace Go.PM
open Go.Lib (compareBytes)
def pcom:List UInt8→List UInt8→Nat
 | a :: x,b :: y => if a=b then pcom x y+1 else 0
 | _,_ => 0
theorem pcom_le:∀ a b:List UInt8,pcom a b≤a.length∧pcom a b≤b.length
 | [],_ => by simp [pcom]
 | _ :: _,[] => by simp [pcom]
 | a :: x,b :: y => by
   have:=pcom_le x y
   rw [pcom]
   split <;> simp <;> omega
theorem pcom_take:∀ a b:List UInt8,a.take (pcom a b)=b.take (pcom a b)
 | [],b => by simp [pcom]
 | _ :: _,[] => by simp [pcom]
 | a :: x,b :: y => by
   rw [pcom]
   split
   · rename_i h
     rw [List.take_succ_cons,List.take_succ_cons,pcom_take x y,h]
   · simp
theorem pcom_ge:∀ (k:Nat) (a b:List UInt8),k≤a.length→k≤b.length→a.take k=b.take k→k≤pcom a b
 | 0,_,_,_,_,_ => Nat.zero_le _
 | k+1,[],_,h,_,_ => by simp at h
 | k+1,_ :: _,[],_,h,_ => by simp at h
 | k+1,a :: x,b :: y,h1,h2,h => by
   rw [List.take_succ_cons,List.take_succ_cons] at h
   injection h with h3 h4
   have:=pcom_ge k x y (by simpa using h1) (by simpa using h2) h4
   rw [pcom,if_pos h3]
   omega
def pone (a s:List UInt8):List UInt8:=vput (pcom a s)++(vput (s.length - pcom a s)++s.drop (pcom a s))
def pnx (o:Option (List UInt8)) (s:List UInt8):List UInt8 × Nat × Int :=
 if (vget s).2.2≠0 then ([],0,((vget s).2.2:Int))
 else if (o.getD []).length < (vget s).1 then ([],0,23)
 else if (vget (s.drop (vget s).2.1)).2.2≠0 then ([],0,((vget (s.drop (vget s).2.1)).2.2:Int))
 else if s.length - (vget s).2.1 - (vget (s.drop (vget s).2.1)).2.1 < (vget (s.drop (vget s).2.1)).1 then ([],0,1)
 else if o≠none∧¬ compareBytes (o.getD []) ((o.getD []).take (vget s).1++(s.drop ((vget s).2.1+(vget (s.drop (vget s).2.1)).2.1)).take (vget (s.drop (vget s).2.1)).1) < 0 then ([],0,7)
 else if (vget s).1 < pcom (o.getD []) ((o.getD []).take (vget s).1++(s.drop ((vget s).2.1+(vget (s.drop (vget s).2.1)).2.1)).take (vget (s.drop (vget s).2.1)).1) then ([],0,23)
 else ((o.getD []).take (vget s).1++(s.drop ((vget s).2.1+(vget (s.drop (vget s).2.1)).2.1)).take (vget (s.drop (vget s).2.1)).1,(vget s).2.1+(vget (s.drop (vget s).2.1)).2.1+(vget (s.drop (vget s).2.1)).1,0)
theorem pnx_ok {o:Option (List UInt8)} {s:List UInt8} (h:(pnx o s).2.2=0):(pnx o s).2.1≤s.length∧s.take (pnx o s).2.1=pone (o.getD []) (pnx o s).1∧∀ a,o=some a→compareBytes a (pnx o s).1 < 0:=by
 unfold pnx at *
 split at h
 · rename_i k;simp at h;exact absurd h k
 rename_i k1
 rw [if_neg k1]
 split at h
 · exact absurd h (by decide)
 rename_i k2
 rw [if_neg k2]
 split at h
 · rename_i k;simp at h;exact absurd h k
 rename_i k3
 rw [if_neg k3]
 split at h
 · exact absurd h (by decide)
 rename_i k4
 rw [if_neg k4]
 split at h
 · exact absurd h (by decide)
 rename_i k5
 rw [if_neg k5]
 split at h
 · exact absurd h (by decide)
 rename_i k6
 rw [if_neg k6]
 obtain ⟨a1,a2,a3,a4,a5⟩:=vget_ok (s:=s) (by omega)
 obtain ⟨b1,b2,b3,b4,b5⟩:=vget_ok (s:=s.drop (vget s).2.1) (by omega)
 rw [List.length_drop] at b2
 generalize (vget s).1=n at *
 generalize (vget s).2.1=i at *
 generalize (vget (s.drop i)).1=m at *
 generalize (vget (s.drop i)).2.1=j at *
 generalize hA:o.getD []=A at *
 simp only
 have hnA:n≤A.length:=by omega
 have hl:((s.drop (i+j)).take m).length=m:=by rw [List.length_take,List.length_drop];omega
 have hge:n≤pcom A (A.take n++(s.drop (i+j)).take m):=by
  refine pcom_ge n _ _ hnA (by rw [List.length_append,List.length_take];omega) ?_
  rw [List.take_append_of_le_length (by rw [List.length_take];omega),List.take_take,Nat.min_self]
 have hc:pcom A (A.take n++(s.drop (i+j)).take m)=n:=by omega
 refine ⟨by omega,?_,fun a ha => ?_⟩
 · unfold pone
   rw [hc,List.take_add,List.take_add,List.length_append,hl,List.length_take,Nat.min_eq_left hnA,Nat.add_sub_cancel_left,← a5,← b5]
   rw [List.drop_append_of_le_length (by rw [List.length_take];omega),List.drop_take,Nat.sub_self,List.take_zero,List.nil_append,List.append_assoc]
 · have h1:o≠none:=by rw [ha];simp
   have h2:A=a:=by rw [← hA,ha];rfl
   have h3:=Decidable.not_and_iff_or_not.1 k5
   rcases h3 with h3 | h3
   · exact absurd h1 h3
   · rw [← h2]
     exact Decidable.not_not.1 h3
theorem pnx_put (o:Option (List UInt8)) (t r:List UInt8) (ho:∀ a,o=some a→compareBytes a t < 0∧a.length < 18446744073709551616) (ht:t.length < 18446744073709551616):pnx o (pone (o.getD []) t++r)=(t,(pone (o.getD []) t).length,0):=by
 generalize hA:o.getD []=A at *
 have hcl:=pcom_le A t
 have hct:=pcom_take A t
 have e0:pone A t++r=vput (pcom A t)++(vput (t.length - pcom A t)++(t.drop (pcom A t)++r)):=by simp [pone]
 have e1:=vget_put (pcom A t) (by omega) (vput (t.length - pcom A t)++(t.drop (pcom A t)++r))
 have e2:=vget_put (t.length - pcom A t) (by omega) (t.drop (pcom A t)++r)
 have hdl:(t.drop (pcom A t)).length=t.length - pcom A t:=List.length_drop
 unfold pnx
 rw [e0,e1,hA]
 simp only
 rw [if_neg (by simp),if_neg (by omega),← vput_length,List.drop_left,e2]
 simp only
 rw [← vput_length (t.length - pcom A t),← List.drop_drop,List.drop_left,List.drop_left,List.take_append_of_le_length (by omega),List.take_of_length_le (by omega:(t.drop (pcom A t)).length≤t.length - pcom A t),hct,List.take_append_drop]
 rw [if_neg (by simp),if_neg (by simp only [List.length_append];omega),if_neg (by
  rintro ⟨h1,h2⟩
  cases o with
  | none => exact h1 rfl
  | some a =>
    have h3:A=a:=hA.symm
    rw [h3] at h2
    exact h2 (ho a rfl).1),if_neg (by omega)]
 simp [pone,hdl]
 omega
end Go.PM
end
