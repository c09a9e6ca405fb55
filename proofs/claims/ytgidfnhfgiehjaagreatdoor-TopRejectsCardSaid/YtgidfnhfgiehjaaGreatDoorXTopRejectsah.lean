/-
  Texts of the proof, joined: Varint2 Ref02 Ref02b Crc Crc2 Crc3 Frame Frame2 Ref05 Frame3 CursorLaw VarintLaw PlainMore VarintLaw2 Zigzag ZigzagLaw CrcLaw. Conditions: as each names.
-/
import Derived.Test.YtgidfnhfgiehjaaGreatDoorXTopRejectsag
import Derived.Test.YtgidfnhfgiehjaaGreatDoorXTopRejectsab
import Derived.Test.YtgidfnhfgiehjaaGreatDoorXTopRejectsac
import Derived.Laws.BitsAllLaws
import Derived.Deep.WholeRow
import Derived.Test.YtgidfnhfgiehjaaGreatDoorXTopRejectsaa

section
namespace Go.Proofs.YtgidfnhfgiehjaaGreatDoor
open Go.RowKit Go.PM
set_option maxRecDepth 100000
theorem next_any (b:Nat) (s:ByteArray) (k:Nat) (w:World) (h:Cur w b s k) :
 Calls Tryz.prog 174 #[.pointer (some ⟨b,0,none⟩)] w fun e w' =>
  e=.returned (.tuple #[.int .u64 ((vget (s.data.toList.drop k)).1:Int),.int .i64 ((vget (s.data.toList.drop k)).2.2:Int)])∧Cur w' b s (k+(vget (s.data.toList.drop k)).2.1)∧w.grownBy w' (some b):=by
 have H:=Lib.hid h
 have hk:=h.2.1
 have hs:=h.2.2
 generalize hV:vget (s.data.toList.drop k)=V
 obtain ⟨n,m,g⟩:=V
 simp only
 have HV:=Lib.hid hV
 clear h hV
 go_enter Tryz.func174,Tryz.ntmps174
 go_wp2_with (go_at_call 213;refine (cur_rest b s k _ H.out).mono ?_;rintro e w1 ⟨rfl,hb1⟩)
 refine (get_any _ _ (by simp;omega)).mono ?_
 rintro e w2 ⟨rfl,hb2⟩
 rw [ext_rest,HV.out]
 have hc:Cur w2 b s k:=⟨(H.out.1.below hb1 H.out.1.lt).below hb2 (by have:=hb1.size;have:=H.out.1.lt;omega),hk,hs⟩
 have HC:=Lib.hid hc
 clear hc
 by_cases hv:g=0
 · subst hv
   have hk2:=vget_ok (s:=s.data.toList.drop k) (by rw [HV.out])
   rw [HV.out] at hk2
   obtain ⟨k1,k2,k3,k4,k5⟩:=hk2
   simp only at k1 k2 k3
   rw [List.length_drop,len_list] at k2
   clear k4 k5
   go_wp2_with (go_at_call 214;refine (cur_take_yes b s k (m:Int) _ HC.out (by omega) (by omega)).mono ?_;rintro e w3 ⟨rfl,hc3,hg3⟩)
   go_ret2
   exact ⟨rfl,by simpa using hc3,grown_trans (grown_of_below (bb hb1 hb2) _) hg3 (fun x e _ => e)⟩
 · have hve:=vget_err (s:=s.data.toList.drop k) (by rw [HV.out];exact hv)
   rw [HV.out] at hve
   obtain ⟨rfl,rfl⟩:n=0∧m=0:=by simpa using hve
   have hv2:((g:Int) == 0)=false:=by rw [beq_eq_false_iff_ne];omega
   have hv3:((g:Int) != 0)=true:=by rw [bne_iff_ne];omega
   clear hve hv
   go_wp2_with fail
   go_ret2
   exact ⟨rfl,HC.out,grown_of_below (bb hb1 hb2) _⟩
def AllOf (S done:List Nat) (c:Nat) (R:List UInt8):Prop:=(if (vall R).2=0 then (done++(vall R).1,0) else ([],(vall R).2))=(S,c)
theorem AllOf.start (l:List UInt8):AllOf (vall l).1 [] (vall l).2 l:=by
 unfold AllOf
 split
 · rename_i h;rw [h];rfl
 · rename_i h
   have:(vall l).1=[]:=by
    rw [vall] at h ⊢
    split
    · rfl
    · rename_i h1;rw [if_neg h1] at h
      split
      · rename_i h2;rw [dif_pos h2] at h
        simp only at h ⊢
        split
        · rename_i h3;rw [if_pos h3] at h;simp at h
        · rfl
      · rfl
   rw [this]
theorem AllOf.stop {S done:List Nat} {c:Nat} (h:AllOf S done c []):S=done∧c=0:=by
 unfold AllOf at h
 rw [vall] at h
 simp at h
 exact ⟨h.1.symm,h.2.symm⟩
theorem AllOf.err {S done:List Nat} {c:Nat} {R:List UInt8} (h:AllOf S done c R) (hR:R.length≠0) (hv:(vget R).2.2≠0):S=[]∧c=(vget R).2.2:=by
 unfold AllOf at h
 rw [vall,if_neg hR,dif_neg hv] at h
 simp [hv] at h
 exact ⟨h.1,h.2.symm⟩
theorem AllOf.next {S done:List Nat} {c:Nat} {R:List UInt8} (h:AllOf S done c R) (hR:R.length≠0) (hv:(vget R).2.2=0):AllOf S (done++[(vget R).1]) c (R.drop (vget R).2.1):=by
 unfold AllOf at h ⊢
 rw [vall,if_neg hR,dif_pos hv] at h
 simp only at h
 rw [← h]
 split <;> simp
end Go.Proofs.YtgidfnhfgiehjaaGreatDoor
end

section
namespace Go.Proofs.YtgidfnhfgiehjaaGreatDoor
open Go.RowKit Go.PM
set_option maxRecDepth 100000
set_option maxHeartbeats 4000000
def Sz (s:ByteArray) (i z:Nat):Prop:=(z=0∧rsz s.data.toList=rszL i (s.data.toList.drop i))∨(0 < z∧rsz s.data.toList=z)
theorem Sz.more {s:ByteArray} {i:Nat} (h:Sz s i 0) (hi:i < s.size) (h10:i < 10) (hc:128≤s[i].toNat):Sz s (i+1) 0:=by
 rcases h with ⟨_,h⟩ | ⟨h,_⟩
 · rw [drop_at s i hi,rszL,if_neg (by omega),if_neg (by omega)] at h
   exact .inl ⟨rfl,h⟩
 · omega
theorem Sz.last {s:ByteArray} {i:Nat} (h:Sz s i 0) (hi:i < s.size) (h10:i < 10) (hc:s[i].toNat < 128):Sz s (i+1) (i+1):=by
 rcases h with ⟨_,h⟩ | ⟨h,_⟩
 · rw [drop_at s i hi,rszL,if_neg (by omega),if_pos hc] at h
   exact .inr ⟨by omega,h⟩
 · omega
theorem Sz.end_ {s:ByteArray} {i z:Nat} (h:Sz s i z) (he:s.size≤i∨10≤i∨z≠0):rsz s.data.toList=z:=by
 rcases h with ⟨rfl,h⟩ | ⟨_,h⟩
 · rw [h]
   rcases he with he | he | he
   · rw [drop_end s i he];rfl
   · cases s.data.toList.drop i <;> simp [rszL,he]
   · omega
 · exact h
theorem getD_at (s:ByteArray) (i:Nat) (hi:i < s.size):s.data.toList.getD i 0=s[i]:=by
 simp [List.getD,hi]
 rfl
theorem vacc_lt (l:List UInt8):∀ i,vacc l i < 128 ^ i
 | 0 => by simp [vacc]
 | i+1 => by
   have:=vacc_lt l i
   have h:(l.getD i 0).toNat % 128 * 128 ^ i≤127 * 128 ^ i:=Nat.mul_le_mul_right _ (by omega)
   rw [vacc,Nat.pow_succ];omega
def Vc (l:List UInt8) (j acc u:Nat):Prop:=acc=vacc l j∧(j < 10→u=128 ^ j)∧In64 acc
theorem wrap_nat (x:Nat):IntKind.u64.wrap (x:Int)=((x % 18446744073709551616:Nat):Int):=by rw [IntKind.wrap_u64];omega
theorem Vc.step {l:List UInt8} {j acc u c:Nat} (h:Vc l j acc u) (hj:j < 10) (hc:(l.getD j 0).toNat=c) (h9:j=9→c≤1) :
 ∃ P X U:Nat,IntKind.u64.wrap ((c:Int) % 128 * (u:Int))=(P:Int)∧IntKind.u64.wrap ((acc:Int)+(P:Int))=(X:Int)∧IntKind.u64.wrap ((u:Int) * 128)=(U:Int)∧Vc l (j+1) X U:=by
 obtain ⟨rfl,hu,h64⟩:=h
 have hu:=hu hj
 subst hu
 have hlt:=vacc_lt l j
 have e1:((c:Int) % 128 * ((128 ^ j:Nat):Int))=((c % 128 * 128 ^ j:Nat):Int):=by push_cast;rfl
 have hb:vacc l j+c % 128 * 128 ^ j < 18446744073709551616:=by
  by_cases e:j=9
  · subst e
    have:=h9 rfl
    have:c % 128 * 128 ^ 9≤1 * 128 ^ 9:=Nat.mul_le_mul_right _ (by omega)
    have h2:128 ^ 9+1 * 128 ^ 9≤18446744073709551616:=by decide
    omega
  · have h3:128 ^ (j+1)≤128 ^ 9:=pow_lt (by omega)
    have:c % 128 * 128 ^ j≤127 * 128 ^ j:=Nat.mul_le_mul_right _ (by omega)
    rw [Nat.pow_succ] at h3
    have h2:128 ^ 9 < 18446744073709551616:=by decide
    omega
 refine ⟨c % 128 * 128 ^ j,vacc l j+c % 128 * 128 ^ j,128 ^ j * 128 % 18446744073709551616,?_,?_,?_,?_,?_,?_⟩
 · rw [e1,wrap_nat,Nat.mod_eq_of_lt (by omega)]
 · rw [← Int.natCast_add,wrap_nat,Nat.mod_eq_of_lt hb]
 · have:(((128 ^ j:Nat):Int) * 128)=((128 ^ j * 128:Nat):Int):=by push_cast;rfl
   rw [this,wrap_nat]
 · rw [vacc,hc]
 · intro h
   have h3:128 ^ (j+1)≤128 ^ 9:=pow_lt (by omega)
   have h2:128 ^ 9 < 18446744073709551616:=by decide
   rw [Nat.pow_succ] at h3 ⊢
   exact Nat.mod_eq_of_lt (by omega)
 · exact hb
end Go.Proofs.YtgidfnhfgiehjaaGreatDoor
end

section
namespace Go.Proofs.YtgidfnhfgiehjaaGreatDoor
open Go.RowKit Go.PM
set_option maxRecDepth 100000
theorem equ64 (A1 A2:Option Addr) (c1 c2:Nat) (xs:List Nat) (w:World) (h1:Rd w A1 (u64s xs)) (h2:Rd w A2 (u64s xs)) (hl:xs.length≤1000000) :
 Calls Tryz.prog 239 #[.slice A1 xs.length c1,.slice A2 xs.length c2] w fun e w' => e=.returned (.bool true)∧Below w.heap.size w w':=by
 go_enter Tryz.func239,Tryz.ntmps239
 go_wp2
 go_loopw [13] (fun k wr => ∃ i:Nat,i≤xs.length∧k=.int .i64 (i:Int)∧Below w.heap.size w wr) (fun k _ => xs.length - (intOf k).toNat)
 case atStart => exact ⟨0,by omega,rfl,b0⟩
 case round =>
  obtain ⟨i,hi,rfl,hbel⟩:=hrel
  by_cases hlt:i < xs.length
  · obtain ⟨d1,o1,rfl,_,e1⟩:=(h1.below hbel).at_ (k:=i) (by rw [u64s_length];exact hlt)
    obtain ⟨d2,o2,rfl,_,e2⟩:=(h2.below hbel).at_ (k:=i) (by rw [u64s_length];exact hlt)
    rw [u64s_at xs i hlt] at e1 e2
    have HB:=Lib.hid hbel
    have H1:=Lib.hid h1
    have H2:=Lib.hid h2
    clear hbel h1 h2
    go_wp2
    go_quiet (fail)
    go_wp2
    go_roundw
    case rel => exact ⟨i+1,by omega,by go_num,bn HB.out _⟩
    case measure => simp [intOf];omega
  · have HB:=Lib.hid hbel
    clear hbel h1 h2
    go_wp2
    go_ret
    exact ⟨rfl,HB.out⟩
end Go.Proofs.YtgidfnhfgiehjaaGreatDoor
end

section
namespace Go.Proofs.YtgidfnhfgiehjaaGreatDoor
open Go.RowKit Go.PM
set_option maxRecDepth 100000
def Rg (l:List UInt8) (i r:Nat):Prop:=r=Go.PM.cover 4294967295 (l.take i)∧r < 4294967296
theorem Rg.step {s:ByteArray} {i r:Nat} (h:Rg s.data.toList i r) (hi:i < s.size):Rg s.data.toList (i+1) (csteps 8 (r ^^^ s[i].toNat)):=by
 obtain ⟨e,hlt⟩:=h
 refine ⟨?_,cbyte_lt hlt s[i]⟩
 have hl:i < s.data.toList.length:=by simpa using hi
 have hg:s.data.toList[i]=s[i]:=by simp;rfl
 rw [← List.take_append_getElem hl,cover_append,← e,hg]
 rfl
def Rb (x k r:Nat):Prop:=csteps (8 - k) r=x∧r < 4294967296
theorem Rb.step {x k r:Nat} (h:Rb x k r) (hk:k < 8):Rb x (k+1) (cstep r):=by
 refine ⟨?_,cstep_lt h.2⟩
 have e:=h.1
 rw [show 8 - k=(8 - (k+1))+1 by omega] at e
 exact e
theorem cput_bvals (n:Nat) (hn:n < 4294967296):(#[.int .u8 ((n:Int) % 256),.int .u8 ((n:Int) / 256 % 256),.int .u8 ((n:Int) / 65536 % 256),.int .u8 ((n:Int) / 16777216)]:Array Value).toList.take 4=bvals (cput n):=by
 have e:∀ k,k < 256→(UInt8.ofNat k).toNat=k:=fun k hk => by simp;omega
 simp only [cput,bvals,List.map]
 rw [e _ (by omega),e _ (by omega),e _ (by omega),e _ (by omega)]
 have h1:(((n % 256:Nat)):Int)=(n:Int) % 256:=by omega
 have h2:(((n / 256 % 256:Nat)):Int)=(n:Int) / 256 % 256:=by omega
 have h3:(((n / 65536 % 256:Nat)):Int)=(n:Int) / 65536 % 256:=by omega
 have h4:(((n / 16777216 % 256:Nat)):Int)=(n:Int) / 16777216:=by omega
 rw [h1,h2,h3,h4]
 rfl
theorem cput_any (n:Nat) (w:World) (hn:n < 4294967296) :
 Calls Tryz.prog 50 #[.int .u32 (n:Int)] w fun e w' => e=.returned (.string (txt (cput n)))∧Below w.heap.size w w':=by
 have hcv:=run_row_string (P:=Tryz.prog) (w.alloc (.cells #[.int .u8 ((n:Int) % 256),.int .u8 ((n:Int) / 256 % 256),.int .u8 ((n:Int) / 65536 % 256),.int .u8 ((n:Int) / 16777216)] 5)) 42 9 5 w.heap.size 4 4 _ (cput n) Tryz.underlying42 Tryz.underlying5 Tryz.underlying9 (BlkAt.made _ _ _) rfl (cput_bvals n hn)
 rw [show ByteArray.mk (cput n).toArray=txt (cput n) from rfl] at hcv
 go_enter Tryz.func50,Tryz.ntmps50
 go_wp2
 go_ret
 exact ⟨rfl,ba b0 _⟩
theorem join4 (a b c d:Nat) (ha:a < 256) (hb:b < 256) (hc:c < 256) (hd:d < 256) :
 bits .or .u32 (bits .or .u32 (bits .or .u32 ((a:Int) % 4294967296) ((b:Int) % 4294967296 * 256 % 4294967296)) ((c:Int) % 4294967296 * 65536 % 4294967296)) ((d:Int) % 4294967296 * 16777216 % 4294967296)=((a+b * 256+c * 65536+d * 16777216:Nat):Int):=by
 have j1:a ||| b * 256=a+b * 256:=by rw [Nat.or_comm,nat_join 8 _ _ (by omega) (by omega)];omega
 have j2:(a+b * 256) ||| c * 65536=a+b * 256+c * 65536:=by rw [Nat.or_comm,nat_join 16 _ _ (by omega) (by omega)];omega
 have j3:(a+b * 256+c * 65536) ||| d * 16777216=a+b * 256+c * 65536+d * 16777216:=by rw [Nat.or_comm,nat_join 24 _ _ (by omega) (by omega)];omega
 rw [show (a:Int) % 4294967296=(a:Int) by omega,show (b:Int) % 4294967296 * 256 % 4294967296=((b * 256:Nat):Int) by omega,show (c:Int) % 4294967296 * 65536 % 4294967296=((c * 65536:Nat):Int) by omega,show (d:Int) % 4294967296 * 16777216 % 4294967296=((d * 16777216:Nat):Int) by omega,
  u32_or_nat _ _ (by omega) (by omega),j1,u32_or_nat _ _ (by omega) (by omega),j2,u32_or_nat _ _ (by omega) (by omega),j3]
theorem cget_four (s:ByteArray) (h4:s.size=4):cget s.data.toList=s[0].toNat+s[1].toNat * 256+s[2].toNat * 65536+s[3].toNat * 16777216:=by
 have hl:s.data.toList=[s[0],s[1],s[2],s[3]]:=by
  have e:=drop_at s 0 (by omega)
  rw [drop_at s 1 (by omega),drop_at s 2 (by omega),drop_at s 3 (by omega)] at e
  rw [List.drop_zero] at e
  rw [e,List.drop_eq_nil_of_le (by simp;omega)]
 rw [hl]
 rfl
theorem cget_any (s:ByteArray) (w:World) (h4:s.size=4) :
 Calls Tryz.prog 121 #[.string s] w fun e w' => e=.returned (.tuple #[.int .u32 (cget s.data.toList:Int),.bool true])∧Below w.heap.size w w':=by
 have hj:=join4 s[0].toNat s[1].toNat s[2].toNat s[3].toNat (by have:=s[0].toNat_lt;omega) (by have:=s[1].toNat_lt;omega) (by have:=s[2].toNat_lt;omega) (by have:=s[3].toNat_lt;omega)
 rw [← cget_four s h4] at hj
 generalize cget s.data.toList=V at hj
 have HJ:=Lib.hid hj
 clear hj
 go_enter Tryz.func121,Tryz.ntmps121
 go_wp2
 go_quiet (fail)
 go_wp2
 rw [HJ.out]
 go_ret2
 exact ⟨rfl,bn b0 _⟩
end Go.Proofs.YtgidfnhfgiehjaaGreatDoor
end

section
namespace Go.Proofs.YtgidfnhfgiehjaaGreatDoor
open Go.RowKit Go.PM
set_option maxRecDepth 100000
def tabl (k:Nat):List Value:=(List.range 16).map fun i => .int .u32 (if i < k then (csteps 4 i:Int) else 0)
def tab (k:Nat):Array Value:=(tabl k).toArray
theorem tab_size (k:Nat):(tab k).size=16:=by simp [tab,tabl]
theorem tab_at (k i:Nat) (hi:i < 16):(tab k)[i]? = some (.int .u32 (if i < k then (csteps 4 i:Int) else 0)):=by
 simp [tab,tabl,hi]
theorem tab_put (k:Nat) (hk:k < 16):(tab k).setIfInBounds k (.int .u32 (csteps 4 k:Int))=tab (k+1):=by
 apply Array.ext_getElem?
 intro i
 rw [Array.getElem?_setIfInBounds]
 by_cases hi:i < 16
 · rw [tab_at _ _ hi,tab_at _ _ hi,tab_size]
   by_cases e:k=i
   · subst e;simp [hk]
   · rw [if_neg e]
     by_cases hik:i < k
     · rw [if_pos hik,if_pos (by omega)]
     · rw [if_neg hik,if_neg (by omega)]
 · rw [Array.getElem?_eq_none (by rw [tab_size];omega),Array.getElem?_eq_none (by rw [tab_size];omega)]
   simp
   omega
theorem tab_zero:tab 0=#[.int .u32 0,.int .u32 0,.int .u32 0,.int .u32 0,.int .u32 0,.int .u32 0,.int .u32 0,.int .u32 0,.int .u32 0,.int .u32 0,.int .u32 0,.int .u32 0,.int .u32 0,.int .u32 0,.int .u32 0,.int .u32 0]:=rfl
theorem tab_full:∃ v0 v1 v2 v3 v4 v5 v6 v7 v8 v9 v10 v11 v12 v13 v14 v15:Int,tab 16=#[.int .u32 v0,.int .u32 v1,.int .u32 v2,.int .u32 v3,.int .u32 v4,.int .u32 v5,.int .u32 v6,.int .u32 v7,.int .u32 v8,.int .u32 v9,.int .u32 v10,.int .u32 v11,.int .u32 v12,.int .u32 v13,.int .u32 v14,.int .u32 v15]:=⟨_,_,_,_,_,_,_,_,_,_,_,_,_,_,_,_,rfl⟩
theorem reckon_any (g i:Nat) (w:World) (hg:BlkAt w g 246 (tab i)) (hi:i < 16) :
 Calls Tryz.prog 196 #[.int .i64 (i:Int),.pointer (some ⟨g,0,none⟩)] w fun e w' => e=.returned (.tuple #[])∧BlkAt w' g 246 (tab (i+1))∧w.grownBy w' (some g):=by
 have HG:=Lib.hid hg
 have c0:w.cell? ⟨g,i,none⟩=some (.int .u32 0):=by rw [hg.cell i,tab_at _ _ hi];simp
 have f0:=hg.free i
 clear hg
 have HR:Hid (Rb (csteps 4 i) 4 i):=⟨rfl,by omega⟩
 generalize hY:csteps 4 i=Y at HR
 have HY:=Lib.hid hY
 clear hY
 go_enter Tryz.func196,Tryz.ntmps196
 go_wp2
 go_loop [3,6] (fun rr kk => ∃ k r:Nat,k≤4∧kk=.int .i64 (k:Int)∧rr=.int .u32 (r:Int)∧Rb Y (4+k) r) (fun _ k => 4 - (intOf k).toNat)
 case atStart => exact ⟨0,i,by omega,rfl,rfl,HR.out⟩
 case round =>
  obtain ⟨k,q,hk,rfl,rfl,hrb⟩:=hrel
  by_cases hk4:k < 4
  · have hst:=hrb.step (by omega)
    have hq:=hrb.2
    have hand:bits .and .u32 (q:Int) 1=((q % 2:Nat):Int):=by rw [← nat_mask1];exact u32_and_nat q 1 hq (by omega)
    clear hrb
    by_cases hodd:q % 2=1
    · have ho:(((q % 2:Nat):Int) == 1)=true:=by rw [beq_iff_eq];omega
      have hbx:bits .xor .u32 ((q:Int) / 2) 3988292384=((cstep q:Nat):Int):=by
       unfold cstep
       rw [if_pos hodd,← u32_xor_nat _ _ (by omega) (by omega)]
       rfl
      generalize cstep q=Q at hst hbx
      have HST:=Lib.hid hst
      clear hst hodd
      go_wp2
      go_round
      case rel => exact ⟨k+1,Q,by omega,by go_num,rfl,HST.out⟩
      case measure => simp [intOf];omega
    · have ho:(((q % 2:Nat):Int) == 1)=false:=by rw [beq_eq_false_iff_ne];omega
      have hbx:((q:Int) / 2)=((cstep q:Nat):Int):=by
       unfold cstep
       rw [if_neg hodd]
       omega
      have HBX:=Lib.hid hbx
      generalize cstep q=Q at hst HBX
      have HST:=Lib.hid hst
      clear hst hodd hbx
      go_wp2
      go_round
      case rel => exact ⟨k+1,Q,by omega,by go_num,by rw [HBX.out],HST.out⟩
      case measure => simp [intOf];omega
  · obtain rfl:k=4:=by omega
    have hqy:q=Y:=hrb.1
    subst hqy
    clear hrb
    go_wp2
    go_end0
    refine ⟨rfl,?_,grown_put (grown_refl _ _) _ _⟩
    have:=HG.out.put i (.int .u32 (q:Int))
    rw [← HY.out,tab_put i hi] at this
    rw [← HY.out]
    exact this
theorem sums_any (w:World) :
 Calls Tryz.prog 152 #[] w fun e w' => e=.returned (.agg (tab 16))∧Below w.heap.size w w':=by
 go_enter Tryz.func152,Tryz.ntmps152
 go_wp2
 go_loopw [5] (fun k wr => ∃ i:Nat,i≤16∧k=.int .i64 (i:Int)∧BlkAt wr (w.heap.size+1) 246 (tab i)∧BlkAt wr w.heap.size 246 (tab 0)∧Below w.heap.size w wr) (fun k _ => 16 - (intOf k).toNat)
 case atStart =>
  refine ⟨0,by omega,rfl,?_,?_,ba (ba b0 _) _⟩
  · rw [tab_zero]
    have:=BlkAt.made (w.alloc (.cells #[.int .u32 0,.int .u32 0,.int .u32 0,.int .u32 0,.int .u32 0,.int .u32 0,.int .u32 0,.int .u32 0,.int .u32 0,.int .u32 0,.int .u32 0,.int .u32 0,.int .u32 0,.int .u32 0,.int .u32 0,.int .u32 0] 246)) 246 #[.int .u32 0,.int .u32 0,.int .u32 0,.int .u32 0,.int .u32 0,.int .u32 0,.int .u32 0,.int .u32 0,.int .u32 0,.int .u32 0,.int .u32 0,.int .u32 0,.int .u32 0,.int .u32 0,.int .u32 0,.int .u32 0]
    simpa using this
  · rw [tab_zero]
    exact (BlkAt.made w _ _).more _
 case round =>
  obtain ⟨i,hi,rfl,hb,hz,hw⟩:=hrel
  have HZ:=Lib.hid hz
  have hgt:=hz.lt
  clear hz
  have HB:=Lib.hid hb
  have HW:=Lib.hid hw
  clear hb hw
  by_cases h16:i < 16
  · go_wp2_with fail
    refine (reckon_any _ i _ HB.out h16).mono ?_
    rintro e w1 ⟨rfl,hb1,hg1⟩
    have hw1:=bg HW.out hg1 (by omega)
    have HZ1:=Lib.hid (HZ.out.step hg1 (by intro e;injection e with e;omega))
    have HB1:=Lib.hid hb1
    have HW1:=Lib.hid hw1
    clear hb1 hw1 hg1
    go_wp2
    go_round
    case rel => exact ⟨i+1,by omega,by go_num,HB1.out,HZ1.out,HW1.out⟩
    case measure => simp [intOf];omega
  · obtain rfl:i=16:=by omega
    obtain ⟨v0,v1,v2,v3,v4,v5,v6,v7,v8,v9,v10,v11,v12,v13,v14,v15,hv⟩:=tab_full
    have hb:=HB.out
    rw [hv] at hb
    have c0:wr.cell? ⟨w.heap.size+1,0,none⟩=some (.int .u32 v0):=hb.cell 0
    have c1:wr.cell? ⟨w.heap.size+1,1,none⟩=some (.int .u32 v1):=hb.cell 1
    have c2:wr.cell? ⟨w.heap.size+1,2,none⟩=some (.int .u32 v2):=hb.cell 2
    have c3:wr.cell? ⟨w.heap.size+1,3,none⟩=some (.int .u32 v3):=hb.cell 3
    have c4:wr.cell? ⟨w.heap.size+1,4,none⟩=some (.int .u32 v4):=hb.cell 4
    have c5:wr.cell? ⟨w.heap.size+1,5,none⟩=some (.int .u32 v5):=hb.cell 5
    have c6:wr.cell? ⟨w.heap.size+1,6,none⟩=some (.int .u32 v6):=hb.cell 6
    have c7:wr.cell? ⟨w.heap.size+1,7,none⟩=some (.int .u32 v7):=hb.cell 7
    have c8:wr.cell? ⟨w.heap.size+1,8,none⟩=some (.int .u32 v8):=hb.cell 8
    have c9:wr.cell? ⟨w.heap.size+1,9,none⟩=some (.int .u32 v9):=hb.cell 9
    have c10:wr.cell? ⟨w.heap.size+1,10,none⟩=some (.int .u32 v10):=hb.cell 10
    have c11:wr.cell? ⟨w.heap.size+1,11,none⟩=some (.int .u32 v11):=hb.cell 11
    have c12:wr.cell? ⟨w.heap.size+1,12,none⟩=some (.int .u32 v12):=hb.cell 12
    have c13:wr.cell? ⟨w.heap.size+1,13,none⟩=some (.int .u32 v13):=hb.cell 13
    have c14:wr.cell? ⟨w.heap.size+1,14,none⟩=some (.int .u32 v14):=hb.cell 14
    have c15:wr.cell? ⟨w.heap.size+1,15,none⟩=some (.int .u32 v15):=hb.cell 15
    have hz:=HZ.out
    rw [tab_zero] at hz
    have z0:wr.cell? ⟨w.heap.size,0,none⟩=some (.int .u32 0):=hz.cell 0
    have f0:=hz.free 0
    have z1:wr.cell? ⟨w.heap.size,1,none⟩=some (.int .u32 0):=hz.cell 1
    have f1:=hz.free 1
    have z2:wr.cell? ⟨w.heap.size,2,none⟩=some (.int .u32 0):=hz.cell 2
    have f2:=hz.free 2
    have z3:wr.cell? ⟨w.heap.size,3,none⟩=some (.int .u32 0):=hz.cell 3
    have f3:=hz.free 3
    have z4:wr.cell? ⟨w.heap.size,4,none⟩=some (.int .u32 0):=hz.cell 4
    have f4:=hz.free 4
    have z5:wr.cell? ⟨w.heap.size,5,none⟩=some (.int .u32 0):=hz.cell 5
    have f5:=hz.free 5
    have z6:wr.cell? ⟨w.heap.size,6,none⟩=some (.int .u32 0):=hz.cell 6
    have f6:=hz.free 6
    have z7:wr.cell? ⟨w.heap.size,7,none⟩=some (.int .u32 0):=hz.cell 7
    have f7:=hz.free 7
    have z8:wr.cell? ⟨w.heap.size,8,none⟩=some (.int .u32 0):=hz.cell 8
    have f8:=hz.free 8
    have z9:wr.cell? ⟨w.heap.size,9,none⟩=some (.int .u32 0):=hz.cell 9
    have f9:=hz.free 9
    have z10:wr.cell? ⟨w.heap.size,10,none⟩=some (.int .u32 0):=hz.cell 10
    have f10:=hz.free 10
    have z11:wr.cell? ⟨w.heap.size,11,none⟩=some (.int .u32 0):=hz.cell 11
    have f11:=hz.free 11
    have z12:wr.cell? ⟨w.heap.size,12,none⟩=some (.int .u32 0):=hz.cell 12
    have f12:=hz.free 12
    have z13:wr.cell? ⟨w.heap.size,13,none⟩=some (.int .u32 0):=hz.cell 13
    have f13:=hz.free 13
    have z14:wr.cell? ⟨w.heap.size,14,none⟩=some (.int .u32 0):=hz.cell 14
    have f14:=hz.free 14
    have z15:wr.cell? ⟨w.heap.size,15,none⟩=some (.int .u32 0):=hz.cell 15
    have f15:=hz.free 15
    clear hb hz
    have hend:=(((((((((((((((HZ.out.put 0 (.int .u32 v0)).put 1 (.int .u32 v1)).put 2 (.int .u32 v2)).put 3 (.int .u32 v3)).put 4 (.int .u32 v4)).put 5 (.int .u32 v5)).put 6 (.int .u32 v6)).put 7 (.int .u32 v7)).put 8 (.int .u32 v8)).put 9 (.int .u32 v9)).put 10 (.int .u32 v10)).put 11 (.int .u32 v11)).put 12 (.int .u32 v12)).put 13 (.int .u32 v13)).put 14 (.int .u32 v14)).put 15 (.int .u32 v15)
    rw [tab_zero] at hend
    simp only [List.setIfInBounds_toArray,List.set] at hend
    rw [← hv] at hend
    have HE:=Lib.hid hend
    clear hend
    go_wp2
    exact bodyPost_ret_by (results_cell_row Tryz.results152 _ _ w.heap.size 246 (tab 16) (0,0) _ rfl HE.out Tryz.underlying246 rfl (by kernel_rfl)) rfl ⟨rfl,(bs (bs (bs (bs (bs (bs (bs (bs (bs (bs (bs (bs (bs (bs (bs (bs HW.out (by simp) _) (by simp) _) (by simp) _) (by simp) _) (by simp) _) (by simp) _) (by simp) _) (by simp) _) (by simp) _) (by simp) _) (by simp) _) (by simp) _) (by simp) _) (by simp) _) (by simp) _) (by simp) _)⟩
end Go.Proofs.YtgidfnhfgiehjaaGreatDoor
end

section
namespace Go.Proofs.YtgidfnhfgiehjaaGreatDoor
open Go.RowKit Go.PM
set_option maxRecDepth 100000
def Rf (R:Nat) (l:List UInt8) (i r:Nat):Prop:=r=Go.PM.cover R (l.take i)∧r < 4294967296
theorem Rf.step {R:Nat} {s:ByteArray} {i r:Nat} (h:Rf R s.data.toList i r) (hi:i < s.size):Rf R s.data.toList (i+1) (csteps 4 (csteps 4 (r ^^^ s[i].toNat))):=by
 obtain ⟨e,hlt⟩:=h
 refine ⟨?_,?_⟩
 · have hl:i < s.data.toList.length:=by simpa using hi
   have hg:s.data.toList[i]=s[i]:=by simp;rfl
   rw [← List.take_append_getElem hl,cover_append,← e,hg]
   rfl
 · exact csteps_lt 4 (csteps_lt 4 (Nat.xor_lt_two_pow (n:=32) hlt (by have:=s[i].toNat_lt;omega)))
def Rp (R:Nat) (l:List ByteArray) (k r:Nat):Prop:=r=Go.PM.cover R ((l.take k).flatMap fun x => x.data.toList)∧r < 4294967296
theorem Rp.step {R:Nat} {l:List ByteArray} {k r q:Nat} (h:Rp R l k r) (hk:k < l.length) (hq:Rf r l[k].data.toList l[k].size q):Rp R l (k+1) q:=by
 refine ⟨?_,hq.2⟩
 rw [← List.take_append_getElem hk,List.flatMap_append,cover_append,← h.1]
 have e:=hq.1
 rw [List.take_of_length_le (by simp)] at e
 simpa using e
theorem over_any (n:Nat) (A:Option Addr) (cap:Nat) (l:List ByteArray) (w:World) (hn:n < 4294967296) (hr:Rd w A (strs l)) (hl:l.length≤9223372036854775807) (hs:∀ x ∈ l,x.size≤9223372036854775807) :
 Calls Tryz.prog 96 #[.int .u32 (n:Int),.slice A l.length cap] w fun e w' =>
  e=.returned (.int .u32 ((4294967295 ^^^ Go.PM.cover (4294967295 ^^^ n) (l.flatMap fun x => x.data.toList):Nat):Int))∧Below w.heap.size w w':=by
 have hN:bits .xor .u32 IntKind.u32.max (n:Int)=((4294967295 ^^^ n:Nat):Int):=u32_xor_nat 4294967295 n (by omega) hn
 have hNl:4294967295 ^^^ n < 4294967296:=Nat.xor_lt_two_pow (n:=32) (by omega) hn
 generalize 4294967295 ^^^ n=R at hN hNl ⊢
 have HNL:=Lib.hid hNl
 clear hNl
 go_enter Tryz.func96,Tryz.ntmps96
 go_wp2_with fail
 refine (sums_any _).mono ?_
 rintro e w1 ⟨rfl,hb1⟩
 have hst:=run_storeCells_new (P:=Tryz.prog) w1 246 #[.int .u32 0,.int .u32 0,.int .u32 0,.int .u32 0,.int .u32 0,.int .u32 0,.int .u32 0,.int .u32 0,.int .u32 0,.int .u32 0,.int .u32 0,.int .u32 0,.int .u32 0,.int .u32 0,.int .u32 0,.int .u32 0] (tab 16) (by kernel_rfl) rfl (by simp [tab,tabl,List.range,List.range.loop,Value.oneCell'])
 have hT:=BlkAt.made w1 246 (tab 16)
 have hB:=ba hb1 (.cells (tab 16) 246)
 have HR:=Lib.hid (hr.below hB)
 have HT:=Lib.hid hT
 have HB:=Lib.hid hB
 clear hT hB hr hb1
 go_wp2
 refine wp_world fun W hW => ?_
 rw [← hW] at HR HT HB
 clear hW hst
 go_loop [6,15] (fun rr kk => ∃ k r:Nat,k≤l.length∧kk=.int .i64 (k:Int)∧rr=.int .u32 (r:Int)∧Rp R l k r) (fun _ k => l.length - (intOf k).toNat)
 case atStart => exact ⟨0,R,by omega,rfl,rfl,rfl,HNL.out⟩
 case round =>
  obtain ⟨k,r,hk,rfl,rfl,hrp⟩:=hrel
  by_cases hkl:k < l.length
  · obtain ⟨b,off,rfl,hb,hc⟩:=HR.out.at_ (k:=k) (by rw [strs_length];exact hkl)
    rw [strs_at l k hkl] at hc
    have hxs:=hs l[k] (List.getElem_mem hkl)
    have HST:Hid (∀ q,Rf r l[k].data.toList l[k].size q→Rp R l (k+1) q):=fun q hq => hrp.step hkl hq
    have HR0:Hid (Rf r l[k].data.toList 0 r):=⟨rfl,hrp.2⟩
    generalize l[k]=x at hc hxs HST HR0
    clear hrp
    go_wp2
    go_loop [6,21] (fun rr kk => ∃ i q:Nat,i≤x.size∧kk=.int .i64 (i:Int)∧rr=.int .u32 (q:Int)∧Rf r x.data.toList i q) (fun _ k => x.size - (intOf k).toNat)
    case atStart => exact ⟨0,r,by omega,rfl,rfl,HR0.out⟩
    case round =>
     obtain ⟨i,q,hi,rfl,rfl,hrf⟩:=hrel
     by_cases hil:i < x.size
     · have hst:=hrf.step hil
       have hq:=hrf.2
       have hxl:q ^^^ x[i].toNat < 4294967296:=Nat.xor_lt_two_pow (n:=32) hq (by have:=x[i].toNat_lt;omega)
       have hx1:bits .xor .u32 (q:Int) ((x[i].toNat:Int) % 4294967296)=((q ^^^ x[i].toNat:Nat):Int):=by
        rw [show (x[i].toNat:Int) % 4294967296=(x[i].toNat:Int) by have:=x[i].toNat_lt;omega]
        exact u32_xor_nat _ _ hq (by have:=x[i].toNat_lt;omega)
       clear hrf
       generalize q ^^^ x[i].toNat=X at hst hxl hx1
       have ha1:bits .and .u32 (X:Int) 15=((X % 16:Nat):Int):=by rw [← nat_mask4];exact u32_and_nat X 15 hxl (by omega)
       have hyl:=csteps_lt 4 hxl
       have hy1:bits .xor .u32 ((X:Int) / 16) (csteps 4 (X % 16):Int)=(csteps 4 X:Int):=by
        rw [show (X:Int) / 16=((X / 16:Nat):Int) by omega,u32_xor_nat _ _ (by omega) (csteps_lt 4 (by omega)),csteps_table 4 X]
       have hd1:W.cell? ⟨w1.heap.size,X % 16,none⟩=some (.int .u32 (csteps 4 (X % 16):Int)):=by
        rw [HT.out.cell,tab_at _ _ (by omega),if_pos (by omega)]
       have hm1:X % 16 < 16:=by omega
       generalize csteps 4 X=Y at hst hyl hy1
       generalize csteps 4 (X % 16)=t1 at hy1 hd1
       generalize X % 16=m1 at ha1 hd1 hm1
       have ha2:bits .and .u32 (Y:Int) 15=((Y % 16:Nat):Int):=by rw [← nat_mask4];exact u32_and_nat Y 15 hyl (by omega)
       have hy2:bits .xor .u32 ((Y:Int) / 16) (csteps 4 (Y % 16):Int)=(csteps 4 Y:Int):=by
        rw [show (Y:Int) / 16=((Y / 16:Nat):Int) by omega,u32_xor_nat _ _ (by omega) (csteps_lt 4 (by omega)),csteps_table 4 Y]
       have hd2:W.cell? ⟨w1.heap.size,Y % 16,none⟩=some (.int .u32 (csteps 4 (Y % 16):Int)):=by
        rw [HT.out.cell,tab_at _ _ (by omega),if_pos (by omega)]
       have hm2:Y % 16 < 16:=by omega
       generalize csteps 4 Y=Z at hst hy2
       generalize csteps 4 (Y % 16)=t2 at hy2 hd2
       generalize Y % 16=m2 at ha2 hd2 hm2
       have HST2:=Lib.hid hst
       clear hst hq
       have hTl:=HT.out.lt
       go_wp2
       go_round
       case rel => exact ⟨i+1,Z,by omega,by go_num,rfl,HST2.out⟩
       case measure => simp [intOf];omega
     · obtain rfl:i=x.size:=by omega
       have hrn:=HST.out q hrf
       have HRN:=Lib.hid hrn
       clear hrn hrf
       go_wp2
       go_round
       case rel => exact ⟨k+1,q,by omega,by go_num,rfl,HRN.out⟩
       case measure => simp [intOf];omega
  · obtain rfl:k=l.length:=by omega
    have hrl:=hrp.2
    have hN2:bits .xor .u32 IntKind.u32.max (r:Int)=((4294967295 ^^^ r:Nat):Int):=u32_xor_nat 4294967295 r (by omega) hrl
    have e:=hrp.1
    rw [List.take_of_length_le (by simp)] at e
    have HE:=Lib.hid e
    clear e hrp
    go_wp2
    go_ret
    rw [← HE.out]
    exact ⟨rfl,HB.out⟩
theorem csum_any (A:Option Addr) (cap:Nat) (l:List ByteArray) (w:World) (hr:Rd w A (strs l)) (hl:l.length≤9223372036854775807) (hs:∀ x ∈ l,x.size≤9223372036854775807) :
 Calls Tryz.prog 51 #[.slice A l.length cap] w fun e w' => e=.returned (.int .u32 (csum (l.flatMap fun x => x.data.toList):Int))∧Below w.heap.size w w':=by
 have H:=over_any 0 A cap l w (by omega) hr hl hs
 rw [Nat.xor_zero] at H
 have HH:=Lib.hid H
 clear H
 go_enter Tryz.func51,Tryz.ntmps51
 go_wp2_with fail
 refine HH.out.mono ?_
 rintro e w1 ⟨rfl,hb1⟩
 go_wp2
 go_ret
 exact ⟨rfl,hb1⟩
theorem sum_one (s:ByteArray) (b:Nat) (w:World) (hk:BlkAt w b 9 #[.string s]) (hs:s.size≤9223372036854775807) :
 Calls Tryz.prog 51 #[.slice (some ⟨b,0,none⟩) 1 1] w fun e w' => e=.returned (.int .u32 (csum s.data.toList:Int))∧Below w.heap.size w w':=by
 have:=csum_any (some ⟨b,0,none⟩) 1 [s] w (.inr ⟨_,_,rfl,hk.lt,fun j u hj => by
  rw [Nat.zero_add,hk.cell j]
  simpa [strs] using hj⟩) (by simp) (by simpa using hs)
 simpa using this
theorem check_any (s q:ByteArray) (w:World) (hs:s.size≤9223372036854775807) (hq:q.size=4) :
 Calls Tryz.prog 73 #[.string s,.string q] w fun e w' => e=.returned (.bool (decide (cget q.data.toList=csum s.data.toList)))∧Below w.heap.size w w':=by
 have hG:∀ x:World,Calls Tryz.prog 121 #[.string q] x fun e w' => e=.returned (.tuple #[.int .u32 (cget q.data.toList:Int),.bool true])∧Below x.heap.size x w':=fun x => cget_any q x hq
 have hS:∀ x:World,Calls Tryz.prog 51 #[.slice (some ⟨x.heap.size,0,none⟩) 1 1] (x.alloc (.cells #[.string s] 9)) fun e w' => e=.returned (.int .u32 (csum s.data.toList:Int))∧Below (x.alloc (.cells #[.string s] 9)).heap.size (x.alloc (.cells #[.string s] 9)) w':=fun x => sum_one s _ _ (BlkAt.made _ _ _) hs
 generalize cget q.data.toList=G at hG ⊢
 generalize csum s.data.toList=C at hS ⊢
 have HG:=Lib.hid hG
 have HS:=Lib.hid hS
 have hgc:((G:Int) == (C:Int))=decide (G=C):=by rw [Bool.eq_iff_iff];simp;omega
 clear hG hS
 go_enter Tryz.func73,Tryz.ntmps73
 go_wp2_with fail
 refine (HG.out _).mono ?_
 rintro e w1 ⟨rfl,hb1⟩
 go_wp2_with fail
 refine (HS.out _).mono ?_
 rintro e w2 ⟨rfl,hb2⟩
 go_wp2
 go_ret
 exact ⟨rfl,bb (ba hb1 _) hb2⟩
end Go.Proofs.YtgidfnhfgiehjaaGreatDoor
end

section
namespace Go.Proofs.YtgidfnhfgiehjaaGreatDoor
open Go.RowKit Go.PM
set_option maxRecDepth 100000
theorem fsize_yes (n:Nat) (w:World) (h:n≤65536) :
 Calls Tryz.prog 74 #[.int .i64 (n:Int)] w fun e w' => e=.returned (.int .i64 (fsize n:Int))∧Below w.heap.size w w':=by
 have h10:=vsz_le10 (n:=n) (by omega)
 have hf:((fsize n:Nat):Int)=2+(vsz n:Int)+(n:Int)+4:=by unfold fsize;omega
 have HF:=Lib.hid hf
 clear hf
 go_enter Tryz.func74,Tryz.ntmps74
 go_wp2_with fail
 refine (size_any n _ (by unfold In64;omega)).mono ?_
 rintro e w1 ⟨rfl,rfl⟩
 go_wp2
 go_ret
 rw [HF.out]
 exact ⟨rfl,b0⟩
theorem wrap_any (p:ByteArray) (w:World) (h:p.size≤65536) :
 Calls Tryz.prog 16 #[.string p] w fun e w' => e=.returned (.tuple #[.string (txt (ftext p.data.toList)),.int .i64 0])∧Below w.heap.size w w':=by
 have h10:=vsz_le10 (n:=p.size) (by omega)
 have hvs:(txt (vput p.size)).size=vsz p.size:=by rw [txt_size,vput_length]
 have hP:∀ x:World,Calls Tryz.prog 50 #[.int .u32 (csum p.data.toList:Int)] x fun e w' => e=.returned (.string (txt (cput (csum p.data.toList))))∧Below x.heap.size x w':=fun x => cput_any _ x (csum_lt _)
 have hS:∀ x:World,Calls Tryz.prog 51 #[.slice (some ⟨x.heap.size,0,none⟩) 1 1] (x.alloc (.cells #[.string p] 9)) fun e w' => e=.returned (.int .u32 (csum p.data.toList:Int))∧Below (x.alloc (.cells #[.string p] 9)).heap.size (x.alloc (.cells #[.string p] 9)) w':=fun x => sum_one p _ _ (BlkAt.made _ _ _) (by omega)
 have hcs:(txt (cput (csum p.data.toList))).size=4:=rfl
 have hf:txt (ftext p.data.toList)=ByteArray.mk #[81,70]++txt (vput p.size)++p++txt (cput (csum p.data.toList)):=by
  apply ByteArray.ext
  apply Array.toList_inj.1
  simp only [ByteArray.data_append,Array.toList_append,txt_list,ftext,len_list]
 rw [hf]
 generalize csum p.data.toList=C at hP hS hcs ⊢
 generalize txt (cput C)=Q at hP hcs ⊢
 have HP:=Lib.hid hP
 have HS:=Lib.hid hS
 clear hP hS hf
 have hV:∀ x:World,Calls Tryz.prog 35 #[.int .u64 (p.size:Int)] x fun e w' => e=.returned (.string (txt (vput p.size)))∧Below x.heap.size x w':=fun x => put_any _ x (by unfold In64;omega)
 generalize txt (vput p.size)=V at hV hvs ⊢
 have HV:=Lib.hid hV
 clear hV
 go_enter Tryz.func16,Tryz.ntmps16
 go_wp2_with fail
 refine (HV.out _).mono ?_
 rintro e w1 ⟨rfl,hb1⟩
 go_wp2_with fail
 refine (HS.out _).mono ?_
 rintro e w2 ⟨rfl,hb2⟩
 go_wp2_with fail
 refine (HP.out _).mono ?_
 rintro e w3 ⟨rfl,hb3⟩
 go_wp2
 go_ret2
 exact ⟨rfl,bb (bb (ba hb1 _) hb2) hb3⟩
def Mk (l:List UInt8) (i:Nat):Prop:=i=0∨(i=1∧1≤l.length∧l.getD 0 0=81)∨(i=2∧fmark l=0)
theorem marked_any (s:ByteArray) (w:World) (hs:s.size≤9223372036854775807) :
 Calls Tryz.prog 72 #[.string s] w fun e w' => e=.returned (.int .i64 (fmark s.data.toList:Int))∧Below w.heap.size w w':=by
 have hk0:((ByteArray.mk #[81,70])[0]'(by decide)).toNat=81:=rfl
 have hk1:((ByteArray.mk #[81,70])[1]'(by decide)).toNat=70:=rfl
 go_enter Tryz.func72,Tryz.ntmps72
 go_wp2
 go_loopw [4] (fun k wr => ∃ i:Nat,k=.int .i64 (i:Int)∧Mk s.data.toList i∧Below w.heap.size w wr) (fun k _ => 2 - (intOf k).toNat)
 case atStart => exact ⟨0,rfl,.inl rfl,b0⟩
 case round =>
  obtain ⟨i,rfl,hm,hb⟩:=hrel
  have HB:=Lib.hid hb
  clear hb
  rcases hm with rfl | ⟨rfl,h1,h0⟩ | ⟨rfl,h2⟩
  · by_cases hz:s.size=0
    · have hz':((0:Int) == (s.size:Int))=true:=by rw [beq_iff_eq];omega
      have hfm:fmark s.data.toList=1:=by unfold fmark;rw [if_pos (by rw [len_list];exact hz)]
      clear hz
      go_wp2
      go_ret
      rw [hfm]
      exact ⟨rfl,HB.out⟩
    · have hp:0 < s.size:=by omega
      have hz':((0:Int) == (s.size:Int))=false:=by rw [beq_eq_false_iff_ne];omega
      have hg:=getD_at s 0 hp
      by_cases h8:s[0].toNat=81
      · have hn:((s[0].toNat:Int) != 81)=false:=by rw [bne_eq_false_iff_eq];omega
        have hmk:Mk s.data.toList 1:=.inr (.inl ⟨rfl,by rw [len_list];omega,by rw [hg];exact UInt8.toNat_inj.1 (by rw [h8];rfl)⟩)
        have HM:=Lib.hid hmk
        clear hmk hg
        go_wp2
        go_quiet (fail)
        go_wp2
        go_roundw
        case rel => exact ⟨1,by go_num,HM.out,bn HB.out _⟩
        case measure => simp [intOf]
      · have hn:((s[0].toNat:Int) != 81)=true:=by rw [bne_iff_ne];omega
        have hfm:fmark s.data.toList=5:=by
         unfold fmark
         rw [if_neg (by rw [len_list];exact hz),if_pos (by rw [hg];intro e;exact h8 (by rw [e];rfl))]
        have HF:=Lib.hid hfm
        clear hfm hg
        go_wp2
        go_quiet (fail)
        go_wp2
        go_ret
        rw [HF.out]
        exact ⟨rfl,bn HB.out _⟩
  · rw [len_list] at h1
    by_cases hz:s.size=1
    · have hfm:fmark s.data.toList=1:=by
       unfold fmark
       rw [if_neg (by rw [len_list];omega),if_neg (by rw [h0];simp),if_pos (by rw [len_list];exact hz)]
      have HF:=Lib.hid hfm
      have hz':((1:Int) == (s.size:Int))=true:=by rw [beq_iff_eq];omega
      clear hfm h0 hz
      go_wp2
      go_ret
      rw [HF.out]
      exact ⟨rfl,HB.out⟩
    · have hp:1 < s.size:=by omega
      have hz':((1:Int) == (s.size:Int))=false:=by rw [beq_eq_false_iff_ne];omega
      have hg:=getD_at s 1 hp
      by_cases h8:s[1].toNat=70
      · have hn:((s[1].toNat:Int) != 70)=false:=by rw [bne_eq_false_iff_eq];omega
        have hmk:Mk s.data.toList 2:=.inr (.inr ⟨rfl,by
         unfold fmark
         rw [if_neg (by rw [len_list];omega),if_neg (by rw [h0];simp),if_neg (by rw [len_list];exact hz),if_neg (by rw [hg];intro e;exact e (UInt8.toNat_inj.1 (by rw [h8];rfl)))]⟩)
        have HM:=Lib.hid hmk
        clear hmk hg h0 h1 hz
        go_wp2
        go_quiet (fail)
        go_wp2
        go_roundw
        case rel => exact ⟨2,by go_num,HM.out,bn HB.out _⟩
        case measure => simp [intOf]
      · have hn:((s[1].toNat:Int) != 70)=true:=by rw [bne_iff_ne];omega
        have hfm:fmark s.data.toList=5:=by
         unfold fmark
         rw [if_neg (by rw [len_list];omega),if_neg (by rw [h0];simp),if_neg (by rw [len_list];exact hz),if_pos (by rw [hg];intro e;exact h8 (by rw [e];rfl))]
        have HF:=Lib.hid hfm
        have hp2:(1:Int) < (s.size:Int):=by omega
        have hp3:s.size≠0:=by omega
        clear hfm hg h0 h1 hz
        go_wp2
        go_quiet (fail)
        go_wp2
        go_ret
        rw [HF.out]
        exact ⟨rfl,bn HB.out _⟩
  · have HF:=Lib.hid h2
    clear h2
    go_wp2
    go_ret
    rw [HF.out]
    exact ⟨rfl,HB.out⟩
end Go.Proofs.YtgidfnhfgiehjaaGreatDoor
end

section
namespace Go.Proofs.YtgidfnhfgiehjaaGreatDoor
open Go.RowKit Go.PM
set_option maxRecDepth 100000
theorem fparse_mark {l:List UInt8} (h:fmark l≠0):fparse l=([],0,fmark l):=by unfold fparse;rw [if_pos h]
theorem fparse_body {l:List UInt8} (h:fmark l=0):fparse l=fbody l:=by unfold fparse;rw [if_neg (by omega)]
theorem fmark_two {l:List UInt8} (h:fmark l=0):2≤l.length:=by
 rcases fmark_cases l with ⟨_,r,rfl⟩ | ⟨h1,_⟩ | h1
 · simp
 · omega
 · omega
theorem vpos {l:List UInt8} (h:(vget l).2.2=0):(vget l).2.1=vsz (vget l).1:=by
 obtain ⟨_,k2,_,_,k5⟩:=vget_ok h
 rw [← vput_length,k5,List.length_take]
 omega
theorem fbody_of (l:List UInt8) (n k g:Nat) (hV:vget (l.drop 2)=(n,k,g)):fbody l =
 if g≠0 then ([],0,g) else if 65536 < n then ([],0,4) else if (l.drop (2+k)).length < n+4 then ([],0,1)
 else if cget (((l.drop (2+k)).drop n).take 4)≠csum ((l.drop (2+k)).take n) then ([],0,6) else ((l.drop (2+k)).take n,fsize n,0):=by
 unfold fbody
 simp only [hV]
theorem parse_any (s:ByteArray) (w:World) (hs:s.size≤9223372036854775807) :
 Calls Tryz.prog 29 #[.string s] w fun e w' =>
  e=.returned (.tuple #[.string (txt (fparse s.data.toList).1),.int .i64 ((fparse s.data.toList).2.1:Int),.int .i64 ((fparse s.data.toList).2.2:Int)])∧Below w.heap.size w w':=by
 have HM:Hid (∀ x:World,Calls Tryz.prog 72 #[.string s] x fun e w' => e=.returned (.int .i64 (fmark s.data.toList:Int))∧Below x.heap.size x w'):=fun x => marked_any s x hs
 by_cases hm:fmark s.data.toList=0
 · rw [fparse_body hm]
   rw [hm] at HM
   have h2:=fmark_two hm
   rw [len_list] at h2
   generalize hV:vget (s.data.toList.drop 2)=V
   obtain ⟨n,k,g⟩:=V
   have hbo:=fbody_of _ n k g hV
   have HG:Hid (∀ x:World,Calls Tryz.prog 36 #[.string (s.extract 2 s.size)] x fun e w' => e=.returned (.tuple #[.int .u64 (n:Int),.int .i64 (k:Int),.int .i64 (g:Int)])∧Below x.heap.size x w'):=fun x => by
    have:=get_any (s.extract 2 s.size) x (by simp;omega)
    rw [ext_rest,hV] at this
    exact this
   by_cases hg:g=0
   · subst hg
     have hok:=vget_ok (s:=s.data.toList.drop 2) (by rw [hV])
     have hvp:=vpos (l:=s.data.toList.drop 2) (by rw [hV])
     rw [hV] at hok hvp
     obtain ⟨k1,k2,k3,k4,_⟩:=hok
     simp only at k1 k2 k3 k4 hvp
     rw [List.length_drop,len_list] at k2
     rw [if_neg (by omega)] at hbo
     clear hV hm
     by_cases hn:65536 < n
     · rw [if_pos hn] at hbo
       rw [hbo]
       clear hbo hvp
       go_enter Tryz.func29,Tryz.ntmps29
       go_wp2_with fail
       refine (HM.out _).mono ?_
       rintro e w1 ⟨rfl,hb1⟩
       go_wp2_with fail
       refine (HG.out _).mono ?_
       rintro e w2 ⟨rfl,hb2⟩
       go_wp2
       go_ret3
       exact ⟨rfl,bb hb1 hb2⟩
     · rw [if_neg hn] at hbo
       have hbl:(s.data.toList.drop (2+k)).length=s.size - (2+k):=by rw [List.length_drop,len_list]
       have hks:2+k≤s.size:=by omega
       clear k2 k3 k4
       by_cases hsh:s.size - (2+k) < n+4
       · rw [if_pos (by rw [hbl];exact hsh)] at hbo
         rw [hbo]
         clear hbo hvp hbl
         go_enter Tryz.func29,Tryz.ntmps29
         go_wp2_with fail
         refine (HM.out _).mono ?_
         rintro e w1 ⟨rfl,hb1⟩
         go_wp2_with fail
         refine (HG.out _).mono ?_
         rintro e w2 ⟨rfl,hb2⟩
         go_wp2
         go_ret3
         exact ⟨rfl,bb hb1 hb2⟩
       · rw [if_neg (by rw [hbl];exact hsh)] at hbo
         have hP:((s.extract (2+k) s.size).extract 0 n).data.toList=(s.data.toList.drop (2+k)).take n:=by rw [ext_list,ext_rest];simp
         have hQ:((s.extract (2+k) s.size).extract n (n+4)).data.toList=((s.data.toList.drop (2+k)).drop n).take 4:=by rw [ext_list,ext_rest];simp
         rw [← hP,← hQ] at hbo
         have hqs:((s.extract (2+k) s.size).extract n (n+4)).size=4:=by simp;omega
         have hps:((s.extract (2+k) s.size).extract 0 n).size≤65536:=by simp;omega
         have hC:∀ x:World,Calls Tryz.prog 73 #[.string ((s.extract (2+k) s.size).extract 0 n),.string ((s.extract (2+k) s.size).extract n (n+4))] x fun e w' => e=.returned (.bool (decide (cget ((s.extract (2+k) s.size).extract n (n+4)).data.toList=csum ((s.extract (2+k) s.size).extract 0 n).data.toList)))∧Below x.heap.size x w':=fun x => check_any _ _ x (by omega) hqs
         have HC:=Lib.hid hC
         have HSZ:Hid (∀ x:World,Calls Tryz.prog 74 #[.int .i64 (n:Int)] x fun e w' => e=.returned (.int .i64 (fsize n:Int))∧Below x.heap.size x w'):=fun x => fsize_yes n x (by omega)
         clear hC hP hQ hvp hbl hqs hps
         by_cases hck:cget ((s.extract (2+k) s.size).extract n (n+4)).data.toList=csum ((s.extract (2+k) s.size).extract 0 n).data.toList
         · rw [if_neg (by simp only [ne_eq,Decidable.not_not];exact hck)] at hbo
           rw [hbo]
           rw [decide_eq_true hck] at HC
           have HX:=Lib.hid (txt_of ((s.extract (2+k) s.size).extract 0 n))
           clear hbo hck
           go_enter Tryz.func29,Tryz.ntmps29
           go_wp2_with fail
           refine (HM.out _).mono ?_
           rintro e w1 ⟨rfl,hb1⟩
           go_wp2_with fail
           refine (HG.out _).mono ?_
           rintro e w2 ⟨rfl,hb2⟩
           go_wp2_with fail
           refine (HC.out _).mono ?_
           rintro e w3 ⟨rfl,hb3⟩
           go_wp2_with fail
           refine (HSZ.out _).mono ?_
           rintro e w4 ⟨rfl,hb4⟩
           go_wp2
           go_ret3
           rw [HX.out]
           exact ⟨rfl,bb (bb (bb hb1 hb2) hb3) hb4⟩
         · rw [if_pos hck] at hbo
           rw [hbo]
           rw [decide_eq_false hck] at HC
           clear hbo hck
           go_enter Tryz.func29,Tryz.ntmps29
           go_wp2_with fail
           refine (HM.out _).mono ?_
           rintro e w1 ⟨rfl,hb1⟩
           go_wp2_with fail
           refine (HG.out _).mono ?_
           rintro e w2 ⟨rfl,hb2⟩
           go_wp2_with fail
           refine (HC.out _).mono ?_
           rintro e w3 ⟨rfl,hb3⟩
           go_wp2
           go_ret3
           exact ⟨rfl,bb (bb hb1 hb2) hb3⟩
   · rw [if_pos hg] at hbo
     rw [hbo]
     have hgb:((g:Int) != 0)=true:=by rw [bne_iff_ne];omega
     clear hbo hV hm hg
     go_enter Tryz.func29,Tryz.ntmps29
     go_wp2_with fail
     refine (HM.out _).mono ?_
     rintro e w1 ⟨rfl,hb1⟩
     go_wp2_with fail
     refine (HG.out _).mono ?_
     rintro e w2 ⟨rfl,hb2⟩
     go_wp2
     go_ret3
     exact ⟨rfl,bb hb1 hb2⟩
 · rw [fparse_mark hm]
   generalize fmark s.data.toList=m at hm HM
   have hmb:((m:Int) != 0)=true:=by rw [bne_iff_ne];omega
   clear hm
   go_enter Tryz.func29,Tryz.ntmps29
   go_wp2_with fail
   refine (HM.out _).mono ?_
   rintro e w1 ⟨rfl,hb1⟩
   go_wp2
   go_ret3
   exact ⟨rfl,hb1⟩
end Go.Proofs.YtgidfnhfgiehjaaGreatDoor
end

section
namespace Go.Proofs.YtgidfnhfgiehjaaGreatDoor
open Go.RowKit Go.PM
set_option maxRecDepth 100000
set_option maxHeartbeats 4000000
theorem str_same {a b:ByteArray} (h:a=b):(a.toList == b.toList)=true:=by rw [h];simp
theorem str_else {a b:ByteArray} (h:a≠b):(a.toList == b.toList)=false:=by
 rw [beq_eq_false_iff_ne,ByteArray.toList_eq,ByteArray.toList_eq]
 intro e
 exact h (ByteArray.ext (Array.toList_inj.1 e))
end Go.Proofs.YtgidfnhfgiehjaaGreatDoor
end

section
namespace Go.Proofs.YtgidfnhfgiehjaaGreatDoor
open Go.RowKit Go.PM
set_option maxRecDepth 100000
set_option maxHeartbeats 4000000
theorem info_str:(Tryz.prog.info? 9).map (fun i => (i.zero,i.size,i.bytes))=some (some (.string ByteArray.empty),1,16):=by kernel_rfl
def FallOf (S done:List ByteArray) (c:Nat) (R:List UInt8):Prop:=(if (fall R).2=0 then (done++(fall R).1.map txt,0) else ([],(fall R).2))=(S,c)
theorem fall_eq (R:List UInt8):fall R=if R.length=0 then ([],0) else if (fparse R).2.2=0 then
 (if (fall (R.drop (fparse R).2.1)).2=0 then ((fparse R).1 :: (fall (R.drop (fparse R).2.1)).1,0) else ([],(fall (R.drop (fparse R).2.1)).2)) else ([],(fparse R).2.2):=by
 rw [fall]
 split
 · rfl
 · split <;> rfl
theorem FallOf.start (l:List UInt8):FallOf ((fall l).1.map txt) [] (fall l).2 l:=by
 unfold FallOf
 split
 · rename_i h;rw [h];rfl
 · rename_i h
   have:(fall l).1=[]:=by
    rw [fall_eq] at h ⊢
    split
    · rfl
    · rename_i h1;rw [if_neg h1] at h
      split
      · rename_i h2;rw [if_pos h2] at h
        split
        · rename_i h3;rw [if_pos h3] at h;simp at h
        · rfl
      · rfl
   rw [this]
   rfl
theorem FallOf.stop {S done:List ByteArray} {c:Nat} (h:FallOf S done c []):S=done∧c=0:=by
 unfold FallOf at h
 rw [fall_eq] at h
 simp at h
 exact ⟨h.1.symm,h.2.symm⟩
theorem FallOf.err {S done:List ByteArray} {c:Nat} {R:List UInt8} (h:FallOf S done c R) (hR:R.length≠0) (hv:(fparse R).2.2≠0):S=[]∧c=(fparse R).2.2:=by
 unfold FallOf at h
 rw [fall_eq,if_neg hR,if_neg hv] at h
 simp [hv] at h
 exact ⟨h.1,h.2.symm⟩
theorem FallOf.next {S done:List ByteArray} {c:Nat} {R:List UInt8} (h:FallOf S done c R) (hR:R.length≠0) (hv:(fparse R).2.2=0):FallOf S (done++[txt (fparse R).1]) c (R.drop (fparse R).2.1):=by
 unfold FallOf at h ⊢
 rw [fall_eq,if_neg hR,if_pos hv] at h
 rw [← h]
 split <;> simp
end Go.Proofs.YtgidfnhfgiehjaaGreatDoor
end

section
namespace Go.Proofs.YtgidfnhfgiehjaaGreatDoor
open Go.RowKit Go.PM
theorem awake01 (w:World):Calls Tryz.prog 330 #[] w fun e w' => e=.returned (.bool true)∧Below w.heap.size w w':=by
 go_enter Tryz.func330,Tryz.ntmps330
 go_wp2_with fail
 refine (cur_over _ _).mono ?_
 rintro e w1 ⟨rfl,rfl⟩
 have hc0:Cur (w.alloc (.cells #[.string ⟨#[97,98]⟩,.int .i64 0] 228)) w.heap.size ⟨#[97,98]⟩ 0:=⟨BlkAt.made _ _ _,Nat.zero_le _,by decide⟩
 have H0:=Lib.hid hc0
 clear hc0
 go_wp2_with fail
 refine (cur_byte_yes _ _ _ _ H0.out (by decide)).mono ?_
 rintro e w1 ⟨rfl,hc1,hg1⟩
 have e1:((ByteArray.mk #[97,98])[0]'(by decide)).toNat=97:=rfl
 have H1:=Lib.hid hc1
 clear hc1
 rw [e1]
 clear e1
 go_wp2_with fail
 refine (cur_byte_yes _ _ _ _ H1.out (by decide)).mono ?_
 rintro e w2 ⟨rfl,hc2,hg2⟩
 have e1:((ByteArray.mk #[97,98])[0+1]'(by decide)).toNat=98:=rfl
 have H2:=Lib.hid hc2
 clear hc2
 rw [e1]
 clear e1
 go_wp2_with fail
 refine (cur_byte_no _ _ _ _ H2.out (by decide)).mono ?_
 rintro e w3 ⟨rfl,hb3⟩
 go_wp2_with fail
 go_ret
 exact ⟨rfl,bb (bg (bg (ba b0 _) hg1 (Nat.le_refl _)) hg2 (Nat.le_refl _)) hb3⟩
end Go.Proofs.YtgidfnhfgiehjaaGreatDoor
end

section
namespace Go.Proofs.YtgidfnhfgiehjaaGreatDoor
open Go.RowKit Go.PM
set_option maxRecDepth 100000
theorem awakeE01 (w:World):Calls Tryz.prog 329 #[] w fun e w' => e=.returned (.bool true)∧Below w.heap.size w w':=by
 go_enter Tryz.func329,Tryz.ntmps329
 go_wp2_with (go_at_call 330;refine (awake01 _).mono ?_;rintro e w' ⟨rfl,hb⟩)
 go_ret
 exact ⟨rfl,hb⟩
theorem vput300:vput 300=[172,2]:=by
 rw [vput_big (by omega),vput_small (by omega)];rfl
theorem awake02 (w:World):Calls Tryz.prog 328 #[] w fun e w' => e=.returned (.bool true)∧Below w.heap.size w w':=by
 have e1:vget [172,130,0]=(0,0,2):=by decide
 go_enter Tryz.func328,Tryz.ntmps328
 go_wp2_with fail
 refine (get_any _ _ (by decide)).mono ?_
 rintro e w1 ⟨rfl,hb1⟩
 simp only [e1]
 go_wp2_with fail
 refine (awakeE01 _).mono ?_
 rintro e w2 ⟨rfl,hb2⟩
 go_wp2_with fail
 refine (put_any 300 _ (by unfold In64;omega)).mono ?_
 rintro e w3 ⟨rfl,hb3⟩
 rw [vput300]
 go_wp2_with fail
 go_ret
 exact ⟨rfl,bb (bb hb1 hb2) hb3⟩
theorem awakeE02 (w:World):Calls Tryz.prog 327 #[] w fun e w' => e=.returned (.bool true)∧Below w.heap.size w w':=by
 go_enter Tryz.func327,Tryz.ntmps327
 go_wp2_with (go_at_call 328;refine (awake02 _).mono ?_;rintro e w' ⟨rfl,hb⟩)
 go_ret
 exact ⟨rfl,hb⟩
end Go.Proofs.YtgidfnhfgiehjaaGreatDoor
end

section
namespace Go.PM
end Go.PM
end

section
namespace Go.Proofs.YtgidfnhfgiehjaaGreatDoor
open Go.RowKit Go.PM
set_option maxRecDepth 100000
end Go.Proofs.YtgidfnhfgiehjaaGreatDoor
end

section
namespace Go.Proofs.YtgidfnhfgiehjaaGreatDoor
open Go.RowKit Go.PM
set_option maxRecDepth 100000
def zmap (n:Int):Nat:=if 0≤n then (2 * n).toNat else (-2 * n - 1).toNat
def zback (z:Nat):Int:=if z % 2=0 then ((z / 2:Nat):Int) else -((z / 2:Nat):Int) - 1
theorem zmap_64 {n:Int} (h:InI64 n):In64 (zmap n):=by unfold zmap In64;unfold InI64 at h;split <;> omega
theorem zback_64 {z:Nat} (h:In64 z):InI64 (zback z):=by unfold zback InI64;unfold In64 at h;split <;> omega
theorem xor_ones (a:Nat) (h:a < 18446744073709551616):a ^^^ 18446744073709551615=18446744073709551615 - a:=by
 have e:(BitVec.ofNat 64 a ^^^ BitVec.allOnes 64).toNat=(~~~BitVec.ofNat 64 a).toNat:=by rw [BitVec.xor_allOnes]
 rw [BitVec.toNat_xor,BitVec.toNat_not,BitVec.toNat_ofNat,BitVec.toNat_allOnes] at e
 rw [Nat.mod_eq_of_lt (by omega)] at e
 omega
theorem map_eq (n:Int) (h:InI64 n):bits .xor .u64 (IntKind.u64.wrap (IntKind.u64.wrap n * 2)) (IntKind.u64.wrap (n / 9223372036854775808))=(zmap n:Int):=by
 unfold InI64 at h
 unfold zmap
 rw [IntKind.wrap_u64,IntKind.wrap_u64,IntKind.wrap_u64]
 by_cases h0:0≤n
 · rw [if_pos h0]
   have e1:n % 18446744073709551616 * 2 % 18446744073709551616=((2 * n).toNat:Int):=by omega
   have e2:n / 9223372036854775808 % 18446744073709551616=((0:Nat):Int):=by omega
   rw [e1,e2,bits_xor_u64_nat _ _ (by omega) (by omega),Nat.xor_zero]
 · rw [if_neg h0]
   have e1:n % 18446744073709551616 * 2 % 18446744073709551616=((18446744073709551616+2 * n).toNat:Int):=by omega
   have e2:n / 9223372036854775808 % 18446744073709551616=((18446744073709551615:Nat):Int):=by omega
   rw [e1,e2,bits_xor_u64_nat _ _ (by omega) (by omega),xor_ones _ (by omega)]
   omega
theorem and_one (z:Nat) (h:In64 z):bits .and .u64 (z:Int) 1=(z:Int) % 2:=by
 have:=bits_and_u64_nat z 1 h.out (by omega)
 rw [Nat.and_one_is_mod] at this
 simpa using this
theorem back_eq (z:Nat) (h:In64 z):bits .xor .i64 (wrap64 ((z:Int) / 2)) (wrap64 (-wrap64 (bits .and .u64 (z:Int) 1)))=zback z:=by
 rw [and_one z h]
 unfold In64 at h
 unfold zback
 have e1:wrap64 ((z:Int) / 2)=((z / 2:Nat):Int):=by unfold wrap64;omega
 have o:∀ a:Nat,a < 9223372036854775808→(BitVec.ofInt 64 (a:Int)).toNat=a:=fun a ha => by
  rw [BitVec.ofInt_natCast,BitVec.toNat_ofNat];exact Nat.mod_eq_of_lt (by omega)
 have ho:=o (z / 2) (by omega)
 by_cases h0:z % 2=0
 · rw [if_pos h0,e1]
   have e2:wrap64 (-wrap64 ((z:Int) % 2))=((0:Nat):Int):=by unfold wrap64;omega
   rw [e2]
   show IntKind.i64.wrap ((BitVec.ofInt 64 ((z / 2:Nat):Int) ^^^ BitVec.ofInt 64 ((0:Nat):Int)).toNat:Int)=_
   rw [BitVec.toNat_xor,ho,o 0 (by omega),Nat.xor_zero,IntKind.wrap_i64]
   omega
 · rw [if_neg h0,e1]
   have e2:wrap64 (-wrap64 ((z:Int) % 2)) = -1:=by unfold wrap64;omega
   rw [e2]
   show IntKind.i64.wrap ((BitVec.ofInt 64 ((z / 2:Nat):Int) ^^^ BitVec.ofInt 64 (-1)).toNat:Int)=_
   have e3:BitVec.ofInt 64 (-1)=BitVec.allOnes 64:=by decide
   rw [e3,BitVec.xor_allOnes,BitVec.toNat_not,ho,IntKind.wrap_i64]
   omega
theorem map_any (n:Int) (w:World) (hn:InI64 n):Calls Tryz.prog 88 #[.int .i64 n] w fun e w' => e=.returned (.int .u64 (zmap n:Int))∧Below w.heap.size w w':=by
 have HE:=Lib.hid (map_eq n hn)
 clear hn
 go_enter Tryz.func88,Tryz.ntmps88
 go_wp2
 go_ret
 rw [← HE.out]
 exact ⟨rfl,b0⟩
theorem back_any (z:Nat) (w:World) (hz:In64 z):Calls Tryz.prog 140 #[.int .u64 (z:Int)] w fun e w' => e=.returned (.int .i64 (zback z))∧Below w.heap.size w w':=by
 have HE:=Lib.hid (back_eq z hz)
 clear hz
 go_enter Tryz.func140,Tryz.ntmps140
 go_wp2
 go_ret
 rw [← HE.out]
 exact ⟨rfl,b0⟩
end Go.Proofs.YtgidfnhfgiehjaaGreatDoor
end

section
namespace Go.Proofs.YtgidfnhfgiehjaaGreatDoor
open Go.RowKit Go.PM
set_option maxRecDepth 100000
theorem awake03 (w:World):Calls Tryz.prog 326 #[] w fun e w' => e=.returned (.bool true)∧Below w.heap.size w w':=by
 go_enter Tryz.func326,Tryz.ntmps326
 go_wp2_with fail
 refine (awakeE02 _).mono ?_
 rintro e w1 ⟨rfl,hb1⟩
 go_wp2_with fail
 refine (map_any (-3) _ (by unfold InI64;omega)).mono ?_
 rintro e w2 ⟨rfl,hb2⟩
 rw [show zmap (-3)=5 from by decide]
 go_wp2_with fail
 refine (back_any 5 _ (by unfold In64;omega)).mono ?_
 rintro e w3 ⟨rfl,hb3⟩
 rw [show zback 5 = -3 from by decide]
 go_wp2
 go_ret
 exact ⟨rfl,bb (bb hb1 hb2) hb3⟩
theorem awakeE03 (w:World):Calls Tryz.prog 325 #[] w fun e w' => e=.returned (.bool true)∧Below w.heap.size w w':=by
 go_enter Tryz.func325,Tryz.ntmps325
 go_wp2_with (go_at_call 326;refine (awake03 _).mono ?_;rintro e w' ⟨rfl,hb⟩)
 go_ret
 exact ⟨rfl,hb⟩
end Go.Proofs.YtgidfnhfgiehjaaGreatDoor
end

section
namespace Go.Proofs.YtgidfnhfgiehjaaGreatDoor
open Go.RowKit Go.PM
set_option maxRecDepth 100000
theorem awake04 (w:World) :
 Calls Tryz.prog 324 #[] w fun e w' => e=.returned (.bool true)∧Below w.heap.size w w':=by
 go_enter Tryz.func324,Tryz.ntmps324
 go_wp2_with fail
 refine (awakeE03 _).mono ?_
 rintro e w1 ⟨rfl,hb1⟩
 go_wp2_with fail
 refine (sum_one _ _ _ (BlkAt.made _ _ _) (by decide)).mono ?_
 rintro e w2 ⟨rfl,hb2⟩
 rw [show csum (ByteArray.mk #[49,50,51,52,53,54,55,56,57]).data.toList=3421780262 by decide +kernel]
 go_wp2
 go_ret
 exact ⟨rfl,bb (ba hb1 _) hb2⟩
theorem awakeE04 (w:World):Calls Tryz.prog 323 #[] w fun e w' => e=.returned (.bool true)∧Below w.heap.size w w':=by
 go_enter Tryz.func323,Tryz.ntmps323
 go_wp2_with (go_at_call 324;refine (awake04 _).mono ?_;rintro e w' ⟨rfl,hb⟩)
 go_ret
 exact ⟨rfl,hb⟩
end Go.Proofs.YtgidfnhfgiehjaaGreatDoor
end
