/-
  Texts of the proof, joined: EntRow TabRow Descr1 EntEq Descr2 Entry Descr3 Entry2. Conditions: as each names.
-/
import Derived.Test.YtgidfnhfgiehjaaGreatDoorXTopRejectsaa
import Derived.Test.YtgidfnhfgiehjaaGreatDoorXTopRejectsad
import Derived.Test.YtgidfnhfgiehjaaGreatDoorXTopRejectsab
import Derived.Test.YtgidfnhfgiehjaaGreatDoorXTopRejectsac
import Derived.Test.YtgidfnhfgiehjaaGreatDoorXTopRejectsah
import Derived.Laws.StructEq
import Derived.Shelf.SlicesE.Kit
import Derived.Test.YtgidfnhfgiehjaaGreatDoorXTopRejectsaj
import Derived.Test.YtgidfnhfgiehjaaGreatDoorXTopRejectsak
import Derived.Deep.RegionHeld3

section
namespace Go.PM
open Go.RowKit
def encE (e:Ent):List Value:=[.string (txt e.1),.string (txt e.2)]
theorem encE_len (e:Ent):(encE e).length=2:=rfl
theorem encE_one (e:Ent):∀ v ∈ encE e,v.oneCell'=true:=by
 intro v hv
 simp only [encE,List.mem_cons,List.not_mem_nil,or_false] at hv
 rcases hv with rfl | rfl <;> rfl
def ents (l:List Ent):List Value:=l.flatMap encE
theorem ents_len:∀ l:List Ent,(ents l).length=l.length * 2
 | [] => rfl
 | a :: r => by
   show (ents r).length+1+1=(r.length+1) * 2
   rw [ents_len r]
   omega
theorem ents_app (l m:List Ent):ents (l++m)=ents l++ents m:=by simp [ents]
theorem ents_at:∀ (l:List Ent) (k:Nat) (h:k < l.length),(ents l)[k * 2]? = some (.string (txt l[k].1))∧(ents l)[k * 2+1]? = some (.string (txt l[k].2))
 | a :: r,0,_ => ⟨rfl,rfl⟩
 | a :: r,k+1,h => by
   have ih:=ents_at r k (by simpa using h)
   rw [show (k+1) * 2=k * 2+1+1 by omega]
   exact ih
theorem ents_one (l:List Ent):∀ u ∈ ents l,u.oneCell'=true:=fun u hu => by
 obtain ⟨a,_,h⟩:=List.mem_flatMap.1 hu
 exact encE_one a u h
section
variable {w:World} {A:Option Addr} {l:List Ent}
theorem Rd.ent (h:Rd w A (ents l)) {k:Nat} (hk:k < l.length):∃ b off,A=some ⟨b,off,none⟩∧b < w.heap.size∧w.cell? ⟨b,off+k * 2,none⟩=some (.string (txt l[k].1))∧w.cell? ⟨b,off+k * 2+1,none⟩=some (.string (txt l[k].2)):=by
 obtain ⟨h1,h2⟩:=ents_at l k hk
 rcases h with h | ⟨b,off,e,hb,hc⟩
 · rw [h] at h1;simp at h1
 · exact ⟨b,off,e,hb,hc _ _ h1,hc _ _ h2⟩
end
def zent:Value:=.agg #[.string ByteArray.empty,.string ByteArray.empty]
section
variable {P:Program} {w:World}
theorem eapp_run (t ty e:TypeId) (i:TypeInfo) (ht:P.underlying t=some (.slice e)) (hi:P.info? e=some i) (hz:i.zero=some zent) (hsz:i.size=2) (hby:i.bytes=32)
 {base:Nat} {A B:Option Addr} {c d:Nat} {l m:List Ent} (hown:w.ownsRow base e 2 (.slice A l.length c) l.length (ents l)) (hB:Rd w B (ents m)) (hlm:l.length+m.length≤1000000) (hb:base≤w.heap.size) :
 ∃ (A':Option Addr) (c':Nat) (w':World),(Builtin.append_ #[t,t] ty #[.slice A l.length c,.slice B m.length d]).run P w=.ok (.slice A' (l.length+m.length) c') w'∧w'.ownsRow base e 2 (.slice A' (l.length+m.length) c') (l.length+m.length) (ents (l++m)) ∧
  w.grownBy w' (Value.slice A l.length c).ownBlock∧((Value.slice A' (l.length+m.length) c').ownBlock=(Value.slice A l.length c).ownBlock∨(Value.slice A' (l.length+m.length) c').ownBlock=some w.heap.size):=by
 by_cases h0:m=[]
 · subst h0
   have hnc:l.length≤c:=by
    rcases hown.2 with ⟨h1,h2⟩ | ⟨g',cap,cur,h1,_,_,h2,_⟩
    · omega
    · simp only [Value.slice.injEq] at h1;omega
   rw [List.append_nil,List.length_nil,Nat.add_zero]
   exact ⟨A,c,w,append_empty t ty e i ht hi A B l.length c d hnc,hown,grown_refl _ _,.inl rfl⟩
 · rcases hB with h | ⟨b,o,rfl,hbl,hc⟩
   · have h1:=ents_len m
     rw [h] at h1
     exact absurd (List.eq_nil_of_length_eq_zero (by simp only [List.length_nil] at h1;omega)) h0
   have hpos:0 < m.length:=List.length_pos_iff.2 h0
   have hnews:∀ j u,(ents m)[j]? = some u→w.cell? ((⟨b,o,none⟩:Addr).add j)=some u:=fun j u hj => by
    have ha:(⟨b,o,none⟩:Addr).add j=⟨b,o+j,none⟩:=by unfold Addr.add;split <;> simp_all
    rw [ha];exact hc j u hj
   obtain ⟨g',cap,w',hr,h2,h3,h4,h5⟩:=run_append_lies (P:=P) w t ty base e i zent 2 32 ht hi hz hsz hby rfl (by decide) _ l.length (ents l) hown ⟨b,o,none⟩ m.length d (ents m) (ents_len m) hnews (ents_one m) hpos (by unfold maxLen;omega) (by omega) hb w.heap.size rfl
   refine ⟨some ⟨g',0,none⟩,cap,w',hr,by rw [ents_app];exact h2,h3,?_⟩
   rcases h4 with h4 | h4
   · exact .inl h4.symm
   · right;rw [h4];rfl
end
theorem own_rd {w:World} {base e n:Nat} {v:Value} {l:List Ent} (h:w.ownsRow base e 2 v n (ents l)):n=l.length∧∃ A c,v=.slice A l.length c∧Rd w A (ents l)∧l.length≤c∧(∀ b off,A=some ⟨b,off,none⟩→v.ownBlock=some b∧base≤b):=by
 have hn:n=l.length:=by have h1:=h.1;rw [ents_len] at h1;omega
 subst hn
 exact ⟨rfl,Rd.own h⟩
end Go.PM
end

section
namespace Go.PM
open Go.RowKit
structure Rv where
 d:List Ent
 A:Option Addr
 c:Nat
 n:Nat
def Rv.rw (r:Rv):Rw:=(r.d,r.n)
def encR (r:Rv):List Value:=[.slice r.A r.d.length r.c,.int .u64 (r.n:Int)]
def rvs (l:List Rv):List Value:=l.flatMap encR
theorem rvs_len:∀ l:List Rv,(rvs l).length=l.length * 2
 | [] => rfl
 | a :: r => by
   show (rvs r).length+1+1=(r.length+1) * 2
   rw [rvs_len r]
   omega
theorem rvs_app (l m:List Rv):rvs (l++m)=rvs l++rvs m:=by simp [rvs]
theorem rvs_at:∀ (l:List Rv) (k:Nat) (h:k < l.length),(rvs l)[k * 2]? = some (.slice l[k].A l[k].d.length l[k].c)∧(rvs l)[k * 2+1]? = some (.int .u64 (l[k].n:Int))
 | a :: r,0,_ => ⟨rfl,rfl⟩
 | a :: r,k+1,h => by
   have ih:=rvs_at r k (by simpa using h)
   rw [show (k+1) * 2=k * 2+1+1 by omega]
   exact ih
theorem rvs_one (l:List Rv):∀ u ∈ rvs l,u.oneCell'=true:=fun u hu => by
 obtain ⟨a,_,h⟩:=List.mem_flatMap.1 hu
 simp only [encR,List.mem_cons,List.not_mem_nil,or_false] at h
 rcases h with rfl | rfl <;> rfl
def RdI (w:World) (I:Nat→Prop) (A:Option Addr) (l:List Ent):Prop:=l=[]∨∃ b off,A=some ⟨b,off,none⟩∧I b∧b < w.heap.size∧∀ j u,(ents l)[j]? = some u→w.cell? ⟨b,off+j,none⟩=some u
section
variable {w w':World} {I J S:Nat→Prop} {A:Option Addr} {l:List Ent}
theorem RdI.rd (h:RdI w I A l):Rd w A (ents l):=by
 rcases h with rfl | ⟨b,off,e,_,hb,hc⟩
 · exact .inl rfl
 · exact .inr ⟨b,off,e,hb,hc⟩
theorem RdI.imp (h:RdI w I A l) (hi:∀ b,b < w.heap.size→I b→J b):RdI w J A l:=Or.imp id (fun ⟨b,off,e,hI,hb,hc⟩ => ⟨b,off,e,hi b hb hI,hb,hc⟩) h
theorem RdI.tch (h:RdI w I A l) (hg:Tch S w w') (hs:∀ b,I b→¬ S b):RdI w' I A l:=Or.imp id (fun ⟨b,off,e,hI,hb,hc⟩ => ⟨b,off,e,hI,Nat.lt_of_lt_of_le hb hg.size,fun j u hj => (World.cell?_of_block (a:=⟨b,off+j,none⟩) (hg.block b hb (hs b hI))).trans (hc j u hj)⟩) h
theorem RdI.below (h:RdI w I A l) (hb:Below w.heap.size w w'):RdI w' I A l:=h.tch (S:=fun _ => False) (Tch.below hb) fun _ _ => id
theorem Rd.rdI (h:Rd w A (ents l)) (hf:∀ b off,A=some ⟨b,off,none⟩→I b):RdI w I A l:=by
 rcases h with h | ⟨b,off,e,hb,hc⟩
 · left
   have h1:=ents_len l
   rw [h] at h1
   exact List.eq_nil_of_length_eq_zero (by simp only [List.length_nil] at h1;omega)
 · exact .inr ⟨b,off,e,hf b off e,hb,hc⟩
end
def RvOk (w:World) (I:Nat→Prop) (r:Rv):Prop:=r.d.length≤r.c∧RdI w I r.A r.d
theorem RvOk.tch {w w':World} {I S:Nat→Prop} {r:Rv} (h:RvOk w I r) (hg:Tch S w w') (hs:∀ b,I b→¬ S b):RvOk w' I r:=⟨h.1,h.2.tch hg hs⟩
theorem RvOk.below {w w':World} {I:Nat→Prop} {r:Rv} (h:RvOk w I r) (hb:Below w.heap.size w w'):RvOk w' I r:=⟨h.1,h.2.below hb⟩
theorem RvOk.imp {w:World} {I J:Nat→Prop} {r:Rv} (h:RvOk w I r) (hi:∀ b,b < w.heap.size→I b→J b):RvOk w J r:=⟨h.1,h.2.imp hi⟩
theorem Rd.row {w:World} {A:Option Addr} {l:List Rv} (h:Rd w A (rvs l)) {k:Nat} (hk:k < l.length):∃ b off,A=some ⟨b,off,none⟩∧b < w.heap.size∧w.cell? ⟨b,off+k * 2,none⟩=some (.slice l[k].A l[k].d.length l[k].c)∧w.cell? ⟨b,off+k * 2+1,none⟩=some (.int .u64 (l[k].n:Int)):=by
 obtain ⟨h1,h2⟩:=rvs_at l k hk
 rcases h with h | ⟨b,off,e,hb,hc⟩
 · rw [h] at h1;simp at h1
 · exact ⟨b,off,e,hb,hc _ _ h1,hc _ _ h2⟩
def TbV (w:World) (I:Nat→Prop) (v:Value) (t:List Rw):Prop:=∃ (l:List Rv) (A:Option Addr) (c:Nat),v=.slice A l.length c∧t=l.map Rv.rw∧Rd w A (rvs l)∧(∀ r ∈ l,RvOk w I r)∧l.length≤c
theorem TbV.below {w w':World} {I:Nat→Prop} {v:Value} {t:List Rw} (h:TbV w I v t) (hb:Below w.heap.size w w'):TbV w' I v t:=by
 obtain ⟨l,A,c,h1,h2,h3,h4,h5⟩:=h
 exact ⟨l,A,c,h1,h2,h3.below hb,fun r hr => (h4 r hr).below hb,h5⟩
theorem TbV.nil (w:World) (I:Nat→Prop):TbV w I (.slice none 0 0) []:=⟨[],none,0,rfl,rfl,.inl rfl,by simp,Nat.le_refl _⟩
def zrow:Value:=.agg #[.slice none 0 0,.int .u64 0]
theorem rapp_run {P:Program} {w:World} (t ty e:TypeId) (i:TypeInfo) (ht:P.underlying t=some (.slice e)) (hi:P.info? e=some i) (hz:i.zero=some zrow) (hsz:i.size=2) (hby:i.bytes=32)
 {base:Nat} {A:Option Addr} {g c d:Nat} {l:List Rv} {r:Rv} (hown:w.ownsRow base e 2 (.slice A l.length c) l.length (rvs l)) (hB:Rd w (some ⟨g,0,none⟩) (rvs [r])) (hl:l.length≤100000) (hb:base≤w.heap.size) :
 ∃ (A':Option Addr) (c':Nat) (w':World),(Builtin.append_ #[t,t] ty #[.slice A l.length c,.slice (some ⟨g,0,none⟩) 1 d]).run P w=.ok (.slice A' (l.length+1) c') w'∧w'.ownsRow base e 2 (.slice A' (l.length+1) c') (l.length+1) (rvs (l++[r])) ∧
  w.grownBy w' (Value.slice A l.length c).ownBlock∧((Value.slice A' (l.length+1) c').ownBlock=(Value.slice A l.length c).ownBlock∨(Value.slice A' (l.length+1) c').ownBlock=some w.heap.size):=by
 have hc:∀ j u,(rvs [r])[j]? = some u→w.cell? ⟨g,0+j,none⟩=some u:=by
  rcases hB with h | ⟨b,o,e,_,hc⟩
  · have h1:=rvs_len [r]
    rw [h] at h1
    simp at h1
  · injection e with e
    injection e with e1 e2
    subst e1 e2
    exact hc
 have hnews:∀ j u,(rvs [r])[j]? = some u→w.cell? ((⟨g,0,none⟩:Addr).add j)=some u:=fun j u hj => by rw [add_at,← Nat.zero_add j];exact hc j u hj
 obtain ⟨g',cap,w',hr,h2,h3,h4,h5⟩:=run_append_lies (P:=P) w t ty base e i zrow 2 32 ht hi hz hsz hby rfl (by decide) _ l.length (rvs l) hown ⟨g,0,none⟩ 1 d (rvs [r]) rfl hnews (rvs_one [r]) (by decide) (by unfold maxLen;omega) (by omega) hb w.heap.size rfl
 refine ⟨some ⟨g',0,none⟩,cap,w',hr,by rw [rvs_app];exact h2,h3,?_⟩
 rcases h4 with h4 | h4
 · exact .inl h4.symm
 · right;rw [h4];rfl
end Go.PM
end

section
namespace Go.Proofs.YtgidfnhfgiehjaaGreatDoor
open Go.RowKit Go.PM
set_option maxRecDepth 100000
set_option maxHeartbeats 1000000
attribute [local go_sem ↓] Go.wp_at_zero Go.wp_at_succ
theorem many_any (n:Nat) (w:World):Calls Tryz.prog 181 #[.int .u64 (n:Int)] w fun e w' => e=.returned (.int .i64 (dmany n))∧w'=w:=by
 unfold dmany
 by_cases h0:n=0
 · subst h0
   rw [if_pos rfl]
   go_enter Tryz.func181,Tryz.ntmps181
   go_wp2
   go_ret
   exact ⟨rfl,rfl⟩
 · rw [if_neg h0]
   have i0:((n:Int) == 0)=false:=by rw [beq_eq_false_iff_ne];omega
   by_cases h1:16 < n
   · rw [if_pos h1]
     have i1:(16:Int) < (n:Int):=by omega
     go_enter Tryz.func181,Tryz.ntmps181
     go_wp2
     go_ret
     exact ⟨rfl,rfl⟩
   · rw [if_neg h1]
     have i1:¬ (16:Int) < (n:Int):=by omega
     go_enter Tryz.func181,Tryz.ntmps181
     go_wp2
     go_ret
     exact ⟨rfl,rfl⟩
theorem behind_any (a k:ByteArray) (w:World):Calls Tryz.prog 183 #[.string a,.string k] w fun e w' => e=.returned (.int .i64 (dbeh a.data.toList k.data.toList))∧w'=w:=by
 unfold dbeh
 have hl:=less_cmp k.data.toList a.data.toList
 rw [← ByteArray.toList_eq,← ByteArray.toList_eq] at hl
 rw [← ByteArray.toList_eq,← ByteArray.toList_eq]
 by_cases h0:k.toList=a.toList
 · rw [if_pos h0]
   have i0:(k.toList == a.toList)=true:=by rw [beq_iff_eq];exact h0
   clear h0 hl
   go_enter Tryz.func183,Tryz.ntmps183
   go_wp2
   go_ret
   exact ⟨rfl,rfl⟩
 · rw [if_neg h0]
   have i0:(k.toList == a.toList)=false:=by rw [beq_eq_false_iff_ne];exact h0
   clear h0
   by_cases h1:Lib.compareBytes k.toList a.toList < 0
   · rw [if_pos h1]
     rw [decide_eq_true h1] at hl
     clear h1
     go_enter Tryz.func183,Tryz.ntmps183
     go_wp2
     go_ret
     exact ⟨rfl,rfl⟩
   · rw [if_neg h1]
     rw [decide_eq_false h1] at hl
     clear h1
     go_enter Tryz.func183,Tryz.ntmps183
     go_wp2
     go_ret
     exact ⟨rfl,rfl⟩
def efew (l:List Ent):Bool:=l.all (fun e => decide (e.1.length+e.2.length≤600)) && decide (l.length≤40)
def ESz (l:List Ent):Prop:=∀ e ∈ l,e.1.length≤140737488351232∧e.2.length≤140737488351232
theorem efew_any (A:Option Addr) (cap:Nat) (l:List Ent) (w:World) (hr:Rd w A (ents l)) (hz:ESz l) (hl:l.length≤9223372036854775807) :
 Calls Tryz.prog 31 #[.slice A l.length cap] w fun e w' => e=.returned (.bool (efew l))∧Below w.heap.size w w':=by
 have HR:=Lib.hid hr
 have HZ:=Lib.hid hz
 have H0:Hid (efew l=((l.drop 0).all (fun e => decide (e.1.length+e.2.length≤600)) && decide (l.length≤40))):=rfl
 generalize hF:efew l=F at H0 ⊢
 clear hr hz hF
 go_enter Tryz.func31,Tryz.ntmps31
 go_wp2_with fail
 go_loopg [7] l.length (fun gk ki wr => ∃ k:Nat,k≤l.length∧l.length - k≤gk∧ki=.int .i64 (k:Int)∧Hid (F=((l.drop k).all (fun e => decide (e.1.length+e.2.length≤600)) && decide (l.length≤40)))∧Below w.heap.size w wr)
 case atStart => exact ⟨0,Nat.zero_le _,by omega,rfl,H0,b0⟩
 case round =>
  obtain ⟨k,hk,hgk,rfl,HM,hbel⟩:=hrel
  have HB:=Lib.hid hbel
  by_cases hlt:k < l.length
  · obtain ⟨b,off,rfl,hbl,c0,c1⟩:=(HR.out.below hbel).ent hlt
    obtain ⟨z0,z1⟩:=HZ.out _ (List.getElem_mem hlt)
    have hm:=HM.out
    rw [List.drop_eq_getElem_cons hlt,List.all_cons] at hm
    have HM2:=Lib.hid hm
    clear hm HM hbel H0
    generalize l[k]=x at *
    obtain ⟨x0,x1⟩:=x
    simp only at c0 c1 z0 z1
    have s0:=txt_size x0
    have s1:=txt_size x1
    by_cases hbig:600 < x0.length+x1.length
    · have hm:=HM2.out
      simp only [show decide (x0.length+x1.length≤600)=false from decide_eq_false (by omega),Bool.false_and] at hm
      subst hm
      have hi:(600:Int) < ((txt x0).size:Int)+((txt x1).size:Int):=by rw [s0,s1];omega
      rw [← s0] at z0
      rw [← s1] at z1
      clear HM2 s0 s1 hbig
      go_wp2_with fail
      go_ret
      exact ⟨rfl,ba HB.out _⟩
    · have hm:=HM2.out
      simp only [show decide (x0.length+x1.length≤600)=true from decide_eq_true (by omega),Bool.true_and] at hm
      have HM3:=Lib.hid hm
      have hi:¬ (600:Int) < ((txt x0).size:Int)+((txt x1).size:Int):=by rw [s0,s1];omega
      rw [← s0] at z0
      rw [← s1] at z1
      clear HM2 s0 s1 hbig hm
      go_wp2_with fail
      go_roundg (l.length - (k+1))
      case measure => omega
      case rel => exact ⟨k+1,by omega,Nat.le_refl _,by go_num,HM3,ba HB.out _⟩
  · obtain rfl:k=l.length:=by omega
    have hm:=HM.out
    rw [List.drop_of_length_le (Nat.le_refl _),List.all_nil,Bool.true_and] at hm
    have hd:decide ((l.length:Int)≤40)=F:=by rw [hm,decide_eq_decide];omega
    clear hbel hm HM H0
    go_wp2_with fail
    go_ret
    exact ⟨rfl,HB.out⟩
def SlE (w:World) (v:Value) (l:List Ent):Prop:=∃ A c,v=.slice A l.length c∧Rd w A (ents l)∧l.length≤c
theorem info_ent:(Tryz.prog.info? 132).map (fun i => (i.zero,i.size,i.bytes))=some (some zent,2,32):=by kernel_rfl
end Go.Proofs.YtgidfnhfgiehjaaGreatDoor
end

section
namespace Go.Proofs.YtgidfnhfgiehjaaGreatDoor
open Go.RowKit Go.PM
set_option maxRecDepth 100000
set_option maxHeartbeats 1000000
end Go.Proofs.YtgidfnhfgiehjaaGreatDoor
end

section
namespace Go.Proofs.YtgidfnhfgiehjaaGreatDoor
open Go.RowKit Go.PM
set_option maxRecDepth 100000
set_option maxHeartbeats 1000000
attribute [local go_sem ↓] Go.wp_at_zero Go.wp_at_succ
theorem txt_inj {a b:List UInt8}:txt a=txt b↔a=b:=⟨fun h => by have:=congrArg (fun s:ByteArray => s.data.toList) h;exact this,fun h => by rw [h]⟩
end Go.Proofs.YtgidfnhfgiehjaaGreatDoor
end

section
namespace Go.Proofs.YtgidfnhfgiehjaaGreatDoor
open Go.RowKit Go.PM
set_option maxRecDepth 100000
set_option maxHeartbeats 1000000
def echk (k v:List UInt8):Int:=if uchk k 1 64≠0 then uchk k 1 64 else uchk v 0 256
theorem echeck_any (k v:ByteArray) (w:World) (hk:k.size≤9223372036854775807) (hv:v.size≤9223372036854775807) (hT:Tabs w) :
 Calls Tryz.prog 182 #[.agg #[.string k,.string v]] w fun e w' => e=.returned (.int .i64 (echk k.data.toList v.data.toList))∧Below w.heap.size w w':=by
 have hx:=BlkAt.made w 132 #[.string k,.string v]
 have HX:=Lib.hid hx
 have hb0:=ba (a:=w) b0 (.cells #[.string k,.string v] 132)
 have HB:=Lib.hid hb0
 have H1:=Lib.hid (ucheck_any k 1 64 (w.alloc (.cells #[.string k,.string v] 132)) hk (hT.below hb0))
 have H2:Hid (∀ x:World,Below w.heap.size w x→Calls Tryz.prog 141 #[.string v,.int .i64 0,.int .i64 256] x fun e w' => e=.returned (.int .i64 (uchk v.data.toList 0 256))∧Below x.heap.size x w'):=fun x hx => ucheck_any v 0 256 x hv (hT.below hx)
 unfold echk
 clear hx hb0 hT
 generalize uchk k.data.toList 1 64=a at *
 generalize uchk v.data.toList 0 256=b at *
 by_cases ha:a=0
 · subst ha
   rw [if_neg (by simp)]
   go_enter Tryz.func182,Tryz.ntmps182
   go_wp2_with fail
   refine H1.out.mono ?_
   rintro e w1 ⟨rfl,hb1⟩
   have hx1:=HX.out.below hb1 HX.out.lt
   have c1:=hx1.cell 1
   simp at c1
   have HB1:=Lib.hid (bb HB.out hb1)
   clear hb1 hx1
   go_wp2_with fail
   refine (H2.out _ HB1.out).mono ?_
   rintro e w2 ⟨rfl,hb2⟩
   have HB2:=Lib.hid (bb HB1.out hb2)
   clear hb2
   go_wp2
   go_ret
   exact ⟨rfl,HB2.out⟩
 · rw [if_pos ha]
   have hai:(a != 0)=true:=by rw [bne_iff_ne];exact ha
   clear ha
   go_enter Tryz.func182,Tryz.ntmps182
   go_wp2_with fail
   refine H1.out.mono ?_
   rintro e w1 ⟨rfl,hb1⟩
   have HB1:=Lib.hid (bb HB.out hb1)
   clear hb1
   go_wp2
   go_ret
   exact ⟨rfl,HB1.out⟩
theorem ecmp_any (ak av bk bv:ByteArray) (w:World) :
 Calls Tryz.prog 289 #[.agg #[.string ak,.string av],.agg #[.string bk,.string bv]] w fun e w' => e=.returned (.int .i64 (ecmp ak.data.toList av.data.toList bk.data.toList bv.data.toList))∧w'=(w.alloc (.cells #[.string ak,.string av] 132)).alloc (.cells #[.string bk,.string bv] 132):=by
 have H1:Hid (∀ x:World,Calls Tryz.prog 250 #[.string ak,.string bk] x fun e w' => e=.returned (.int .i64 (Lib.compareBytes ak.data.toList bk.data.toList))∧w'=x):=fun x => Tryz.strings_Compare ak bk x
 have H2:Hid (∀ x:World,Calls Tryz.prog 250 #[.string av,.string bv] x fun e w' => e=.returned (.int .i64 (Lib.compareBytes av.data.toList bv.data.toList))∧w'=x):=fun x => Tryz.strings_Compare av bv x
 unfold ecmp
 generalize Lib.compareBytes ak.data.toList bk.data.toList=a at *
 generalize Lib.compareBytes av.data.toList bv.data.toList=b at *
 by_cases ha:a=0
 · subst ha
   rw [if_neg (by simp)]
   go_enter Tryz.func289,Tryz.ntmps289
   go_wp2_with fail
   refine (H1.out _).mono ?_
   rintro e w1 ⟨rfl,rfl⟩
   go_wp2_with fail
   refine (H2.out _).mono ?_
   rintro e w2 ⟨rfl,rfl⟩
   go_wp2
   go_ret
   exact ⟨rfl,rfl⟩
 · rw [if_pos ha]
   have hai:(a != 0)=true:=by rw [bne_iff_ne];exact ha
   clear ha
   go_enter Tryz.func289,Tryz.ntmps289
   go_wp2_with fail
   refine (H1.out _).mono ?_
   rintro e w1 ⟨rfl,rfl⟩
   go_wp2
   go_ret
   exact ⟨rfl,rfl⟩
def ETextEnd (w:World) (b:Nat) (s:ByteArray) (k:Nat) (e:Ending) (w':World):Prop :=
 ∃ k':Nat,e=.returned (.tuple #[.string (txt (etx (s.data.toList.drop k)).1),.int .i64 ((etx (s.data.toList.drop k)).2.2:Int)])∧Cur w' b s k'∧((etx (s.data.toList.drop k)).2.2=0→k'=k+(etx (s.data.toList.drop k)).2.1)∧w.grownBy w' (some b)
theorem etext_any (b:Nat) (s:ByteArray) (k:Nat) (w:World) (h:Cur w b s k) :
 Calls Tryz.prog 233 #[.pointer (some ⟨b,0,none⟩)] w (ETextEnd w b s k):=by
 have HN:=Lib.hid (next_any b s k w h)
 have hks:=h.2.1
 have hss:=h.2.2
 clear h
 have hl:(s.data.toList.drop k).length=s.size - k:=by rw [List.length_drop,len_list]
 unfold ETextEnd etx
 rw [hl]
 by_cases hv:(vget (s.data.toList.drop k)).2.2=0
 · obtain ⟨v1,v2,v3,v4,v5⟩:=vget_ok hv
   rw [hl] at v2
   rw [if_neg (by rw [hv];simp)]
   have HN2:Hid (Calls Tryz.prog 174 #[.pointer (some ⟨b,0,none⟩)] w fun e w' => e=.returned (.tuple #[.int .u64 ((vget (s.data.toList.drop k)).1:Int),.int .i64 0])∧Cur w' b s (k+(vget (s.data.toList.drop k)).2.1)∧w.grownBy w' (some b)):=by
    have:=HN.out
    rw [hv] at this
    exact this
   clear HN hv v5
   have hdd:∀ m:Nat,((s.data.toList.drop k).drop m)=s.data.toList.drop (k+m):=fun m => by rw [List.drop_drop]
   rw [hdd]
   generalize (vget (s.data.toList.drop k)).1=n at *
   generalize (vget (s.data.toList.drop k)).2.1=m at *
   clear hl hdd
   have hkm:k+m≤s.size:=by omega
   by_cases hn:s.size - k - m < n
   · rw [if_pos hn]
     go_enter Tryz.func233,Tryz.ntmps233
     go_wp2_with fail
     refine HN2.out.mono ?_
     rintro e w1 ⟨rfl,hc1,hg1⟩
     have HC1:=Lib.hid hc1
     have HG1:=Lib.hid hg1
     clear hc1 hg1
     go_wp2_with fail
     refine (cur_take_no b s (k+m) (n:Int) w1 HC1.out (by omega) (by omega)).mono ?_
     rintro e w2 ⟨rfl,hb2⟩
     have HC2:Hid (Cur w2 b s (k+m)):=⟨HC1.out.1.below hb2 HC1.out.1.lt,HC1.out.2⟩
     have HG2:=Lib.hid (grown_trans HG1.out (grown_of_below hb2 (some b)) fun x e _ => e)
     clear hb2
     go_wp2_with fail
     go_ret2
     exact ⟨k+m,rfl,HC2.out,fun h => by simp at h,HG2.out⟩
   · rw [if_neg hn]
     have hex:s.extract (k+m) (k+m+(n:Int).toNat)=txt ((s.data.toList.drop (k+m)).take n):=by
      refine txt_eq ?_
      rw [ext_list]
      congr 1
      omega
     have HEX:=Lib.hid hex
     clear hex
     go_enter Tryz.func233,Tryz.ntmps233
     go_wp2_with fail
     refine HN2.out.mono ?_
     rintro e w1 ⟨rfl,hc1,hg1⟩
     have HC1:=Lib.hid hc1
     have HG1:=Lib.hid hg1
     clear hc1 hg1
     go_wp2_with fail
     refine (cur_take_yes b s (k+m) (n:Int) w1 HC1.out (by omega) (by omega)).mono ?_
     rintro e w2 ⟨rfl,hc2,hg2⟩
     rw [HEX.out,Int.toNat_natCast] at *
     have HC2:=Lib.hid hc2
     have HG2:=Lib.hid (grown_trans HG1.out hg2 fun x e _ => e)
     clear hc2 hg2 HEX
     go_wp2_with fail
     go_ret2
     exact ⟨k+m+n,rfl,HC2.out,fun _ => by omega,HG2.out⟩
 · have hve:=vget_err hv
   rw [if_pos hv]
   have hvi:(((vget (s.data.toList.drop k)).2.2:Int) != 0)=true:=by rw [bne_iff_ne];omega
   generalize (vget (s.data.toList.drop k)).2.2=g at *
   clear hl hve
   go_enter Tryz.func233,Tryz.ntmps233
   go_wp2_with fail
   refine HN.out.mono ?_
   rintro e w1 ⟨rfl,hc1,hg1⟩
   have HC1:=Lib.hid hc1
   have HG1:=Lib.hid hg1
   clear hc1 hg1
   go_wp2_with fail
   go_ret2
   exact ⟨_,rfl,HC1.out,fun h => absurd h hv,HG1.out⟩
theorem etx_size (s:ByteArray) (k:Nat):(etx (s.data.toList.drop k)).1.length≤s.size:=by
 unfold etx
 split
 · simp
 · split
   · simp
   · rw [List.length_take,List.length_drop,List.length_drop,len_list];omega
def ENextEnd (w:World) (b:Nat) (s:ByteArray) (k:Nat) (e:Ending) (w':World):Prop :=
 ∃ k':Nat,e=.returned (.tuple #[.agg #[.string (txt (enx echk (s.data.toList.drop k)).1.1),.string (txt (enx echk (s.data.toList.drop k)).1.2)],.int .i64 (enx echk (s.data.toList.drop k)).2.2])∧Cur w' b s k'∧((enx echk (s.data.toList.drop k)).2.2=0→k'=k+(enx echk (s.data.toList.drop k)).2.1)∧w.grownBy w' (some b)
theorem res_two (w:World) (r:Nat) (v0 v1:Value):Tch (fun j => j=r) w ((w.setCell ⟨r,0,none⟩ v0).setCell ⟨r,1,none⟩ v1) :=
 ((Tch.refl (fun j => j=r) w).put (p:=⟨r,0,none⟩) (fun _ => rfl) v0).put (p:=⟨r,1,none⟩) (fun _ => rfl) v1
theorem tch_grown {w w1 w2:World} {b r:Nat} (hg:w.grownBy w1 (some b)) (hr:w.heap.size≤r) (ht:Tch (fun j => j=r) w1 w2):w.grownBy w2 (some b) :=
 ⟨ht.os.trans hg.os,ht.tape.trans hg.tape,ht.output.trans hg.output,Nat.le_trans hg.size ht.size,fun k hk hne => (ht.block k (Nat.lt_of_lt_of_le hk hg.size) (by omega)).trans (hg.block k hk hne)⟩
theorem enext_any (W0:World) (hT:Tabs W0) (b:Nat) (s:ByteArray) (k:Nat) (w:World) (h0:Below W0.heap.size W0 w) (hWb:W0.heap.size≤b) (h:Cur w b s k) :
 Calls Tryz.prog 217 #[.pointer (some ⟨b,0,none⟩)] w (ENextEnd w b s k):=by
 have hbl:=h.1.lt
 have hss:=h.2.2
 have hx:=BlkAt.made w 132 #[.string ⟨#[]⟩,.string ⟨#[]⟩]
 have HX:=Lib.hid hx
 have hg0:=grown_of_below (ba (a:=w) b0 (.cells #[.string ⟨#[]⟩,.string ⟨#[]⟩] 132)) (some b)
 have HG0:=Lib.hid hg0
 have HT1:=Lib.hid (etext_any b s k (w.alloc (.cells #[.string ⟨#[]⟩,.string ⟨#[]⟩] 132)) ⟨h.1.more _,h.2⟩)
 have H0:=Lib.hid h0
 have HT:=Lib.hid hT
 have hsz1:=etx_size s k
 clear hx hg0 h h0 hT
 generalize hX:enx echk (s.data.toList.drop k)=X
 have HXX:=Lib.hid hX
 have HEND:Hid (∀ (e:Ending) (k':Nat) (w1 w':World),e=.returned (.tuple #[.agg #[.string (txt X.1.1),.string (txt X.1.2)],.int .i64 X.2.2])→Cur w1 b s k'→(X.2.2=0→k'=k+X.2.1)→w.grownBy w1 (some b)→Tch (fun j => j=w.heap.size) w1 w'→ENextEnd w b s k e w'):=fun e k' w1 w' he hc hk hg ht => by
  unfold ENextEnd
  rw [hX]
  exact ⟨k',he,⟨hc.1.tch ht (by omega),hc.2⟩,hk,tch_grown hg (Nat.le_refl _) ht⟩
 unfold enx at hX
 clear hX
 have hX:=HXX.out
 unfold enx at hX
 clear HXX
 go_enter Tryz.func217,Tryz.ntmps217
 go_wp2_with fail
 refine HT1.out.mono ?_
 rintro e w1 ⟨k1,rfl,hc1,hk1,hg1⟩
 have HC1:=Lib.hid hc1
 have hgw1:=grown_trans HG0.out hg1 fun x e _ => e
 have HG1:=Lib.hid hgw1
 have hx1:=HX.out.step hg1 (by intro e;injection e with e;omega)
 have HX1:=Lib.hid hx1
 have c0:=hx1.cell 0
 have c1:=hx1.cell 1
 have f0:=hx1.free 0
 have f1:=hx1.free 1
 simp at c0 c1
 have hlw:=hx1.lt
 clear hc1 hg1 hgw1 hx1 HT1
 by_cases he1:(etx (s.data.toList.drop k)).2.2=0
 · rw [if_neg (by rw [he1];simp)] at hX
   obtain rfl:=hk1 he1
   have hdd:(s.data.toList.drop k).drop (etx (s.data.toList.drop k)).2.1=s.data.toList.drop (k+(etx (s.data.toList.drop k)).2.1):=by rw [List.drop_drop]
   rw [hdd] at hX
   have HT2:=Lib.hid (etext_any b s (k+(etx (s.data.toList.drop k)).2.1) w1 HC1.out)
   have hsz2:=etx_size s (k+(etx (s.data.toList.drop k)).2.1)
   rw [he1]
   clear hk1 hdd he1
   unfold ETextEnd at HT2
   generalize (etx (s.data.toList.drop k)).1=K at *
   generalize hk1e:k+(etx (s.data.toList.drop k)).2.1=k1 at *
   have HK1E:=Lib.hid hk1e
   clear hk1e
   generalize etx (s.data.toList.drop k1)=Y at *
   clear c0 c1 f0 f1 hlw
   go_wp2_with fail
   refine HT2.out.mono ?_
   rintro e w2 ⟨k2,rfl,hc2,hk2,hg2⟩
   have HC2:=Lib.hid hc2
   have HG2:=Lib.hid (grown_trans HG1.out hg2 fun x e _ => e)
   have hx2:=HX1.out.step hg2 (by intro e;injection e with e;omega)
   have HX2:=Lib.hid hx2
   have c0:=hx2.cell 0
   have c1:=hx2.cell 1
   have f0:=hx2.free 0
   have f1:=hx2.free 1
   simp at c0 c1
   have hlw:=hx2.lt
   clear hc2 hg2 hx2 HT2 HX1
   by_cases he2:Y.2.2=0
   · rw [if_neg (by rw [he2];simp)] at hX
     obtain rfl:=hk2 he2
     rw [he2]
     have hbe:=BlkAt.made w2 132 #[.string (txt K),.string (txt Y.1)]
     have HBE:=Lib.hid hbe
     have HCK:=Lib.hid (echeck_any (txt K) (txt Y.1) (w2.alloc (.cells #[.string (txt K),.string (txt Y.1)] 132)) (by rw [txt_size];omega) (by rw [txt_size];omega) (HT.out.below (ba (bg H0.out HG2.out hWb) _)))
     rw [txt_list,txt_list] at HCK
     have HXB:=Lib.hid (HX2.out.more (.cells #[.string (txt K),.string (txt Y.1)] 132))
     clear c0 c1 f0 f1 hlw hbe HX2 hk2 he2
     by_cases hce:echk K Y.1=0
     · rw [if_neg (by simpa using hce)] at hX
       subst hX
       have HE:Hid (∀ (w3 w':World),Below (w2.alloc (.cells #[.string (txt K),.string (txt Y.1)] 132)).heap.size (w2.alloc (.cells #[.string (txt K),.string (txt Y.1)] 132)) w3→Tch (fun j => j=w.heap.size) w3 w'→ENextEnd w b s k (.returned (.tuple #[.agg #[.string (txt K),.string (txt Y.1)],.int .i64 0])) w'):=fun w3 w' hb3 ht => by
        have hb:=bb (ba (a:=w2) b0 (.cells #[.string (txt K),.string (txt Y.1)] 132)) hb3
        exact HEND.out _ (k1+Y.2.1) w3 w' rfl ⟨HC2.out.1.below hb HC2.out.1.lt,HC2.out.2⟩ (fun _ => by have:=HK1E.out;simp only;omega) (grown_trans HG2.out (grown_of_below hb (some b)) fun x e _ => e) ht
       rw [hce] at HCK
       clear hce HEND
       go_wp2_with fail
       refine HCK.out.mono ?_
       rintro e w3 ⟨rfl,hb3⟩
       have HE3:Hid (∀ w',Tch (fun j => j=w.heap.size) w3 w'→ENextEnd w b s k (.returned (.tuple #[.agg #[.string (txt K),.string (txt Y.1)],.int .i64 0])) w'):=fun w' ht => HE.out w3 w' hb3 ht
       have hx3:=HXB.out.below hb3 HXB.out.lt
       have hy3:=HBE.out.below hb3 HBE.out.lt
       have e0:=hy3.cell 0
       have e1:=hy3.cell 1
       simp at e0 e1
       have c0:=hx3.cell 0
       have c1:=hx3.cell 1
       have f0:=hx3.free 0
       have f1:=hx3.free 1
       simp at c0 c1
       have hlw:=hx3.lt
       clear hx3 hy3 hb3 HE
       go_wp2_with fail
       refine bodyPost_ret (v:=.tuple #[.agg #[.string (txt K),.string (txt Y.1)],.int .i64 0]) (by simp [results,Tryz.results217,go_sem,c0,c1];try rfl) rfl (HE3.out _ (res_two _ _ _ _))
     · rw [if_pos (by simpa using hce)] at hX
       subst hX
       have HE:Hid (∀ (w3 w':World),Below (w2.alloc (.cells #[.string (txt K),.string (txt Y.1)] 132)).heap.size (w2.alloc (.cells #[.string (txt K),.string (txt Y.1)] 132)) w3→Tch (fun j => j=w.heap.size) w3 w'→ENextEnd w b s k (.returned (.tuple #[.agg #[.string ByteArray.empty,.string ByteArray.empty],.int .i64 (echk K Y.1)])) w'):=fun w3 w' hb3 ht => by
        have hb:=bb (ba (a:=w2) b0 (.cells #[.string (txt K),.string (txt Y.1)] 132)) hb3
        exact HEND.out _ (k1+Y.2.1) w3 w' rfl ⟨HC2.out.1.below hb HC2.out.1.lt,HC2.out.2⟩ (fun h => absurd h hce) (grown_trans HG2.out (grown_of_below hb (some b)) fun x e _ => e) ht
       have hcei:(echk K Y.1 != 0)=true:=by rw [bne_iff_ne];exact hce
       generalize echk K Y.1=C at *
       clear hce HEND
       go_wp2_with fail
       refine HCK.out.mono ?_
       rintro e w3 ⟨rfl,hb3⟩
       have HE3:Hid (∀ w',Tch (fun j => j=w.heap.size) w3 w'→ENextEnd w b s k (.returned (.tuple #[.agg #[.string ByteArray.empty,.string ByteArray.empty],.int .i64 C])) w'):=fun w' ht => HE.out w3 w' hb3 ht
       have hx3:=HXB.out.below hb3 HXB.out.lt
       have c0:=hx3.cell 0
       have c1:=hx3.cell 1
       have f0:=hx3.free 0
       have f1:=hx3.free 1
       simp at c0 c1
       have hlw:=hx3.lt
       clear hx3 hb3 HE
       go_wp2_with fail
       refine bodyPost_ret (v:=.tuple #[.agg #[.string ByteArray.empty,.string ByteArray.empty],.int .i64 C]) (by simp [results,Tryz.results217,go_sem,c0,c1];try rfl) rfl (HE3.out _ (res_two _ _ _ _))
   · rw [if_pos he2] at hX
     subst hX
     have HE:Hid (∀ w',Tch (fun j => j=w.heap.size) w2 w'→ENextEnd w b s k (.returned (.tuple #[.agg #[.string ByteArray.empty,.string ByteArray.empty],.int .i64 (Y.2.2:Int)])) w'):=fun w' ht => HEND.out _ k2 w2 w' rfl HC2.out (fun h => by simp at h;exact absurd h he2) HG2.out ht
     have hte:((Y.2.2:Int) != 0)=true:=by rw [bne_iff_ne];omega
     generalize Y.2.2=G at *
     clear he2 hk2 HEND
     go_wp2_with fail
     refine bodyPost_ret (v:=.tuple #[.agg #[.string ByteArray.empty,.string ByteArray.empty],.int .i64 (G:Int)]) (by simp [results,Tryz.results217,go_sem,c0,c1];try rfl) rfl (HE.out _ (res_two _ _ _ _))
 · rw [if_pos he1] at hX
   subst hX
   have HE:Hid (∀ w',Tch (fun j => j=w.heap.size) w1 w'→ENextEnd w b s k (.returned (.tuple #[.agg #[.string ByteArray.empty,.string ByteArray.empty],.int .i64 ((etx (s.data.toList.drop k)).2.2:Int)])) w'):=fun w' ht => HEND.out _ k1 w1 w' rfl HC1.out (fun h => by simp at h;exact absurd h he1) HG1.out ht
   have hte:((((etx (s.data.toList.drop k)).2.2:Nat):Int) != 0)=true:=by rw [bne_iff_ne];omega
   generalize (etx (s.data.toList.drop k)).2.2=G at *
   clear he1 hk1 HEND
   go_wp2_with fail
   refine bodyPost_ret (v:=.tuple #[.agg #[.string ByteArray.empty,.string ByteArray.empty],.int .i64 (G:Int)]) (by simp [results,Tryz.results217,go_sem,c0,c1];try rfl) rfl (HE.out _ (res_two _ _ _ _))
end Go.Proofs.YtgidfnhfgiehjaaGreatDoor
end

section
namespace Go.Proofs.YtgidfnhfgiehjaaGreatDoor
open Go.RowKit Go.PM
set_option maxRecDepth 100000
set_option maxHeartbeats 1000000
attribute [local go_sem ↓] Go.wp_at_zero Go.wp_at_succ
def pk (l:List Ent) (k:Nat):Option (List UInt8):=if k=0 then none else (l[k - 1]?).map (·.1)
theorem pk_zero (l:List Ent):pk l 0=none:=rfl
theorem pk_succ (l:List Ent) (k:Nat) (h:k < l.length):pk l (k+1)=some l[k].1:=by
 unfold pk
 rw [if_neg (by omega),Nat.add_sub_cancel,List.getElem?_eq_getElem h]
 rfl
theorem check12_any (A:Option Addr) (c:Nat) (l:List Ent) (w:World) (hr:Rd w A (ents l)) (hz:ESz l) (hl:l.length≤9223372036854775807) (hT:Tabs w) :
 Calls Tryz.prog 144 #[.slice A l.length c] w fun e w' => e=.returned (.int .i64 (dchk echk l))∧Below w.heap.size w w':=by
 have HR:=Lib.hid hr
 have HZ:=Lib.hid hz
 have HT:=Lib.hid hT
 have wl:IntKind.u64.wrap (l.length:Int)=(l.length:Int):=by rw [IntKind.wrap_u64];omega
 have HM:Hid (∀ x:World,Calls Tryz.prog 181 #[.int .u64 (l.length:Int)] x fun e w' => e=.returned (.int .i64 (dmany l.length))∧w'=x):=fun x => many_any l.length x
 unfold dchk
 clear hr hz hT
 by_cases hm:dmany l.length=0
 · rw [if_neg (by rw [hm];simp)]
   rw [hm] at HM
   have H0:Hid (dchk1 echk none l=dchk1 echk (pk l 0) (l.drop 0)):=rfl
   generalize dchk1 echk none l=F at H0 ⊢
   clear hm
   go_enter Tryz.func144,Tryz.ntmps144
   go_wp2_with fail
   refine (HM.out _).mono ?_
   rintro e w1 ⟨rfl,rfl⟩
   go_wp2_with fail
   go_loopg [17] l.length (fun gk ki wr => ∃ k:Nat,k≤l.length∧l.length - k≤gk∧ki=.int .i64 (k:Int)∧Hid (F=dchk1 echk (pk l k) (l.drop k))∧Below w1.heap.size w1 wr)
   case atStart => exact ⟨0,Nat.zero_le _,by omega,rfl,H0,b0⟩
   case round =>
    obtain ⟨k,hk,hgk,rfl,HF,hbel⟩:=hrel
    by_cases hlt:k < l.length
    · obtain ⟨b,off,hA,hbl,c0,c1⟩:=(HR.out.below hbel).ent hlt
      have hf:=HF.out
      rw [List.drop_eq_getElem_cons hlt,dchk1] at hf
      have hps:=pk_succ l k hlt
      obtain ⟨z0,z1⟩:=HZ.out _ (List.getElem_mem hlt)
      generalize l[k]=x at *
      obtain ⟨x0,x1⟩:=x
      simp only at c0 c1 hf hps z0 z1
      rw [← hps] at hf
      have HFF:=Lib.hid hf
      have hxe:=BlkAt.made wr 132 #[.string (txt x0),.string (txt x1)]
      have HXE:=Lib.hid hxe
      have HB:=Lib.hid (ba hbel (.cells #[.string (txt x0),.string (txt x1)] 132))
      have HB1:=Lib.hid hbel
      have HC:=Lib.hid (echeck_any (txt x0) (txt x1) (wr.alloc (.cells #[.string (txt x0),.string (txt x1)] 132)) (by rw [txt_size];omega) (by rw [txt_size];omega) (HT.out.below HB.out))
      rw [txt_list,txt_list] at HC
      clear hf hps hxe hbel HF H0 z0 z1
      subst hA
      by_cases hE:echk x0 x1=0
      · rw [hE] at HC
        have hf:=HFF.out
        rw [if_neg (by rw [hE];simp)] at hf
        have HF2:=Lib.hid hf
        clear hf HFF hE
        go_wp2_with fail
        refine HC.out.mono ?_
        rintro e w2 ⟨rfl,hb2⟩
        have HBW:=Lib.hid (bb HB.out hb2)
        have hx2:=HXE.out.below hb2 HXE.out.lt
        have HX2:=Lib.hid hx2
        clear hb2 HC
        by_cases hk0:k=0
        · subst hk0
          have hf:=HF2.out
          rw [pk_zero] at hf
          have HN:Hid (F=dchk1 echk (pk l (0+1)) (l.drop (0+1))):=by
           show _=_
           rw [hf]
           exact if_neg (by simp [dbehO])
          clear hf hx2 HF2
          go_wp2_with fail
          go_roundg (l.length - (0+1))
          case measure => omega
          case rel => exact ⟨0+1,by omega,Nat.le_refl _,by go_num,HN,HBW.out⟩
        · obtain ⟨j,rfl⟩:∃ j,k=j+1:=⟨k - 1,by omega⟩
          have hf:=HF2.out
          have hjl:j < l.length:=by omega
          rw [pk_succ l j hjl] at hf
          have hji:((j+1:Nat):Int) - 1=(j:Int):=by omega
          obtain ⟨b',off',hA',hbl',d0,d1⟩:=(HR.out.below HBW.out).ent hjl
          injection hA' with hA'
          injection hA' with e1 e2
          subst e1 e2
          generalize l[j]=y at *
          obtain ⟨y0,y1⟩:=y
          simp only at d0 d1
          change F=if dbeh y0 x0≠0 then dbeh y0 x0 else dchk1 echk (pk l (j+1+1)) (l.drop (j+1+1)) at hf
          obtain ⟨D,hDd⟩:∃ D,D=dbeh y0 x0:=⟨_,rfl⟩
          rw [← hDd] at hf
          have HBH:Hid (∀ n:BelW w2,Calls Tryz.prog 183 #[.string (txt y0),.string (txt x0)] n.wld fun e w' => e=.returned (.int .i64 D)∧Below n.wld.heap.size n.wld w'):=fun n => (behind_any (txt y0) (txt x0) n.wld).mono fun e w' ⟨h1,h2⟩ => ⟨by rw [h1,hDd];rfl,by rw [h2];exact b0⟩
          clear hDd
          have hbl2:b < w2.heap.size:=hbl'
          have n0:∀ n:BelW w2,n.wld.cell? ⟨b,off+j * 2,none⟩=some (.string (txt y0)):=fun n => (World.cell?_of_block (a:=⟨b,off+j * 2,none⟩) (n.bel.block b hbl2)).trans d0
          have n1:∀ n:BelW w2,n.wld.cell? ⟨wr.heap.size,0,none⟩=some (.string (txt x0)):=fun n => (hx2.below n.bel hx2.lt).cell 0
          have hj1:(j:Int) < (l.length:Int):=by omega
          clear d0 d1 hx2 HF2 c0 c1
          by_cases hD:D=0
          · subst hD
            rw [if_neg (by simp)] at hf
            have HN:=Lib.hid hf
            clear hf
            go_wp2_with fail
            refine wp_region_below_lit (by kernel_rfl) (by kernel_rfl) ?_
            repeat (first | go_big_quiet_skip | (go_big_quiet_want;go_big_quiet_op;first | go_big_quiet_on | (apply Exists.intro;refine ⟨fun nq => ?_,?_⟩;(go_at_call 183;exact below_of (HBH.out _));go_big_quiet_on)))
            refine wpQuiet_nil ?_
            intro wq hnq
            obtain ⟨nq,rfl⟩:=hnq
            have hq:=nq.bel
            generalize nq.wld=wq at hq ⊢
            clear nq
            have HBQ:=Lib.hid (bb HBW.out hq)
            clear hq n0 n1 HBH
            go_wp2_with fail
            go_roundg (l.length - (j+1+1))
            case measure => omega
            case rel => exact ⟨j+1+1,by omega,Nat.le_refl _,by go_num,HN,HBQ.out⟩
          · rw [if_pos hD] at hf
            subst hf
            have hDi:(F != 0)=true:=by rw [bne_iff_ne];exact hD
            clear hD
            go_wp2_with fail
            refine wp_region_below_lit (by kernel_rfl) (by kernel_rfl) ?_
            repeat (first | go_big_quiet_skip | (go_big_quiet_want;go_big_quiet_op;first | go_big_quiet_on | (apply Exists.intro;refine ⟨fun nq => ?_,?_⟩;(go_at_call 183;exact below_of (HBH.out _));go_big_quiet_on)))
            refine wpQuiet_nil ?_
            intro wq hnq
            obtain ⟨nq,rfl⟩:=hnq
            have hq:=nq.bel
            generalize nq.wld=wq at hq ⊢
            clear nq
            have HBQ:=Lib.hid (bb HBW.out hq)
            clear hq n0 n1 HBH
            go_wp2_with fail
            go_ret
            exact ⟨rfl,HBQ.out⟩
      · have hf:=HFF.out
        rw [if_pos hE] at hf
        have hEi:(F != 0)=true:=by rw [bne_iff_ne,hf];exact hE
        rw [← hf] at HC
        clear HFF hE hf
        go_wp2_with fail
        refine HC.out.mono ?_
        rintro e w2 ⟨rfl,hb2⟩
        have HBW:=Lib.hid (bb HB.out hb2)
        clear hb2 HC
        go_wp2_with fail
        go_ret
        exact ⟨rfl,HBW.out⟩
    · obtain rfl:k=l.length:=by omega
      have hf:=HF.out
      rw [List.drop_of_length_le (Nat.le_refl _),dchk1] at hf
      subst hf
      have HB:=Lib.hid hbel
      clear hbel HF H0
      go_wp2_with fail
      go_ret
      exact ⟨rfl,HB.out⟩
 · rw [if_pos hm]
   have hmi:(dmany l.length != 0)=true:=by rw [bne_iff_ne];exact hm
   generalize dmany l.length=E at *
   clear hm
   go_enter Tryz.func144,Tryz.ntmps144
   go_wp2_with fail
   refine (HM.out _).mono ?_
   rintro e w1 ⟨rfl,rfl⟩
   go_wp2_with fail
   go_ret
   exact ⟨rfl,b0⟩
end Go.Proofs.YtgidfnhfgiehjaaGreatDoor
end

section
namespace Go.Proofs.YtgidfnhfgiehjaaGreatDoor
open Go.RowKit Go.PM
set_option maxRecDepth 100000
set_option maxHeartbeats 1000000
attribute [local go_sem ↓] Go.wp_at_zero Go.wp_at_succ
theorem app_listE (a b:ByteArray):(a++b).data.toList=a.data.toList++b.data.toList:=by rw [ByteArray.data_append,Array.toList_append]
theorem eput_any (k v:ByteArray) (w:World) (hk:k.size≤1000000) (hv:v.size≤1000000) :
 Calls Tryz.prog 125 #[.agg #[.string k,.string v]] w fun e w' => e=.returned (.string (txt (eput k.data.toList v.data.toList)))∧Below w.heap.size w w':=by
 have hx:=BlkAt.made w 132 #[.string k,.string v]
 have hb:=ba (a:=w) b0 (.cells #[.string k,.string v] 132)
 have HB:=Lib.hid hb
 have H1:Hid (∀ x:World,Calls Tryz.prog 35 #[.int .u64 (k.size:Int)] x fun e w' => e=.returned (.string (txt (vput k.size)))∧Below x.heap.size x w'):=fun x => put_any k.size x (by unfold In64;omega)
 have H2:Hid (∀ x:World,Calls Tryz.prog 35 #[.int .u64 (v.size:Int)] x fun e w' => e=.returned (.string (txt (vput v.size)))∧Below x.heap.size x w'):=fun x => put_any v.size x (by unfold In64;omega)
 have HE:Hid (((txt (vput k.size)++k)++txt (vput v.size))++v=txt (eput k.data.toList v.data.toList)):=by
  refine txt_eq ?_
  rw [app_listE,app_listE,app_listE,txt_list,txt_list,eput,len_list,len_list]
  simp
 have wk:IntKind.u64.wrap (k.size:Int)=(k.size:Int):=by rw [IntKind.wrap_u64];omega
 have wv:IntKind.u64.wrap (v.size:Int)=(v.size:Int):=by rw [IntKind.wrap_u64];omega
 have hP:(txt (vput k.size)).size≤10:=by rw [txt_size,vput_length];exact vsz_le10 (by omega)
 have hQ:(txt (vput v.size)).size≤10:=by rw [txt_size,vput_length];exact vsz_le10 (by omega)
 generalize txt (vput k.size)=P at *
 generalize txt (vput v.size)=Q at *
 have hr1:∀ x:World,(Op.stringOp .add P k).run Tryz.prog x=.ok (.string (P++k)) x:=fun x => run_string_add_sum x P k (by omega)
 have hr2:∀ x:World,(Op.stringOp .add (P++k) Q).run Tryz.prog x=.ok (.string (P++k++Q)) x:=fun x => run_string_add_sum x _ _ (by rw [ByteArray.size_append];omega)
 have hr3:∀ x:World,(Op.stringOp .add (P++k++Q) v).run Tryz.prog x=.ok (.string (P++k++Q++v)) x:=fun x => run_string_add_sum x _ _ (by rw [ByteArray.size_append,ByteArray.size_append];omega)
 have HSB:Hid (∀ x:World,Below (w.alloc (.cells #[.string k,.string v] 132)).heap.size (w.alloc (.cells #[.string k,.string v] 132)) x→(x.cell? ⟨w.heap.size,0,none⟩=some (.string k)∧x.cell? ⟨w.heap.size,1,none⟩=some (.string v))):=fun x h => ⟨(hx.below h hx.lt).cell 0,(hx.below h hx.lt).cell 1⟩
 clear hx hb
 go_enter Tryz.func125,Tryz.ntmps125
 go_wp2_with fail
 generalize (w.alloc (.cells #[.string k,.string v] 132))=wz at HSB HB ⊢
 have hbW:Below wz.heap.size wz wz:=b0
 obtain ⟨k0,k1⟩:=HSB.out _ hbW
 go_region_held3 (fun x => x.cell? ⟨w.heap.size,0,none⟩=some (.string k)∧x.cell? ⟨w.heap.size,1,none⟩=some (.string v)) (first | exact HSB.out _ (by repeat (first | exact hbW | refine ba ?_ _ | refine bd ?_)) | go_keep)
  ((first
    | (go_at_call 35;with_reducible show Calls _ _ #[.int .u64 (k.size:Int)] _ _;refine (H1.out _).mono ?_;rintro e' W1 ⟨rfl,hb1'⟩;replace hbW:Below wz.heap.size wz W1:=bb (by repeat (first | exact hbW | refine ba ?_ _ | refine bd ?_)) hb1';clear hb1';obtain ⟨k0,k1⟩:=HSB.out _ hbW)
    | (go_at_call 35;refine (H2.out _).mono ?_;rintro e' W1 ⟨rfl,hb1'⟩;replace hbW:Below wz.heap.size wz W1:=bb (by repeat (first | exact hbW | refine ba ?_ _ | refine bd ?_)) hb1';clear hb1';obtain ⟨k0,k1⟩:=HSB.out _ hbW)))
 all_goals (go_wp2_with fail;go_ret;exact ⟨by rw [← HE.out];rfl,bb HB.out (by repeat (first | exact hbW | refine ba ?_ _ | refine bd ?_))⟩)
theorem exam11:txt (eput [97] [98,99])=⟨#[1,97,2,98,99]⟩:=by
 have e1:vput 1=[1]:=by rw [vput_small (by omega)];rfl
 have e2:vput 2=[2]:=by rw [vput_small (by omega)];rfl
 show txt (vput 1++([97]++(vput 2++[98,99])))=_
 rw [e1,e2]
 rfl
theorem exam11c:echk [97] [98,99]=0:=by
 have h1:ugood [97]=true:=by rw [ugood_step (by decide)];exact ugood_nil
 have h2:ugood [98,99]=true:=by
  rw [ugood_step (by decide)]
  show ugood [99]=true
  rw [ugood_step (by decide)];exact ugood_nil
 unfold echk uchk
 rw [h1,h2]
 decide
theorem awake11 (w:World) (hT:Tabs w) :
 Calls Tryz.prog 290 #[] w fun e w' => e=.returned (.bool true)∧Below w.heap.size w w':=by
 have hx:=BlkAt.made w 132 #[.string ⟨#[97]⟩,.string ⟨#[98,99]⟩]
 have hb0:=ba (a:=w) b0 (.cells #[.string ⟨#[97]⟩,.string ⟨#[98,99]⟩] 132)
 have HA:=Lib.hid (awakeE10 (w.alloc (.cells #[.string ⟨#[97]⟩,.string ⟨#[98,99]⟩] 132)) (hT.below hb0))
 have HX:=Lib.hid hx
 have HB:=Lib.hid hb0
 have HP:Hid (∀ x:World,Calls Tryz.prog 125 #[.agg #[.string ⟨#[97]⟩,.string ⟨#[98,99]⟩]] x fun e w' => e=.returned (.string ⟨#[1,97,2,98,99]⟩)∧Below x.heap.size x w'):=fun x => by
  have:=eput_any ⟨#[97]⟩ ⟨#[98,99]⟩ x (by decide) (by decide)
  rw [show (ByteArray.mk #[97]).data.toList=[97] from rfl,show (ByteArray.mk #[98,99]).data.toList=[98,99] from rfl,exam11] at this
  exact this
 have HC:Hid (∀ x:World,Below w.heap.size w x→Calls Tryz.prog 182 #[.agg #[.string ⟨#[97]⟩,.string ⟨#[98,99]⟩]] x fun e w' => e=.returned (.int .i64 0)∧Below x.heap.size x w'):=fun x hx => by
  have:=echeck_any ⟨#[97]⟩ ⟨#[98,99]⟩ x (by decide) (by decide) (hT.below hx)
  rw [show (ByteArray.mk #[97]).data.toList=[97] from rfl,show (ByteArray.mk #[98,99]).data.toList=[98,99] from rfl,exam11c] at this
  exact this
 clear hx hb0 hT
 go_enter Tryz.func290,Tryz.ntmps290
 go_wp2_with fail
 refine HA.out.mono ?_
 rintro e w1 ⟨rfl,hb1⟩
 have HX1:=Lib.hid (HX.out.below hb1 HX.out.lt)
 have HB1:=Lib.hid (bb HB.out hb1)
 have c0:=HX1.out.cell 0
 have c1:=HX1.out.cell 1
 simp at c0 c1
 clear hb1
 go_wp2_with fail
 refine (HP.out _).mono ?_
 rintro e w2 ⟨rfl,hb2⟩
 have HX2:=Lib.hid (HX1.out.below hb2 HX1.out.lt)
 have HB2:=Lib.hid (bb HB1.out hb2)
 clear c0 c1 hb2
 have c0:=HX2.out.cell 0
 have c1:=HX2.out.cell 1
 simp at c0 c1
 go_wp2_with fail
 refine (HC.out _ HB2.out).mono ?_
 rintro e w3 ⟨rfl,hb3⟩
 have HB3:=Lib.hid (bb HB2.out hb3)
 clear hb3
 go_wp2_with fail
 go_ret
 exact ⟨rfl,HB3.out⟩
theorem awakeE11 (w:World) (hT:Tabs w):Calls Tryz.prog 269 #[] w fun e w' => e=.returned (.bool true)∧Below w.heap.size w w':=by
 have H:=Lib.hid (awake11 w hT)
 clear hT
 go_enter Tryz.func269,Tryz.ntmps269
 go_wp2_with fail
 refine H.out.mono ?_
 rintro e w' ⟨rfl,hb⟩
 go_wp2
 go_ret
 exact ⟨rfl,hb⟩
end Go.Proofs.YtgidfnhfgiehjaaGreatDoor
end
