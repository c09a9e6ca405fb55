/-
  Texts of the proof, joined: FrameLaw PlainTurn FrameBack Deframe Deframe2 PlainFeed Feed Clone DefLaw PlainUtf PlainUtf2. Conditions: as each names.
-/
import Derived.Test.YtgidfnhfgiehjaaGreatDoorXTopRejectsah
import Derived.Test.YtgidfnhfgiehjaaGreatDoorXTopRejectsaa
import Derived.Test.YtgidfnhfgiehjaaGreatDoorXTopRejectsab
import Derived.Laws.AppendOwnNone
import Derived.Lib.ValidU
import Derived.Lib.RuneCount

section
namespace Go.Proofs.YtgidfnhfgiehjaaGreatDoor
open Go.RowKit Go.PM
set_option maxRecDepth 100000
set_option maxHeartbeats 1000000
theorem awake05 (w:World) :
 Calls Tryz.prog 322 #[] w fun e w' => e=.returned (.bool true)∧Below w.heap.size w w':=by
 go_enter Tryz.func322,Tryz.ntmps322
 go_wp2_with fail
 refine (wrap_any _ _ (by decide)).mono ?_
 rintro e w1 ⟨rfl,hb1⟩
 rw [show txt (ftext (ByteArray.mk #[]).data.toList)=ByteArray.mk #[81,70,0,0,0,0,0] by decide +kernel]
 go_wp2_with fail
 refine (awakeE04 _).mono ?_
 rintro e w2 ⟨rfl,hb2⟩
 go_wp2
 go_ret
 exact ⟨rfl,bb hb1 hb2⟩
theorem awakeE05 (w:World):Calls Tryz.prog 321 #[] w fun e w' => e=.returned (.bool true)∧Below w.heap.size w w':=by
 go_enter Tryz.func321,Tryz.ntmps321
 go_wp2_with (go_at_call 322;refine (awake05 _).mono ?_;rintro e w' ⟨rfl,hb⟩)
 go_ret
 exact ⟨rfl,hb⟩
def Cs (n x z:Nat):Prop:=z+vsz x=fsize n+1∧x≤65536
theorem Cs.start (n:Nat) (h:n≤65536):Cs n n (7+n):=by unfold Cs fsize;omega
theorem Cs.next {n x z:Nat} (h:Cs n x z) (hx:127 < x):Cs n (x / 128) (z+1):=by
 obtain ⟨h1,h2⟩:=h
 rw [vsz,if_neg (by omega)] at h1
 exact ⟨by omega,by omega⟩
theorem Cs.stop {n x z:Nat} (h:Cs n x z) (hx:¬ 127 < x):z=fsize n:=by
 obtain ⟨h1,_⟩:=h
 rw [vsz,if_pos (by omega)] at h1
 omega
end Go.Proofs.YtgidfnhfgiehjaaGreatDoor
end

section
namespace Go.PM
end Go.PM
end

section
namespace Go.Proofs.YtgidfnhfgiehjaaGreatDoor
open Go.RowKit Go.PM
set_option maxRecDepth 100000
set_option maxHeartbeats 1000000
end Go.Proofs.YtgidfnhfgiehjaaGreatDoor
end

section
namespace Go.Proofs.YtgidfnhfgiehjaaGreatDoor
open Go.RowKit Go.PM
set_option maxRecDepth 100000
set_option maxHeartbeats 1000000
theorem short_cases {l:List UInt8} (h:(fparse l).2.2=1) (h2:2≤l.length):((vget (l.drop 2)).2.2=1∧fneed l=0)∨((vget (l.drop 2)).2.2=0∧(vget (l.drop 2)).1≤65536∧fneed l=fsize (vget (l.drop 2)).1):=by
 have hm:fmark l=0:=by
  by_cases hm:fmark l=0
  · exact hm
  · rw [fparse_mark hm] at h
    rcases fmark_cases l with ⟨h1,_⟩ | ⟨_,h1⟩ | h1
    · exact h1
    · omega
    · simp only at h;omega
 rw [fparse_body hm] at h
 unfold fneed
 rw [if_neg (by omega)]
 generalize hV:vget (l.drop 2)=V at *
 obtain ⟨n,k,g⟩:=V
 rw [fbody_of l n k g hV] at h
 simp only
 by_cases hg:g=0
 · subst hg
   rw [if_neg (by simp)] at h
   right
   by_cases hn:65536 < n
   · rw [if_pos hn] at h;simp at h
   · exact ⟨rfl,by omega,by simp⟩
 · rw [if_pos hg] at h
   left
   exact ⟨h,by rw [if_neg hg]⟩
theorem whole_any (s:ByteArray) (w:World) (hs:s.size≤1000000) (hp:(fparse s.data.toList).2.2=1) :
 Calls Tryz.prog 153 #[.string s] w fun e w' => e=.returned (.int .i64 (fneed s.data.toList:Int))∧Below w.heap.size w w':=by
 by_cases h2:s.size < 2
 · have hn:fneed s.data.toList=0:=by unfold fneed;rw [if_pos (by rw [len_list];exact h2)]
   rw [hn]
   clear hn hp
   go_enter Tryz.func153,Tryz.ntmps153
   go_wp2
   go_loop [4] (fun k => k=.int .i64 2) (fun _ => 0)
   case atStart => rfl
   case round =>
    subst hrel
    go_wp2
    go_ret
    exact ⟨rfl,b0⟩
 have hsc:=short_cases hp (by rw [len_list];omega)
 have hl2:(s.data.toList.drop 2).length=s.size - 2:=by rw [List.length_drop,len_list]
 generalize hV:vget (s.data.toList.drop 2)=V at hsc
 obtain ⟨n,k,g⟩:=V
 simp only at hsc
 generalize fneed s.data.toList=N at hsc ⊢
 have HSC:=Lib.hid hsc
 have HV:=Lib.hid hV
 clear hsc hV hp
 go_enter Tryz.func153,Tryz.ntmps153
 go_wp2
 go_loop [3,4] (fun nn kk => ∃ i acc:Nat,i≤10∧i≤s.size - 2∧kk=.int .i64 ((i:Int)+2)∧nn=.int .u64 (acc:Int)∧Gt (s.data.toList.drop 2) i acc) (fun _ k => s.size - (intOf k).toNat)
 case atStart => exact ⟨0,0,by omega,by omega,rfl,rfl,by unfold In64;omega,fun _ => ⟨by decide,rfl⟩,fun h => by omega⟩
 case round =>
  obtain ⟨i,acc,hi,his,rfl,rfl,hg⟩:=hrel
  have HG:=Lib.hid hg
  clear hg
  have hi10:i < 10:=by
   by_cases e:i=10
   · have h3:=HG.out.2.2 e
     rw [HV.out] at h3
     injection h3 with _ h3
     injection h3 with _ h3
     rcases HSC.out with ⟨h,_⟩ | ⟨h,_⟩ <;> omega
   · omega
  by_cases hlt:i+2 < s.size
  · have em:=mask127 s[i+2]
    obtain ⟨X,hX,hX64,hXv⟩:=or_any acc s[i+2].toNat i HG.out.1
    have HX:=Lib.hid (And.intro hX64 hXv)
    have hd:(s.data.toList.drop 2).drop i=s[i+2] :: (s.data.toList.drop 2).drop (i+1):=by
     rw [List.drop_drop,List.drop_drop,Nat.add_comm 2 i,drop_at s (i+2) hlt]
     congr 2
     omega
    have HD:=Lib.hid hd
    clear hX64 hXv hd
    by_cases h1:128≤s[i+2].toNat
    · have hn:=HG.out.next hi10 HD.out rfl h1 HX.out.1 HX.out.2
      have HNx:=Lib.hid hn
      clear hn
      go_wp2
      go_round
      case rel => exact ⟨i+1,X,by omega,by omega,by go_num,rfl,HNx.out⟩
      case measure => simp [intOf];omega
    · have hst:=HG.out.stop hi10 HD.out h1
      rw [HV.out] at hst
      have hnX:n=X∧g=0:=by
       by_cases h9:i=9∧1 < s[i+2].toNat
       · rw [if_pos h9] at hst
         injection hst with _ h3
         injection h3 with _ h3
         rcases HSC.out with ⟨h,_⟩ | ⟨h,_⟩ <;> omega
       · rw [if_neg h9] at hst
         by_cases h0:0 < i∧s[i+2].toNat=0
         · rw [if_pos h0] at hst
           injection hst with _ h3
           injection h3 with _ h3
           rcases HSC.out with ⟨h,_⟩ | ⟨h,_⟩ <;> omega
         · rw [if_neg h0] at hst
           injection hst with h1' h3
           injection h3 with _ h3
           refine ⟨?_,h3⟩
           rw [HX.out.2 (HG.out.2.1 hi10).1 hi10 (fun h => by omega),Nat.mod_eq_of_lt (by omega)]
           exact h1'
      obtain ⟨rfl,hg0⟩:=hnX
      have hnn:n≤65536∧N=fsize n:=by
       rcases HSC.out with ⟨h,_⟩ | ⟨_,h,h'⟩
       · omega
       · exact ⟨h,h'⟩
      obtain ⟨hnl,rfl⟩:=hnn
      clear hst
      go_wp2_with fail
      refine (fsize_yes n _ hnl).mono ?_
      rintro e w1 ⟨rfl,hb1⟩
      go_wp2
      go_ret
      exact ⟨rfl,hb1⟩
  · have hN:N=0:=by
     have h4:=(HG.out.2.1 hi10).2
     rw [HV.out,show List.drop i (List.drop 2 s.data.toList)=[] from List.drop_eq_nil_of_le (by rw [hl2];omega),vgetL,if_neg (by omega)] at h4
     injection h4 with _ h3
     injection h3 with _ h3
     rcases HSC.out with ⟨_,h⟩ | ⟨h,_⟩
     · exact h
     · omega
    subst hN
    go_wp2
    go_ret
    exact ⟨rfl,b0⟩
def Dfr (w:World) (d:Nat) (v:Value) (rest:List UInt8) (need err count:Nat):Prop :=
 BlkAt w d 178 #[v,.int .i64 (need:Int),.int .i64 (err:Int),.int .i64 (count:Int)]∧Buf w 5 v rest∧foot v≠some d
theorem Dfr.tch {S:Nat→Prop} {w w':World} {d:Nat} {v:Value} {rest:List UInt8} {need err count:Nat} (h:Dfr w d v rest need err count) (hg:Tch S w w') (hd:¬ S d) (hf:∀ g,foot v=some g→¬ S g):Dfr w' d v rest need err count :=
 ⟨h.1.tch hg hd,h.2.1.tch hg hf,h.2.2⟩
theorem Dfr.below {w w':World} {d:Nat} {v:Value} {rest:List UInt8} {need err count:Nat} (h:Dfr w d v rest need err count) (hb:Below w.heap.size w w'):Dfr w' d v rest need err count :=
 h.tch (S:=fun _ => False) (Tch.below hb) id fun _ _ => id
theorem new_any (w:World) :
 Calls Tryz.prog 52 #[] w fun e w' => ∃ d,e=.returned (.pointer (some ⟨d,0,none⟩))∧w.heap.size≤d∧Dfr w' d (.slice none 0 0) [] 0 0 0∧Below w.heap.size w w':=by
 go_enter Tryz.func52,Tryz.ntmps52
 go_wp2
 go_ret
 exact ⟨_,rfl,Nat.le_refl _,⟨BlkAt.made _ _ _,Buf.nil _ _,by simp [foot]⟩,ba b0 _⟩
end Go.Proofs.YtgidfnhfgiehjaaGreatDoor
end

section
namespace Go.Proofs.YtgidfnhfgiehjaaGreatDoor
open Go.RowKit Go.PM
set_option maxRecDepth 100000
set_option maxHeartbeats 1000000
theorem err_any (d:Nat) (v:Value) (R:List UInt8) (need err count:Nat) (w:World) (h:Dfr w d v R need err count) :
 Calls Tryz.prog 55 #[.pointer (some ⟨d,0,none⟩)] w fun e w' => e=.returned (.int .i64 (err:Int))∧Below w.heap.size w w':=by
 obtain ⟨hd,_,_⟩:=h
 have c2:=hd.cell 2
 simp at c2
 clear hd
 go_enter Tryz.func55,Tryz.ntmps55
 go_wp2
 go_ret
 exact ⟨rfl,b0⟩
def FofOf (S done:List ByteArray) (E:Nat) (Rest:List UInt8) (t:List UInt8):Prop:=S=done++(fof t).1.map txt∧E=(fof t).2.1∧Rest=(fof t).2.2
theorem FofOf.next {S done:List ByteArray} {E:Nat} {Rest t:List UInt8} (h:FofOf S done E Rest t) (h0:(fparse t).2.2=0):FofOf S (done++[txt (fparse t).1]) E Rest (t.drop (fparse t).2.1):=by
 obtain ⟨h1,h2,h3⟩:=h
 rw [fof_ok h0] at h1 h2 h3
 exact ⟨by rw [h1];simp,h2,h3⟩
theorem FofOf.short {S done:List ByteArray} {E:Nat} {Rest t:List UInt8} (h:FofOf S done E Rest t) (h0:(fparse t).2.2=1):S=done∧E=0∧Rest=t:=by
 obtain ⟨h1,h2,h3⟩:=h
 rw [fof_short h0] at h1 h2 h3
 exact ⟨by simpa using h1,h2,h3⟩
theorem FofOf.bad {S done:List ByteArray} {E:Nat} {Rest t:List UInt8} (h:FofOf S done E Rest t) (h0:(fparse t).2.2≠0) (h1':(fparse t).2.2≠1):S=done∧E=(fparse t).2.2∧Rest=[]:=by
 obtain ⟨h1,h2,h3⟩:=h
 rw [fof_bad h0 h1'] at h1 h2 h3
 exact ⟨by simpa using h1,h2,h3⟩
def Deliv (w:World) (d:Nat) (S:List ByteArray) (Rest:List UInt8) (E count:Nat) (e:Ending) (w':World):Prop :=
 ∃ r v',e=.returned r∧w'.ownsRow w.heap.size 9 1 r S.length (strs S)∧Tch (· = d) w w'∧Dfr w' d v' Rest (if E=0 then fneed Rest else 0) E (count+S.length)∧∀ g,foot v'=some g→w.heap.size≤g
theorem deliver_any (d:Nat) (v:Value) (R:List UInt8) (need count:Nat) (w:World) (h:Dfr w d v R need 0 count) (hR:R.length≤1000000) (hcn:count≤4000000000000000000) :
 Calls Tryz.prog 97 #[.pointer (some ⟨d,0,none⟩)] w (Deliv w d ((fof R).1.map txt) (fof R).2.2 (fof R).2.1 count):=by
 have hst:FofOf ((fof R).1.map txt) [] (fof R).2.1 (fof R).2.2 R:=⟨rfl,rfl,rfl⟩
 generalize (fof R).1.map txt=S at hst ⊢
 generalize (fof R).2.1=E at hst ⊢
 generalize (fof R).2.2=Rest at hst ⊢
 have HST:=Lib.hid hst
 clear hst
 obtain ⟨hd,hb,hv⟩:=h
 have hcv:=hb.back (P:=Tryz.prog) 42 9 Tryz.underlying42 Tryz.underlying5 Tryz.underlying9
 obtain ⟨A,c,rfl⟩:=hb.len
 have c0:=hd.cell 0
 simp at c0
 have hdl:=hd.lt
 have HD:=Lib.hid hd
 obtain ⟨i0,hi0,hz0,hz1,hz2⟩:=info_parts info_str
 clear hd hb hv
 go_enter Tryz.func97,Tryz.ntmps97
 go_wp2
 go_loopw [3,4] (fun v sl wr => ∃ (t:ByteArray) (done:List ByteArray),sl=.string t∧FofOf S done E Rest t.data.toList∧done.length+t.size≤R.length∧wr.ownsRow w.heap.size 9 1 v done.length (strs done) ∧
  BlkAt wr d 178 #[.slice A R.length c,.int .i64 (need:Int),.int .i64 ((0:Nat):Int),.int .i64 ((count+done.length:Nat):Int)]∧Tch (· = d) w wr) (fun _ sl _ => strLen sl)
 case atStart => exact ⟨txt R,[],rfl,HST.out,by simp [txt_size],World.ownsRow_nil _ _ _ _,HD.out,Tch.refl _ _⟩
 case round =>
  obtain ⟨t,done,rfl,hfo,hlen,hown,hd,htch⟩:=hrel
  have HF:=Lib.hid hfo
  have HO:=Lib.hid hown
  have HD2:=Lib.hid hd
  have HW:=Lib.hid htch
  clear hfo hown hd htch
  go_wp2_with fail
  refine (parse_any t _ (by omega)).mono ?_
  rintro e w1 ⟨rfl,hb1⟩
  have hnx:=fun h => HF.out.next h
  have hsh:=fun h => HF.out.short h
  have hbd:=fun h h' => HF.out.bad h h'
  have hok:=fun h => fparse_ok (s:=t.data.toList) h
  generalize hV:fparse t.data.toList=V at hnx hsh hbd hok
  obtain ⟨q,k,g⟩:=V
  simp only at hnx hsh hbd hok
  have hd1:=HD2.out.below hb1 HD2.out.lt
  have hdl1:=hd1.lt
  have hs1:=Nat.le_trans HW.out.size hb1.size
  have e0:=hd1.cell 0
  have e1:=hd1.cell 1
  have e2:=hd1.cell 2
  have e3:=hd1.cell 3
  have f0:=hd1.free 0
  have f1:=hd1.free 1
  have f2:=hd1.free 2
  have f3:=hd1.free 3
  simp at e0 e1 e2 e3
  have HD3:=Lib.hid hd1
  have HO3:=Lib.hid (own_below HO.out hb1)
  have HW3:=Lib.hid (HW.out.bel hb1)
  clear hd1 hb1
  have HNX:=Lib.hid hnx
  have HSH:=Lib.hid hsh
  have HBD:=Lib.hid hbd
  have HOK:=Lib.hid hok
  have HV:=Lib.hid hV
  clear hnx hsh hbd hok hV
  by_cases h1:g=1
  · subst h1
    obtain ⟨rfl,rfl,rfl⟩:=HSH.out rfl
    have hcv2:=run_bytes_of_string (P:=Tryz.prog) w1 9 42 5 t Tryz.underlying9 Tryz.underlying42 Tryz.underlying5
    have hge:=grownCap_ge w1 t.size 0 5
    generalize grownCap w1 t.size 0 5=cap at hcv2 hge
    go_wp2_with fail
    have hwq:BlkAt ((w1.setCell ⟨d,0,none⟩ (.slice (some ⟨w1.heap.size,0,none⟩) t.size cap)).alloc (.cells (bytesRow t cap) 5 ((bytesRow t cap).size,(bytesRow t cap).size+1))).drew d 178
     #[.slice (some ⟨w1.heap.size,0,none⟩) t.size cap,.int .i64 (need:Int),.int .i64 ((0:Nat):Int),.int .i64 ((count+S.length:Nat):Int)]:=(((HD3.out.put 0 _).more _).dr)
    have hbq:Buf ((w1.setCell ⟨d,0,none⟩ (.slice (some ⟨w1.heap.size,0,none⟩) t.size cap)).alloc (.cells (bytesRow t cap) 5 ((bytesRow t cap).size,(bytesRow t cap).size+1))).drew 5 (.slice (some ⟨w1.heap.size,0,none⟩) t.size cap) t.data.toList :=
     Buf.at_heap (by have:=heap_alloc_new (w1.setCell ⟨d,0,none⟩ (.slice (some ⟨w1.heap.size,0,none⟩) t.size cap)) (.cells (bytesRow t cap) 5 ((bytesRow t cap).size,(bytesRow t cap).size+1));rwa [show (w1.setCell ⟨d,0,none⟩ (.slice (some ⟨w1.heap.size,0,none⟩) t.size cap)).heap.size=w1.heap.size by simp [World.setCell]] at this) hge
    have hgw:Tch (fun k => k=d) w1 ((w1.setCell ⟨d,0,none⟩ (.slice (some ⟨w1.heap.size,0,none⟩) t.size cap)).alloc (.cells (bytesRow t cap) 5 ((bytesRow t cap).size,(bytesRow t cap).size+1))).drew:=((((Tch.refl (fun k => k=d) w1).put (p:=⟨d,0,none⟩) (fun _ => rfl) _).more _).dr)
    generalize ((w1.setCell ⟨d,0,none⟩ (.slice (some ⟨w1.heap.size,0,none⟩) t.size cap)).alloc (.cells (bytesRow t cap) 5 ((bytesRow t cap).size,(bytesRow t cap).size+1))).drew=W at hwq hbq hgw ⊢
    refine (whole_any t W (by omega) (by rw [HV.out])).mono ?_
    rintro e w2 ⟨rfl,hb2⟩
    have hwq2:=hwq.below hb2 hwq.lt
    have g1:=hwq2.cell 1
    have k1:=hwq2.free 1
    simp at g1
    go_wp2_with fail
    go_ret
    have hT:Tch (· = d) w1 (w2.setCell ⟨d,1,none⟩ (.int .i64 (fneed t.data.toList:Int))):=(hgw.bel hb2).put (p:=⟨d,1,none⟩) (fun _ => rfl) _
    have hfne:∀ g,foot (.slice (some ⟨w1.heap.size,0,none⟩) t.size cap)=some g→g=w1.heap.size:=fun g hg => by
     simp only [foot] at hg
     split at hg
     · cases hg
     · injection hg with hg;exact hg.symm
    refine ⟨_,_,rfl,?_,?_,⟨hwq2.put 1 _,?_,?_⟩,?_⟩
    · exact own_tch HO3.out hT fun g hg e => by have:=(HO3.out.lt g hg).1;omega
    · exact HW3.out.trans hT fun _ _ e => e
    · exact (hbq.below hb2).tch ((Tch.refl (fun k => k=d) _).put (p:=⟨d,1,none⟩) (fun _ => rfl) _) fun g hg e => by have:=hfne g hg;omega
    · intro e;have:=hfne d e;omega
    · intro g hg;have:=hfne g hg;omega
  · by_cases h0:g=0
    · subst h0
      have HNXT:=Lib.hid (HNX.out rfl)
      obtain ⟨k1,k2,j1,j2,j3⟩:=HOK.out rfl
      rw [len_list] at k2
      clear j1 j2 j3 e0 e1 e2 e3 f0 f1 f2 f3
      have hown:=HO3.out
      go_wp2_with (at_builtin;go_must (refine wpList_append_own _ rfl _ _ 50 rfl w.heap.size 9 i0 (.string ByteArray.empty) 1 16 Tryz.underlying50 hi0 hz0 hz1 hz2 rfl (by decide) _ _ _ rfl (hown.alloc _) ⟨w1.heap.size,0,none⟩ 1 1 [.string (txt q)] rfl rfl (one_new _ _ _) (one_cell_str _) (by unfold maxLen;omega) (by omega) (by simp;omega) ?_);intro v1 w2 hown2 hg2 _;have hTa:Tch (· = d) w w2:=(HW3.out.more _).trans (Tch.grown (S:=fun g => u3.ownBlock=some g) hg2 (fun g hg _ => hg)) (fun g _ hg => by have:=(HO3.out.lt g hg).1;omega);have hd2:=(HD3.out.more (.cells #[.string (txt q)] 9)).step hg2 (by intro e;have:=(HO3.out.lt d e.symm).1;omega);have e3:=hd2.cell 3;have f3:=hd2.free 3;simp at e3;have HTA:=Lib.hid hTa;have HD4:=Lib.hid hd2;have HO4:=Lib.hid hown2;clear hTa hd2 hown2 hg2 hown)
      go_roundw
      case rel =>
       have hT:Tch (fun k => k=d) w2 (w2.setCell ⟨d,3,none⟩ (.int .i64 ((count:Int)+(done.length:Int)+1))):=(Tch.refl (fun k => k=d) w2).put (p:=⟨d,3,none⟩) (fun _ => rfl) _
       refine ⟨_,done++[txt q],rfl,by rw [ext_rest];exact HNXT.out,?_,?_,?_,HTA.out.trans hT fun _ _ e => e⟩
       · simp
         omega
       · refine own_tch (v:=v1) ?_ hT fun g hg e => ?_
         · simpa [strs] using HO4.out
         · have:=(HO4.out.lt g hg).1
           omega
       · have:=HD4.out.put 3 (.int .i64 ((count:Int)+(done.length:Int)+1))
         simp at this ⊢
         rw [Int.add_assoc] at this
         exact this
      case measure =>
       simp [strLen]
       omega
    · obtain ⟨rfl,rfl,rfl⟩:=HBD.out h0 h1
      have n1:((E:Int) == 1)=false:=by rw [beq_eq_false_iff_ne];omega
      have n0:((E:Int) != 0)=true:=by rw [bne_iff_ne];omega
      go_wp2_with fail
      go_ret
      have hT:Tch (· = d) w1 (((w1.setCell ⟨d,0,none⟩ (.slice none 0 0)).setCell ⟨d,1,none⟩ (.int .i64 0)).setCell ⟨d,2,none⟩ (.int .i64 (E:Int))):=(((Tch.refl (fun k => k=d) w1).put (p:=⟨d,0,none⟩) (fun _ => rfl) _).put (p:=⟨d,1,none⟩) (fun _ => rfl) _).put (p:=⟨d,2,none⟩) (fun _ => rfl) _
      exact ⟨_,_,rfl,own_tch HO3.out hT fun g hg e => by have:=(HO3.out.lt g hg).1;omega,HW3.out.trans hT fun _ _ e => e,⟨by rw [if_neg h0];exact ((HD3.out.put 0 _).put 1 _).put 2 _,Buf.nil _ _,by simp [foot]⟩,fun g hg => by simp [foot] at hg⟩
end Go.Proofs.YtgidfnhfgiehjaaGreatDoor
end

section
namespace Go.PM
def feedOf (e:Nat) (R t:List UInt8):List (List UInt8) × Nat × List UInt8:=if e=0 then fof (R++t) else ([],e,R)
def NeedOk (R:List UInt8) (need:Nat):Prop:=∀ b,(R++b).length < need→(fparse (R++b)).2.2=1
def St (R:List UInt8) (need e:Nat):Prop:=e=0→(fparse R).2.2=1∧NeedOk R need
theorem St.new:St [] 0 0:=fun _ => ⟨rfl,fun b h => by omega⟩
theorem feedOf_nil {R:List UInt8} {need e:Nat} (h:St R need e):feedOf e R []=([],e,R):=by
 unfold feedOf
 by_cases h0:e=0
 · rw [if_pos h0,List.append_nil,fof_short (h h0).1,h0]
 · rw [if_neg h0]
theorem feedOf_more (e:Nat) (R t p:List UInt8):feedOf e R (t++p) =
 if (feedOf e R t).2.1=0 then ((feedOf e R t).1++(fof ((feedOf e R t).2.2++p)).1,(fof ((feedOf e R t).2.2++p)).2) else feedOf e R t:=by
 unfold feedOf
 by_cases h0:e=0
 · simp only [if_pos h0]
   rw [← List.append_assoc,fof_append p (R++t)]
 · simp only [if_neg h0]
theorem feedOf_start (t:List UInt8):feedOf 0 [] t=fof t:=by unfold feedOf;rw [if_pos rfl,List.nil_append]
theorem St.keep {R p:List UInt8} {need:Nat} (h:St R need 0) (hl:(R++p).length < need):St (R++p) need 0∧fof (R++p)=([],0,R++p):=by
 have h1:=(h rfl).2 p hl
 refine ⟨fun _ => ⟨h1,fun b hb => ?_⟩,fof_short h1⟩
 rw [List.append_assoc] at hb ⊢
 exact (h rfl).2 _ hb
theorem St.fof (s:List UInt8):St (Go.PM.fof s).2.2 (if (Go.PM.fof s).2.1=0 then fneed (Go.PM.fof s).2.2 else 0) (Go.PM.fof s).2.1:=by
 intro h0
 rw [if_pos h0]
 rcases fof_rest s with ⟨_,h⟩ | ⟨h,_⟩
 · exact ⟨h,fun b hb => fneed_ok _ b h hb⟩
 · exact absurd h0 h
theorem fof_len:∀ s,(Go.PM.fof s).1.length+(Go.PM.fof s).2.2.length≤s.length:=by
 refine fof_ind ?_ ?_ ?_
 · intro s h;rw [fof_short h];simp
 · intro s h ih
   have hk:=fparse_ok h
   rw [fof_ok h]
   simp only [List.length_cons]
   rw [List.length_drop] at ih
   omega
 · intro s h h1;rw [fof_bad h h1];simp
def flat (l:List ByteArray):List UInt8:=l.flatMap fun x => x.data.toList
theorem flat_take {l:List ByteArray} {k:Nat} (h:k < l.length):flat (l.take (k+1))=flat (l.take k)++l[k].data.toList:=by
 unfold flat
 rw [← List.take_append_getElem h,List.flatMap_append]
 simp
theorem flat_le (l:List ByteArray) (k:Nat):(flat (l.take k)).length≤(flat l).length:=by
 unfold flat
 conv => rhs;rw [← List.take_append_drop k l]
 rw [List.flatMap_append,List.length_append]
 omega
end Go.PM
end

section
namespace Go.Proofs.YtgidfnhfgiehjaaGreatDoor
open Go.RowKit Go.PM
set_option maxRecDepth 100000
set_option maxHeartbeats 1000000
theorem own_cases {w:World} {base:Nat} {e:TypeId} {n:Nat} {v:Value} {xs:List Value} (h:w.ownsRow base e 1 v n xs):(v=.slice none 0 0∧n=0∧xs=[]) ∨
 ∃ g cap,v=.slice (some ⟨g,0,none⟩) n cap∧base≤g∧∀ j u,xs[j]? = some u→w.cell? ((⟨g,0,none⟩:Addr).add j)=some u:=by
 rcases h.2 with ⟨rfl,rfl⟩ | ⟨g,cap,cur,rfl,hb,hg,hn,_⟩
 · refine .inl ⟨rfl,rfl,?_⟩
   have:=h.1
   simpa using this
 · exact .inr ⟨g,cap,rfl,hb,h.cells (g:=g) rfl⟩
theorem strs_one (l:List ByteArray):∀ u ∈ strs l,u.oneCell'=true:=by
 intro u hu
 obtain ⟨x,_,rfl⟩:=List.mem_map.1 hu
 rfl
def FedEnd (w:World) (d:Nat) (v:Value) (count:Nat) (x:List (List UInt8) × Nat × List UInt8) (en:Ending) (w':World):Prop :=
 ∃ r v' need',en=.returned r∧w'.ownsRow w.heap.size 9 1 r x.1.length (strs (x.1.map txt))∧Tch (fun k => k=d∨foot v=some k) w w'∧Dfr w' d v' x.2.2 need' x.2.1 (count+x.1.length)∧St x.2.2 need' x.2.1 ∧
  (foot v'=foot v∨∀ g,foot v'=some g→w.heap.size≤g)
def FedAt (w:World) (d:Nat) (v:Value) (count:Nat) (x:List (List UInt8) × Nat × List UInt8) (r:Value) (w':World):Prop :=
 ∃ v' need',w'.ownsRow w.heap.size 9 1 r x.1.length (strs (x.1.map txt))∧Tch (fun k => k=d∨foot v=some k) w w'∧Dfr w' d v' x.2.2 need' x.2.1 (count+x.1.length)∧St x.2.2 need' x.2.1 ∧
  (foot v'=foot v∨∀ g,foot v'=some g→w.heap.size≤g)
theorem FedAt.end_ {w:World} {d:Nat} {v:Value} {count:Nat} {x:List (List UInt8) × Nat × List UInt8} {r:Value} {w':World} (h:FedAt w d v count x r w'):FedEnd w d v count x (.returned r) w':=by
 obtain ⟨v',need',h1,h2,h3,h4,h5⟩:=h
 exact ⟨r,v',need',rfl,h1,h2,h3,h4,h5⟩
theorem feedOf_len {e:Nat} {R t:List UInt8}:(feedOf e R t).1.length+(feedOf e R t).2.2.length≤R.length+t.length:=by
 unfold feedOf
 split
 · have:=fof_len (R++t)
   rw [List.length_append] at this
   exact this
 · simp
theorem feed_any (d:Nat) (v:Value) (R:List UInt8) (need e count:Nat) (A:Option Addr) (cap:Nat) (l:List ByteArray) (w:World) (h:Dfr w d v R need e count) (hst:St R need e) (hr:Rd w A (strs l))
 (hA:∀ b off,A=some ⟨b,off,none⟩→b≠d∧foot v≠some b) (hn:R.length+(flat l).length≤1000000) (hl:l.length≤9223372036854775807) (hcn:count≤3000000000000000000) :
 Calls Tryz.prog 53 #[.pointer (some ⟨d,0,none⟩),.slice A l.length cap] w (FedEnd w d v count (feedOf e R (flat l))):=by
 have HN:∀ k,(feedOf e R (flat (l.take k))).1.length+(feedOf e R (flat (l.take k))).2.2.length≤R.length+(flat (l.take k)).length:=fun k => feedOf_len
 have HN2:∀ k,(flat (l.take k)).length≤(flat l).length:=flat_le l
 have HR:=Lib.hid hr
 have H0:Hid (FedAt w d v count (feedOf e R []) (.slice none 0 0) w):=by
  show FedAt _ _ _ _ _ _ _
  rw [feedOf_nil hst]
  exact ⟨v,need,World.ownsRow_nil _ _ _ _,Tch.refl _ _,h,hst,.inl rfl⟩
 have HA:=Lib.hid hA
 have HF:=Lib.hid (fun g (hg:foot v=some g) => h.2.1.foot_lt hg)
 have hdw:=h.1.lt
 have HNN:=Lib.hid (And.intro HN HN2)
 obtain ⟨i0,hi0,hz0,hz1,hz2⟩:=info_parts info_str
 obtain ⟨i1,hi1,hy0,hy1,hy2⟩:=info_parts (show (Tryz.prog.info? 5).map (fun i => (i.zero,i.size,i.bytes))=some (some (.int .u8 0),1,1) by kernel_rfl)
 clear h hst hr hA HN HN2
 go_enter Tryz.func53,Tryz.ntmps53
 go_wp2
 go_loopw [5,12] (fun sl kk wr => ∃ k:Nat,k≤l.length∧kk=.int .i64 (k:Int)∧FedAt w d v count (feedOf e R (flat (l.take k))) sl wr) (fun _ kk _ => l.length - (intOf kk).toNat)
 case atStart => exact ⟨0,by omega,rfl,H0.out⟩
 case round =>
  obtain ⟨k,hk,rfl,hat⟩:=hrel
  by_cases hlt:k < l.length
  · have hmo:=feedOf_more e R (flat (l.take k)) l[k].data.toList
    rw [← flat_take hlt] at hmo
    have HLT:=Lib.hid hlt
    have hl1:=HNN.out.1 (k+1)
    have hl2:=HNN.out.2 (k+1)
    have hl3:=HNN.out.1 k
    have hl4:=HNN.out.2 k
    have hl5:(flat (l.take k)).length+l[k].size≤(flat l).length:=by rw [flat_take hlt,List.length_append,len_list] at hl2;exact hl2
    have HEND:Hid ((feedOf e R (flat (l.take k))).2.1≠0→feedOf e R (flat l)=feedOf e R (flat (l.take k))):=fun hne => by
     have:=feedOf_more e R (flat (l.take k)) (flat (l.drop k))
     rw [if_neg hne] at this
     rw [← this]
     unfold flat
     rw [← List.flatMap_append,List.take_append_drop]
    have HNX:Hid (∀ x,feedOf e R (flat (l.take (k+1)))=x→∀ sl wr,FedAt w d v count x sl wr→∃ k':Nat,k'≤l.length∧Value.int .i64 ((k:Int)+1)=.int .i64 (k':Int)∧FedAt w d v count (feedOf e R (flat (l.take k'))) sl wr) :=
     fun x hx sl wr hf => ⟨k+1,by have:=HLT.out;omega,by go_num,hx ▸ hf⟩
    have hcel:∃ b off,A=some ⟨b,off,none⟩∧wr.cell? ⟨b,off+k,none⟩=some (.string l[k]):=by
     obtain ⟨v1,need1,_,ht,_⟩:=hat
     obtain ⟨b,off,hAe,hb,hc⟩:=(HR.out.tch ht (fun b off e => by have:=HA.out b off e;rintro (h | h);exact this.1 h;exact this.2 h)).at_ (k:=k) (by rw [strs_length];exact hlt)
     rw [strs_at l k hlt] at hc
     exact ⟨b,off,hAe,hc⟩
    obtain ⟨b,off,rfl,hc⟩:=hcel
    generalize l[k]=p at *
    generalize feedOf e R (flat (l.take (k+1)))=X1 at *
    generalize feedOf e R (flat (l.take k))=X0 at *
    obtain ⟨v1,need1,hown,htch,hdf,hst,hfo⟩:=hat
    obtain ⟨done,e1,R1⟩:=X0
    simp only at hown hdf hst hl3 hmo HEND
    clear hl1 hl2 HNN
    have hd:=hdf.1
    have hdl:=hd.lt
    have e2:=hd.cell 2
    have e0:=hd.cell 0
    simp at e2 e0
    have HD:=Lib.hid hdf
    have HOWN:=Lib.hid hown
    have HT:=Lib.hid htch
    have HST:=Lib.hid hst
    have HFO:=Lib.hid hfo
    have HMO:=Lib.hid hmo
    clear hdf hown htch hst hfo hd hmo
    by_cases he:e1=0
    · subst he
      obtain ⟨v2,w2,hrun,hb2,ht2,hf2⟩:=buf_append (P:=Tryz.prog) HD.out.2.1 p 42 9 42 i1 Tryz.underlying42 Tryz.underlying9 hi1 hy0 hy1 hy2 (by omega)
      have hd2:=HD.out.1.tch ht2 HD.out.2.2
      have hd2l:=hd2.lt
      have f0:=hd2.free 0
      have g0:=hd2.cell 0
      simp at g0
      have HD2:=Lib.hid hd2
      have hw2:=ht2.size
      have hNN:(R1++p.data.toList).length=R1.length+p.size:=by rw [List.length_append,len_list]
      obtain ⟨A2,c2,hv2⟩:=hb2.len
      rw [hNN] at hv2
      subst hv2
      have hfd:foot (.slice A2 (R1.length+p.size) c2)≠some d:=hb2.ne_blk hd2 (by decide)
      have hTs:Tch (fun k => k=d∨foot v1=some k) wr (w2.setCell ⟨d,0,none⟩ (.slice A2 (R1.length+p.size) c2)):=(ht2.imp (S':=fun k => k=d∨foot v1=some k) (fun _ _ h => .inr h)).put (p:=⟨d,0,none⟩) (fun _ => .inl rfl) _
      have hdW:Dfr (w2.setCell ⟨d,0,none⟩ (.slice A2 (R1.length+p.size) c2)) d (.slice A2 (R1.length+p.size) c2) (R1++p.data.toList) need1 0 (count+done.length) :=
       ⟨hd2.put 0 _,hb2.tch ((Tch.refl (fun k => k=d) w2).put (p:=⟨d,0,none⟩) (fun _ => rfl) _) (fun g hg e => hfd (e ▸ hg)),hfd⟩
      have hfo2:foot (.slice A2 (R1.length+p.size) c2)=foot v∨∀ g,foot (.slice A2 (R1.length+p.size) c2)=some g→w.heap.size≤g:=by
       rcases hf2 with h | h
       · rw [h];exact HFO.out
       · exact .inr fun g hg => Nat.le_trans HT.out.size (h g hg)
      have hoW:=own_tch HOWN.out hTs fun g hg e => by
       rcases e with e | e
       · have:=(HOWN.out.lt g hg).1;omega
       · exact HD.out.2.1.ne_own HOWN.out (by decide) g hg e
      have hTW:=HT.out.trans hTs (S:=fun k => k=d∨foot v=some k) fun g hg e => by
       rcases e with e | e
       · exact .inl e
       · rcases HFO.out with h | h
         · exact .inr (h ▸ e)
         · have:=h g e;omega
      have HRUN:=Lib.hid hrun
      have HNN:=Lib.hid hNN
      clear hrun hb2 hf2 ht2 hd2 hfd hTs hNN
      have HDW:=Lib.hid hdW
      have HFO2:=Lib.hid hfo2
      have HOW:=Lib.hid hoW
      have HTW:=Lib.hid hTW
      clear hdW hfo2 hoW hTW
      go_wp2_with (at_builtin;go_must (refine wpList_append_run rfl _ _ 42 9 rfl _ _ _ rfl rfl HRUN.out ?_))
      generalize w2.setCell ⟨d,0,none⟩ (.slice A2 (R1.length+p.size) c2)=W at *
      have hd:=HDW.out.1
      have c0:=hd.cell 0
      have c1:=hd.cell 1
      simp at c0 c1
      clear hd e0 e2 f0 g0
      by_cases hlen:R1.length+p.size < need1
      · have hk:=(HST.out.keep (p:=p.data.toList) (by rw [HNN.out];exact hlen))
        have hm:=HMO.out
        rw [if_pos trivial,hk.2,List.append_nil] at hm
        have HM:=Lib.hid hm
        have HK:=Lib.hid hk.1
        clear hk hm
        go_quiet (fail)
        go_wp2
        go_roundw
        case rel => exact HNX.out _ HM.out _ _ ⟨_,need1,HOW.out,HTW.out.drn _,HDW.out,HK.out,HFO2.out⟩
        case measure => simp [intOf];omega
      · have hm:=HMO.out
        rw [if_pos trivial] at hm
        have HM:=Lib.hid hm
        clear hm
        have HLE:Hid ((R1++p.data.toList).length≤1000000):=by show _≤_;rw [HNN.out];omega
        have hws:=HTW.out.size
        go_quiet (fail)
        go_wp2_with fail
        refine (deliver_any d _ (R1++p.data.toList) need1 (count+done.length) _ (show Dfr (W.drewN nq) _ _ _ _ _ _ from HDW.out) HLE.out (by omega)).mono ?_
        rintro e' w3 ⟨r,v3,rfl,hor,ht3,hdf3,hfr⟩
        have hsl:=fof_len (R1++p.data.toList)
        rw [HNN.out] at hsl
        have hfin:∀ r' w4,w4.ownsRow w.heap.size 9 1 r' (done.length+(fof (R1++p.data.toList)).1.length) (strs (done.map txt)++strs ((fof (R1++p.data.toList)).1.map txt))→w3.grownBy w4 u5.ownBlock→FedAt w d v count X1 r' w4:=fun r' w4 ho4 hg4 => by
         have hou:=own_tch (w:=W.drewN nq) (S:=fun k => k=d) HOW.out ht3 fun g hg e => by have:=(HOW.out.lt g hg).1;omega
         rw [HM.out]
         refine ⟨v3,_,?_,((HTW.out.drn nq).trans ht3 fun g _ h => .inl h).trans (Tch.grown (S:=fun g => u5.ownBlock=some g) hg4 fun g hg _ => hg) fun g hlt hg => ?_,?_,St.fof (R1++p.data.toList),.inr fun g hg => Nat.le_trans hws (hfr g hg)⟩
         · simp only [List.length_append,List.map_append]
           rw [show strs (done.map txt++(fof (R1++p.data.toList)).1.map txt)=strs (done.map txt)++strs ((fof (R1++p.data.toList)).1.map txt) by simp [strs]]
           exact ho4
         · have:=(HOW.out.lt g hg).1;omega
         · have hc:count+done.length+((fof (R1++p.data.toList)).1.map txt).length=count+(done++(fof (R1++p.data.toList)).1).length:=by simp [Nat.add_assoc]
           rw [hc] at hdf3
           exact hdf3.tch (Tch.grown (S:=fun g => u5.ownBlock=some g) hg4 fun g hg _ => hg) (fun hg => by have:=(HOW.out.lt d hg).1;omega) fun g hg e => hdf3.2.1.ne_own hou (by decide) g e hg
        have hou:=own_tch (w:=W.drewN nq) (S:=fun k => k=d) HOW.out ht3 fun g hg e => by have:=(HOW.out.lt g hg).1;omega
        have hw3:=ht3.size
        have hsl2:((fof (R1++p.data.toList)).1.map txt).length=(fof (R1++p.data.toList)).1.length:=List.length_map _
        rw [hsl2] at hor
        have HFIN:=Lib.hid hfin
        have HOU:=Lib.hid hou
        clear hfin hou ht3 hdf3 hfr hsl2
        generalize (fof (R1++p.data.toList)).1=L at *
        rcases own_cases hor with ⟨rfl,hn0,hxs⟩ | ⟨g,cp,rfl,hgb,hsrc⟩
        · have HXS:=Lib.hid (And.intro hn0 hxs)
          clear hn0 hxs hor
          go_wp2_with (at_builtin;go_must (refine wpList_append_own_none rfl _ _ 50 rfl w.heap.size 9 i0 1 Tryz.underlying50 hi0 _ _ _ rfl HOU.out rfl ?_))
          go_roundw
          case rel => exact HNX.out _ rfl _ _ (HFIN.out _ _ (by rw [HXS.out.1,HXS.out.2,List.append_nil];exact HOU.out) (grown_refl _ _))
          case measure => simp [intOf];omega
        · have HOR:=Lib.hid hor
          have HSRC:=Lib.hid hsrc
          clear hor hsrc
          have hws3:w.heap.size≤w3.heap.size:=Nat.le_trans hws hw3
          go_wp2_with (at_builtin;go_must (refine wpList_append_own _ rfl _ _ 50 rfl w.heap.size 9 i0 (.string ByteArray.empty) 1 16 Tryz.underlying50 hi0 hz0 hz1 hz2 rfl (by decide) _ _ _ rfl HOU.out ⟨g,0,none⟩ L.length cp (strs (L.map txt)) rfl HOR.out.1 HSRC.out (strs_one _) (by unfold maxLen;omega) (by omega) hws3 ?_);intro v4 w4 hown4 hg4 _;have HO4:=Lib.hid hown4;have HG4:=Lib.hid hg4;clear hown4 hg4)
          go_roundw
          case rel => exact HNX.out _ rfl _ _ (HFIN.out _ _ HO4.out HG4.out)
          case measure => simp [intOf];omega
    · have n0:((e1:Int) != 0)=true:=by rw [bne_iff_ne];omega
      have HE:=HEND.out he
      have HE2:=Lib.hid HE
      clear HE
      go_wp2
      go_ret
      rw [HE2.out]
      exact FedAt.end_ ⟨v1,need1,HOWN.out,HT.out,HD.out,HST.out,HFO.out⟩
  · obtain rfl:k=l.length:=by omega
    rw [List.take_length] at hat
    have HAT:=Lib.hid hat
    clear hat HNN
    go_wp2
    go_ret
    exact HAT.out.end_
end Go.Proofs.YtgidfnhfgiehjaaGreatDoor
end

section
namespace Go.Proofs.YtgidfnhfgiehjaaGreatDoor
open Go.RowKit Go.PM
set_option maxRecDepth 100000
set_option maxHeartbeats 1000000
end Go.Proofs.YtgidfnhfgiehjaaGreatDoor
end

section
namespace Go.Proofs.YtgidfnhfgiehjaaGreatDoor
open Go.RowKit Go.PM
set_option maxRecDepth 100000
set_option maxHeartbeats 1000000
def Fd (B:Nat) (w:World) (d:Nat) (v:Value) (R:List UInt8) (need e count:Nat):Prop:=Dfr w d v R need e count∧St R need e∧B≤d∧∀ g,foot v=some g→B≤g
theorem Fd.below {B:Nat} {w w':World} {d:Nat} {v:Value} {R:List UInt8} {need e count:Nat} (h:Fd B w d v R need e count) (hb:Below w.heap.size w w'):Fd B w' d v R need e count :=
 ⟨h.1.below hb,h.2⟩
def FedB (B:Nat) (w:World) (d:Nat) (v:Value) (count:Nat) (x:List (List UInt8) × Nat × List UInt8) (en:Ending) (w':World):Prop :=
 ∃ r v' need',en=.returned r∧w'.ownsRow w.heap.size 9 1 r x.1.length (strs (x.1.map txt))∧Tch (fun k => k=d∨foot v=some k) w w'∧Below B w w'∧Fd B w' d v' x.2.2 need' x.2.1 (count+x.1.length) ∧
  (foot v'=foot v∨∀ g,foot v'=some g→w.heap.size≤g)
theorem feed_B (B d:Nat) (v:Value) (R:List UInt8) (need e count:Nat) (A:Option Addr) (cap:Nat) (l:List ByteArray) (w:World) (h:Fd B w d v R need e count) (hB:B≤w.heap.size) (hr:Rd w A (strs l))
 (hA:∀ b off,A=some ⟨b,off,none⟩→b≠d∧foot v≠some b) (hn:R.length+(flat l).length≤1000000) (hl:l.length≤9223372036854775807) (hcn:count≤3000000000000000000) :
 Calls Tryz.prog 53 #[.pointer (some ⟨d,0,none⟩),.slice A l.length cap] w (FedB B w d v count (feedOf e R (flat l))):=by
 obtain ⟨h,hst,hd,hf⟩:=h
 refine (feed_any d v R need e count A cap l w h hst hr hA hn hl hcn).mono ?_
 rintro en w' ⟨r,v',need',he,ho,ht,hd',hst',hf'⟩
 refine ⟨r,v',need',he,ho,ht,ht.toBelowB hB fun g hg e => ?_,⟨hd',hst',hd,fun g hg => ?_⟩,hf'⟩
 · rcases e with e | e
   · omega
   · have:=hf g e;omega
 · rcases hf' with h | h
   · exact hf g (h ▸ hg)
   · exact Nat.le_trans hB (h g hg)
theorem feed_one (B d:Nat) (v:Value) (R:List UInt8) (need e count:Nat) (x:ByteArray) (g:Nat) (w:World) (h:Fd B w d v R need e count) (hB:B≤w.heap.size) (hg:BlkAt w g 9 #[.string x])
 (hn:R.length+x.size≤1000000) (hcn:count≤3000000000000000000) :
 Calls Tryz.prog 53 #[.pointer (some ⟨d,0,none⟩),.slice (some ⟨g,0,none⟩) 1 1] w (FedB B w d v count (feedOf e R x.data.toList)):=by
 have:=feed_B B d v R need e count (some ⟨g,0,none⟩) 1 [x] w h hB (.inr ⟨g,0,rfl,hg.lt,fun j u hj => ?_⟩) (fun b off e => ?_) (by simpa [flat] using hn) (by simp) hcn
 · simpa [flat] using this
 · match j,hj with
   | 0,hj => rw [hg.cell];simpa [strs] using hj
 · injection e with e
   injection e with e _
   subst e
   exact ⟨hg.apart h.1.1 (by decide),h.1.2.1.ne_blk hg (by decide)⟩
theorem new_B (w:World) :
 Calls Tryz.prog 52 #[] w fun e w' => ∃ d,e=.returned (.pointer (some ⟨d,0,none⟩))∧w.heap.size≤d∧Fd w.heap.size w' d (.slice none 0 0) [] 0 0 0∧Below w.heap.size w w' :=
 (new_any w).mono fun e w' ⟨d,he,hd,hD,hb⟩ => ⟨d,he,hd,⟨hD,St.new,hd,fun g hg => by simp [foot] at hg⟩,hb⟩
theorem fof_81:fof [81]=([],0,[81]):=fof_short (by decide)
theorem fof_8171:fof [81,71]=([],5,[]):=fof_bad (by decide) (by decide)
theorem awake06 (w:World) :
 Calls Tryz.prog 320 #[] w fun e w' => e=.returned (.bool true)∧Below w.heap.size w w':=by
 go_enter Tryz.func320,Tryz.ntmps320
 go_wp2_with fail
 refine (new_B _).mono ?_
 rintro e w1 ⟨d,rfl,hd1,hD1,hb1⟩
 have HD1:=Lib.hid hD1
 have HB1:=Lib.hid hb1
 have hs1:=hb1.size
 clear hD1 hb1
 go_wp2_with fail
 have hm:=BlkAt.made w1 9 #[.string ⟨#[81]⟩]
 have hbo:=ba (a:=w1) b0 (.cells #[.string ⟨#[81]⟩] 9)
 generalize w1.alloc (.cells #[.string ⟨#[81]⟩] 9)=W at hm hbo ⊢
 have hs2:=Nat.le_trans hs1 hbo.size
 refine (feed_one w.heap.size d _ [] 0 0 0 _ _ W (HD1.out.below hbo) hs2 hm (by decide) (by decide)).mono ?_
 rw [show feedOf 0 [] (ByteArray.data ⟨#[81]⟩).toList=([],0,[81]) by rw [feedOf_start];exact fof_81]
 rintro e w2 ⟨r,v2,need2,rfl,_,_,hb2,hd2,_⟩
 have HD2:=Lib.hid hd2
 have HB2:=Lib.hid ((HB1.out.trans (hbo.mono hs1)).trans hb2)
 clear hd2 hb2 hbo hm
 go_wp2_with fail
 refine (err_any d _ _ _ _ _ _ HD2.out.1).mono ?_
 rintro e w3 ⟨rfl,hb3⟩
 have HD3:=Lib.hid (HD2.out.below hb3)
 have HB3:=Lib.hid (bb HB2.out hb3)
 have hs3:=HB3.out.size
 clear hb3
 go_wp2_with fail
 have hm:=BlkAt.made w3 9 #[.string ⟨#[71]⟩]
 have hbo:=ba (a:=w3) b0 (.cells #[.string ⟨#[71]⟩] 9)
 generalize w3.alloc (.cells #[.string ⟨#[71]⟩] 9)=W at hm hbo ⊢
 have hs4:=Nat.le_trans hs3 hbo.size
 refine (feed_one w.heap.size d _ [81] _ 0 _ _ _ W (HD3.out.below hbo) hs4 hm (by decide) (by decide)).mono ?_
 rw [show feedOf 0 [81] (ByteArray.data ⟨#[71]⟩).toList=([],5,[]) by unfold feedOf;rw [if_pos rfl];exact fof_8171]
 rintro e w4 ⟨r,v4,need4,rfl,_,_,hb4,hd4,_⟩
 have HD4:=Lib.hid hd4
 have HB4:=Lib.hid ((HB3.out.trans (hbo.mono hs3)).trans hb4)
 clear hd4 hb4 hbo hm
 go_wp2_with fail
 refine (awakeE05 _).mono ?_
 rintro e w5 ⟨rfl,hb5⟩
 have HD5:=Lib.hid (HD4.out.below hb5)
 have HB5:=Lib.hid (bb HB4.out hb5)
 clear hb5
 go_wp2_with fail
 refine (err_any d _ _ _ _ _ _ HD5.out.1).mono ?_
 rintro e w6 ⟨rfl,hb6⟩
 have HB6:=Lib.hid (bb HB5.out hb6)
 clear hb6
 go_wp2
 go_ret
 exact ⟨rfl,HB6.out⟩
theorem awakeE06 (w:World):Calls Tryz.prog 319 #[] w fun e w' => e=.returned (.bool true)∧Below w.heap.size w w':=by
 go_enter Tryz.func319,Tryz.ntmps319
 go_wp2_with (go_at_call 320;refine (awake06 _).mono ?_;rintro e w' ⟨rfl,hb⟩)
 go_ret
 exact ⟨rfl,hb⟩
end Go.Proofs.YtgidfnhfgiehjaaGreatDoor
end

section
namespace Go.PM
def ucont (b:UInt8):Bool:=128≤b.toNat && b.toNat < 192
def uclass (a:Nat):Option (Nat × Nat × Nat) :=
 if 192≤a∧a < 224 then some (2,a - 192,128) else if 224≤a∧a < 240 then some (3,a - 224,2048) else if 240≤a∧a < 248 then some (4,a - 240,65536) else none
def uacc (n:Nat):Nat→List UInt8→Option Nat
 | 0,_ => some n
 | _+1,[] => none
 | k+1,d :: r => if ucont d then uacc (64 * n+(d.toNat - 128)) k r else none
def ubad (n least:Nat):Bool:=decide (n < least) || decide (1114111 < n) || (decide (55296≤n) && decide (n < 57344))
def ufirst:List UInt8→Nat
 | [] => 0
 | a :: r =>
   if a.toNat < 128 then 1
   else match uclass a.toNat with
    | none => 0
    | some (size,n0,least) =>
      match uacc n0 (size - 1) r with
      | none => 0
      | some n => if ubad n least then 0 else size
theorem ufirst_lo {a:UInt8} {r:List UInt8} (h:a.toNat < 128):ufirst (a :: r)=1:=by simp [ufirst,h]
theorem ufirst_hi {a:UInt8} {r:List UInt8} (h:¬ a.toNat < 128):ufirst (a :: r)=match uclass a.toNat with
 | none => 0
 | some (size,n0,least) =>
   match uacc n0 (size - 1) r with
   | none => 0
   | some n => if ubad n least then 0 else size:=by
 rw [ufirst,if_neg h]
theorem uclass_size {a size n0 least:Nat} (h:uclass a=some (size,n0,least)):2≤size∧size≤4:=by
 unfold uclass at h
 split at h
 · injection h with h;injection h with h _;omega
 · split at h
   · injection h with h;injection h with h _;omega
   · split at h
     · injection h with h;injection h with h _;omega
     · cases h
theorem uacc_len:∀ (k n m:Nat) (r:List UInt8),uacc n k r=some m→k≤r.length
 | 0,_,_,_,_ => Nat.zero_le _
 | _+1,_,_,[],h => by simp [uacc] at h
 | k+1,n,m,d :: r,h => by
   rw [uacc] at h
   split at h
   · have:=uacc_len k _ _ r h
     simp only [List.length_cons]
     omega
   · cases h
theorem ufirst_some {s:List UInt8} (h:ufirst s≠0):∃ a r,s=a :: r∧((a.toNat < 128∧ufirst s=1) ∨
 (¬ a.toNat < 128∧∃ size n0 least n,uclass a.toNat=some (size,n0,least)∧uacc n0 (size - 1) r=some n∧ubad n least=false∧ufirst s=size)):=by
 match s,h with
 | a :: r,h =>
   refine ⟨a,r,rfl,?_⟩
   by_cases h1:a.toNat < 128
   · exact .inl ⟨h1,ufirst_lo h1⟩
   · rw [ufirst_hi h1] at h ⊢
     refine .inr ⟨h1,?_⟩
     cases hc:uclass a.toNat with
     | none => rw [hc] at h;simp at h
     | some x =>
       obtain ⟨size,n0,least⟩:=x
       rw [hc] at h
       simp only at h ⊢
       cases hu:uacc n0 (size - 1) r with
       | none => rw [hu] at h;simp at h
       | some n =>
         rw [hu] at h
         simp only at h
         by_cases hb:ubad n least=true
         · rw [if_pos hb] at h;simp at h
         · exact ⟨size,n0,least,n,rfl,hu,by simpa using hb,by simp [hb]⟩
theorem ufirst_le {s:List UInt8} (h:ufirst s≠0):1≤ufirst s∧ufirst s≤s.length∧ufirst s≤4:=by
 obtain ⟨a,r,rfl,h1 | ⟨_,size,n0,least,n,hc,hu,_,he⟩⟩:=ufirst_some h
 · rw [h1.2];simp
 · have:=uclass_size hc
   have:=uacc_len _ _ _ _ hu
   rw [he]
   simp only [List.length_cons]
   omega
theorem ufirst_nil:ufirst []=0:=rfl
/-! ### Good texts -/
def ugood (s:List UInt8):Bool:=if _h:ufirst s=0 then decide (s=[]) else ugood (s.drop (ufirst s))
termination_by s.length
decreasing_by
 have:=ufirst_le _h
 simp;omega
theorem ugood_nil:ugood []=true:=by rw [ugood,dif_pos ufirst_nil];rfl
theorem ugood_step {s:List UInt8} (h:ufirst s≠0):ugood s=ugood (s.drop (ufirst s)):=by rw [ugood,dif_neg h]
theorem ugood_zero {s:List UInt8} (h:ufirst s=0) (hs:s≠[]):ugood s=false:=by rw [ugood,dif_pos h];simpa using hs
/-! ### Cut -/
end Go.PM
end

section
namespace Go.PM
def udec (l:List UInt8):Nat × Nat :=
 let at' (k:Nat):Nat:=(l.getD k 0).toNat
 let cont (k:Nat):Bool:=decide (k < l.length) && at' k / 64 == 2
 let b0:=at' 0
 if b0 < 0x80 then (b0,1)
 else if b0 / 32 == 6 && cont 1 then
  let c:=(b0 % 32) * 64+at' 1 % 64
  if c ≥ 0x80 then (c,2) else (Utf8.runeError,1)
 else if b0 / 16 == 14 && cont 1 && cont 2 then
  let c:=(b0 % 16) * 4096+(at' 1 % 64) * 64+at' 2 % 64
  if c ≥ 0x800 && Utf8.valid c then (c,3) else (Utf8.runeError,1)
 else if b0 / 8 == 30 && cont 1 && cont 2 && cont 3 then
  let c:=(b0 % 8) * 262144+(at' 1 % 64) * 4096+(at' 2 % 64) * 64+at' 3 % 64
  if c ≥ 0x10000 && Utf8.valid c then (c,4) else (Utf8.runeError,1)
 else (Utf8.runeError,1)
theorem get_list (s:ByteArray) (i k:Nat):s.get! (i+k)=(s.data.toList.drop i).getD k 0:=by
 rw [List.getD_eq_getElem?_getD,List.getElem?_drop,Array.getElem?_toList]
 show s.data[i+k]! = _
 rw [getElem!_def]
 cases s.data[i+k]? <;> rfl
theorem decode_list (s:ByteArray) (i:Nat):Utf8.decode s i=udec (s.data.toList.drop i):=by
 have hl:∀ k,decide (i+k < s.size)=decide (k < (s.data.toList.drop i).length):=fun k => by
  rw [List.length_drop,Array.length_toList]
  show decide (i+k < s.size)=decide (k < s.size - i)
  rw [decide_eq_decide];omega
 unfold Utf8.decode udec
 simp only [get_list,hl]
theorem ucont_iff (b:UInt8):(b.toNat / 64 == 2)=ucont b:=by
 unfold ucont
 rw [Bool.eq_iff_iff]
 simp only [beq_iff_eq,Bool.and_eq_true,decide_eq_true_eq]
 omega
theorem uvalid_iff (n:Nat):Utf8.valid (n:Int) = !(decide (1114111 < n) || (decide (55296≤n) && decide (n < 57344))):=by
 unfold Utf8.valid
 rw [Bool.eq_iff_iff]
 simp only [Bool.or_eq_true,Bool.and_eq_true,decide_eq_true_eq,Bool.not_eq_true',Bool.or_eq_false_iff,decide_eq_false_iff_not,Bool.and_eq_false_imp]
 omega
theorem ucond (n least:Nat):(decide (n ≥ least) && Utf8.valid (n:Int)) = !ubad n least:=by
 rw [uvalid_iff]
 unfold ubad
 rw [Bool.eq_iff_iff]
 simp only [Bool.and_eq_true,decide_eq_true_eq,Bool.not_eq_true',Bool.or_eq_false_iff,decide_eq_false_iff_not,Bool.and_eq_false_imp]
 omega
theorem udec3 (a b c:UInt8) (r:List UInt8) (h1:¬ a.toNat < 128) (h2:¬ a.toNat / 32=6) (h3:a.toNat / 16=14) :
 udec (a :: b :: c :: r)=if (ucont b && ucont c)=true then (if (!ubad ((a.toNat % 16) * 4096+(b.toNat % 64) * 64+c.toNat % 64) 2048)=true then ((a.toNat % 16) * 4096+(b.toNat % 64) * 64+c.toNat % 64,3) else (65533,1)) else (65533,1):=by
 have e:udec (a :: b :: c :: r)=(if a.toNat < 0x80 then (a.toNat,1)
  else if (a.toNat / 32 == 6 && (decide (1 < (a :: b :: c :: r).length) && b.toNat / 64 == 2))=true then
   (if (a.toNat % 32) * 64+b.toNat % 64 ≥ 0x80 then ((a.toNat % 32) * 64+b.toNat % 64,2) else (Utf8.runeError,1))
  else if (a.toNat / 16 == 14 && (decide (1 < (a :: b :: c :: r).length) && b.toNat / 64 == 2) && (decide (2 < (a :: b :: c :: r).length) && c.toNat / 64 == 2))=true then
   (if (decide ((a.toNat % 16) * 4096+(b.toNat % 64) * 64+c.toNat % 64 ≥ 0x800) && Utf8.valid (((a.toNat % 16) * 4096+(b.toNat % 64) * 64+c.toNat % 64:Nat):Int))=true then ((a.toNat % 16) * 4096+(b.toNat % 64) * 64+c.toNat % 64,3) else (Utf8.runeError,1))
  else if (a.toNat / 8 == 30 && (decide (1 < (a :: b :: c :: r).length) && b.toNat / 64 == 2) && (decide (2 < (a :: b :: c :: r).length) && c.toNat / 64 == 2) && (decide (3 < (a :: b :: c :: r).length) && ((a :: b :: c :: r).getD 3 0).toNat / 64 == 2))=true then
   (if (decide ((a.toNat % 8) * 262144+(b.toNat % 64) * 4096+(c.toNat % 64) * 64+((a :: b :: c :: r).getD 3 0).toNat % 64 ≥ 0x10000) && Utf8.valid (((a.toNat % 8) * 262144+(b.toNat % 64) * 4096+(c.toNat % 64) * 64+((a :: b :: c :: r).getD 3 0).toNat % 64:Nat):Int))=true then
     ((a.toNat % 8) * 262144+(b.toNat % 64) * 4096+(c.toNat % 64) * 64+((a :: b :: c :: r).getD 3 0).toNat % 64,4) else (Utf8.runeError,1))
  else (Utf8.runeError,1)):=rfl
 have l1:decide (1 < (a :: b :: c :: r).length)=true:=by simp
 have l2:decide (2 < (a :: b :: c :: r).length)=true:=by simp
 rw [e,if_neg h1,if_neg (by simp [h2]),ucont_iff,ucont_iff,ucond,l1,l2]
 have h4:(a.toNat / 8 == 30)=false:=by rw [beq_eq_false_iff_ne];omega
 rw [show (a.toNat / 16 == 14)=true by simp [h3],h4]
 simp only [Bool.true_and,Bool.false_and]
 rw [if_neg (c:=false=true) (by simp)]
 rfl
theorem udec4 (a b c d:UInt8) (r:List UInt8) (h1:¬ a.toNat < 128) (h2:¬ a.toNat / 32=6) (h3:¬ a.toNat / 16=14) (h4:a.toNat / 8=30) :
 udec (a :: b :: c :: d :: r)=if (ucont b && ucont c && ucont d)=true then (if (!ubad ((a.toNat % 8) * 262144+(b.toNat % 64) * 4096+(c.toNat % 64) * 64+d.toNat % 64) 65536)=true then
  ((a.toNat % 8) * 262144+(b.toNat % 64) * 4096+(c.toNat % 64) * 64+d.toNat % 64,4) else (65533,1)) else (65533,1):=by
 have e:udec (a :: b :: c :: d :: r)=(if a.toNat < 0x80 then (a.toNat,1)
  else if (a.toNat / 32 == 6 && (decide (1 < (a :: b :: c :: d :: r).length) && b.toNat / 64 == 2))=true then
   (if (a.toNat % 32) * 64+b.toNat % 64 ≥ 0x80 then ((a.toNat % 32) * 64+b.toNat % 64,2) else (Utf8.runeError,1))
  else if (a.toNat / 16 == 14 && (decide (1 < (a :: b :: c :: d :: r).length) && b.toNat / 64 == 2) && (decide (2 < (a :: b :: c :: d :: r).length) && c.toNat / 64 == 2))=true then
   (if (decide ((a.toNat % 16) * 4096+(b.toNat % 64) * 64+c.toNat % 64 ≥ 0x800) && Utf8.valid (((a.toNat % 16) * 4096+(b.toNat % 64) * 64+c.toNat % 64:Nat):Int))=true then ((a.toNat % 16) * 4096+(b.toNat % 64) * 64+c.toNat % 64,3) else (Utf8.runeError,1))
  else if (a.toNat / 8 == 30 && (decide (1 < (a :: b :: c :: d :: r).length) && b.toNat / 64 == 2) && (decide (2 < (a :: b :: c :: d :: r).length) && c.toNat / 64 == 2) && (decide (3 < (a :: b :: c :: d :: r).length) && d.toNat / 64 == 2))=true then
   (if (decide ((a.toNat % 8) * 262144+(b.toNat % 64) * 4096+(c.toNat % 64) * 64+d.toNat % 64 ≥ 0x10000) && Utf8.valid (((a.toNat % 8) * 262144+(b.toNat % 64) * 4096+(c.toNat % 64) * 64+d.toNat % 64:Nat):Int))=true then
     ((a.toNat % 8) * 262144+(b.toNat % 64) * 4096+(c.toNat % 64) * 64+d.toNat % 64,4) else (Utf8.runeError,1))
  else (Utf8.runeError,1)):=rfl
 have l1:decide (1 < (a :: b :: c :: d :: r).length)=true:=by simp
 have l2:decide (2 < (a :: b :: c :: d :: r).length)=true:=by simp
 have l3:decide (3 < (a :: b :: c :: d :: r).length)=true:=by simp
 rw [e,if_neg h1,if_neg (by simp [h2]),if_neg (by simp [h3]),ucont_iff,ucont_iff,ucont_iff,ucond,l1,l2,l3]
 rw [show (a.toNat / 8 == 30)=true by simp [h4]]
 simp only [Bool.true_and]
 rfl
theorem udec_first (a:UInt8) (r:List UInt8):(udec (a :: r)).2=max 1 (ufirst (a :: r))∧(((udec (a :: r)).1=65533∧(udec (a :: r)).2=1)↔ufirst (a :: r)=0):=by
 by_cases h1:a.toNat < 128
 · rw [ufirst_lo h1]
   unfold udec
   simp [h1]
   omega
 · rw [ufirst_hi h1]
   by_cases h2:a.toNat / 32=6
   · have hc:uclass a.toNat=some (2,a.toNat - 192,128):=by unfold uclass;rw [if_pos (by omega)]
     rw [hc]
     unfold udec
     match r with
     | [] => simp [h1,h2,uacc,Utf8.runeError]
     | b :: r =>
       by_cases hb:ucont b=true
       · have hbi:=hb
         unfold ucont at hbi
         simp only [Bool.and_eq_true,decide_eq_true_eq] at hbi
         by_cases hn:128≤(a.toNat % 32) * 64+b.toNat % 64
         · have hu:ubad (64 * (a.toNat - 192)+(b.toNat - 128)) 128=false:=by unfold ubad;simp;omega
           simp [h1,h2,uacc,ucont_iff,hb,hn,hu]
         · have hu:ubad (64 * (a.toNat - 192)+(b.toNat - 128)) 128=true:=by unfold ubad;simp;omega
           simp [h1,h2,uacc,ucont_iff,hb,hn,hu,Utf8.runeError]
       · simp [h1,h2,uacc,ucont_iff,hb,Utf8.runeError]
   · by_cases h3:a.toNat / 16=14
     · have hc:uclass a.toNat=some (3,a.toNat - 224,2048):=by unfold uclass;rw [if_neg (by omega),if_pos (by omega)]
       rw [hc]
       match r with
       | [] => simp [udec,h1,uacc,Utf8.runeError]
       | [b] =>
         by_cases hb:ucont b=true
         · simp [udec,h1,h2,uacc,ucont_iff,hb,Utf8.runeError]
         · simp [udec,h1,uacc,ucont_iff,hb,Utf8.runeError]
       | b :: c :: r =>
         rw [udec3 a b c r h1 h2 h3]
         by_cases hb:ucont b=true
         · by_cases hd:ucont c=true
           · have hbi:=hb
             have hdi:=hd
             unfold ucont at hbi hdi
             simp only [Bool.and_eq_true,decide_eq_true_eq] at hbi hdi
             have e:64 * (64 * (a.toNat - 224)+(b.toNat - 128))+(c.toNat - 128)=(a.toNat % 16) * 4096+(b.toNat % 64) * 64+c.toNat % 64:=by omega
             simp only [uacc,hb,hd,e,if_true,Bool.and_self,Nat.add_one_sub_one]
             cases ubad ((a.toNat % 16) * 4096+(b.toNat % 64) * 64+c.toNat % 64) 2048 <;> simp
           · simp [uacc,hb,hd]
         · simp [uacc,hb]
     · by_cases h4:a.toNat / 8=30
       · have hc:uclass a.toNat=some (4,a.toNat - 240,65536):=by unfold uclass;rw [if_neg (by omega),if_neg (by omega),if_pos (by omega)]
         rw [hc]
         match r with
         | [] => simp [udec,h1,uacc,Utf8.runeError]
         | [b] =>
           by_cases hb:ucont b=true
           · simp [udec,h1,h2,uacc,ucont_iff,hb,Utf8.runeError]
           · simp [udec,h1,uacc,ucont_iff,hb,Utf8.runeError]
         | [b,c] => by_cases hb:ucont b=true <;> by_cases hd:ucont c=true <;> simp [udec,h1,h2,h3,uacc,ucont_iff,hb,hd,Utf8.runeError]
         | b :: c :: d :: r =>
           rw [udec4 a b c d r h1 h2 h3 h4]
           by_cases hb:ucont b=true
           · by_cases hd:ucont c=true
             · by_cases hf:ucont d=true
               · have hbi:=hb
                 have hdi:=hd
                 have hfi:=hf
                 unfold ucont at hbi hdi hfi
                 simp only [Bool.and_eq_true,decide_eq_true_eq] at hbi hdi hfi
                 have e:64 * (64 * (64 * (a.toNat - 240)+(b.toNat - 128))+(c.toNat - 128))+(d.toNat - 128)=(a.toNat % 8) * 262144+(b.toNat % 64) * 4096+(c.toNat % 64) * 64+d.toNat % 64:=by omega
                 simp only [uacc,hb,hd,hf,e,if_true,Bool.and_self,Nat.add_one_sub_one]
                 cases ubad ((a.toNat % 8) * 262144+(b.toNat % 64) * 4096+(c.toNat % 64) * 64+d.toNat % 64) 65536 <;> simp
               · simp [uacc,hb,hd,hf]
             · simp [uacc,hb,hd]
           · simp [uacc,hb]
       · have hc:uclass a.toNat=none:=by unfold uclass;rw [if_neg (by omega),if_neg (by omega),if_neg (by omega)]
         rw [hc]
         simp [udec,h1,h2,h3,h4,Utf8.runeError]
theorem decode_first (s:ByteArray) (i:Nat) (h:i < s.size):(Utf8.decode s i).2=max 1 (ufirst (s.data.toList.drop i))∧(((Utf8.decode s i).1=65533∧(Utf8.decode s i).2=1)↔ufirst (s.data.toList.drop i)=0):=by
 rw [decode_list]
 cases hl:s.data.toList.drop i with
 | nil =>
   have:=congrArg List.length hl
   rw [List.length_drop,Array.length_toList] at this
   have e:s.data.size=s.size:=rfl
   simp at this
   omega
 | cons a r => exact udec_first a r
theorem validGo_good:∀ (n:Nat) (l:List UInt8),l.length≤n→Lib.validGoD n l=ugood l
 | 0,l,h => by
   have:l=[]:=List.eq_nil_of_length_eq_zero (by omega)
   subst this
   rw [ugood_nil];rfl
 | n+1,l,h => by
   rw [Lib.validGoD]
   by_cases hl:l=[]
   · rw [if_pos hl,hl,ugood_nil]
   · rw [if_neg hl]
     have hd:(Lib.decodeL l).2=max 1 (ufirst l)∧(((Lib.decodeL l).1=65533∧(Lib.decodeL l).2=1)↔ufirst l=0):=by
      have:=decode_first ⟨l.toArray⟩ 0 (by show 0 < l.toArray.size;rw [List.size_toArray];exact Nat.pos_of_ne_zero fun e => hl (List.eq_nil_of_length_eq_zero e))
      exact this
     by_cases h0:ufirst l=0
     · rw [if_pos (hd.2.2 h0),ugood_zero h0 hl]
     · rw [if_neg (fun e => h0 (hd.2.1 e)),hd.1,ugood_step h0]
       have hk:=ufirst_le h0
       rw [Nat.max_eq_right hk.1]
       exact validGo_good n _ (by rw [List.length_drop];omega)
theorem valid_good (l:List UInt8):Lib.validD l=ugood l:=validGo_good _ l (Nat.le_refl _)
end Go.PM
end
