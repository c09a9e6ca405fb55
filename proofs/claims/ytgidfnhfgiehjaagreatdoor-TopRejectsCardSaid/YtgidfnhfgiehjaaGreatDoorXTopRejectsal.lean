/-
  Texts of the proof, joined: Read2 Read3 Read4 Read5 WBack. Conditions: as each names.
-/
import Derived.Test.YtgidfnhfgiehjaaGreatDoorXTopRejectsak
import Derived.Laws.EntriesVeiled
import Derived.Deep.LoopGhost

section
namespace Go.Proofs.YtgidfnhfgiehjaaGreatDoor
open Go.RowKit Go.PM
set_option maxRecDepth 100000
set_option maxHeartbeats 1500000
attribute [local go_sem ↓] Go.wp_at_zero Go.wp_at_succ
def AllEnd (w:World) (rb cb d a:Nat) (s:ByteArray) (k:Nat) (e:Ending) (w':World):Prop :=
 ∃ (A:Option Addr) (c:Nat),e=.returned (.tuple #[.slice A (fget (lft s k) d a).1.len c,.int .i64 ((fget (lft s k) d a).2:Int)])∧SlV w' (w.heap.size≤·) (.slice A (fget (lft s k) d a).1.len c) (fget (lft s k) d a).1∧Tch (S2 cb rb) w w'
def AllOk (N:Nat):Prop:=∀ (rb cb:Nat) (s:ByteArray) (k d a:Nat) (w:World),s.size - k≤N→d≤8→a≤4294967296→s.size≤1000000→Rdr w rb cb d a→Cur w cb s k→Calls Tryz.prog 81 #[.pointer (some ⟨rb,0,none⟩)] w (AllEnd w rb cb d a s k)
def ListEnd (w:World) (rb cb fb d a t:Nat) (y:Int) (n:Nat) (x:ByteArray) (s:ByteArray) (k:Nat) (e:Ending) (w':World):Prop :=
 ∃ (g k':Nat),e=.returned (.int .i64 (g:Int))∧Tch (S2 cb fb) w w'∧Cur w' cb s k' ∧
  (if (vget (lft s k)).2.2≠0 then g=(vget (lft s k)).2.2 else if s.size - (k+(vget (lft s k)).2.1) < (vget (lft s k)).1 then g=1 else if d=8 then g=9
   else g=(fget ((lft s (k+(vget (lft s k)).2.1)).take (vget (lft s k)).1) (d+1) 0).2∧k'=k+(vget (lft s k)).2.1+(vget (lft s k)).1∧Rdr w' rb cb d a ∧
    ∃ A c,FBx w' fb t y n x (.slice A (fget ((lft s (k+(vget (lft s k)).2.1)).take (vget (lft s k)).1) (d+1) 0).1.len c)∧SlV w' (w.heap.size≤·) (.slice A (fget ((lft s (k+(vget (lft s k)).2.1)).take (vget (lft s k)).1) (d+1) 0).1.len c) (fget ((lft s (k+(vget (lft s k)).2.1)).take (vget (lft s k)).1) (d+1) 0).1)
theorem list_any {N:Nat} (hall:AllOk N) (rb cb fb d a t n:Nat) (y:Int) (x:ByteArray) (v:Value) (s:ByteArray) (k:Nat) (w:World) (hr:Rdr w rb cb d a) (hc:Cur w cb s k) (hf:FBx w fb t y n x v) (hN:s.size - k≤N+1) (hs:s.size≤1000000) (hd:d≤8) :
 Calls Tryz.prog 177 #[.pointer (some ⟨rb,0,none⟩),.pointer (some ⟨fb,0,none⟩)] w (ListEnd w rb cb fb d a t y n x s k):=by
 have HALL:=Lib.hid hall
 have HR:=Lib.hid hr
 have HC:=Lib.hid hc
 have HF:=Lib.hid hf
 have r0:=hr.cell 0
 simp at r0
 clear hr hc hf hall
 go_enter Tryz.func177,Tryz.ntmps177
 go_wp2_with fail
 refine (next_any cb s k _ HC.out).mono ?_
 rintro e w1 ⟨rfl,hc1,hg⟩
 have hr1:=HR.out.grown HC.out hg
 have hf1:=HF.out.grown HC.out hg
 have ht1:Tch (S2 cb fb) w w1:=Tch.grown hg (fun g e _ => by injection e with e;exact .inl e.symm)
 rw [show s.data.toList.drop k=lft s k from rfl] at hc1 ⊢
 have r0:=hr1.cell 0
 have r1:=hr1.cell 1
 have r2:=hr1.cell 2
 have x4:=hf1.cell 4
 have y4:=hf1.free 4
 simp at r0 r1 r2 x4
 by_cases hv:(vget (lft s k)).2.2=0
 · obtain ⟨v1,v2,v3,v4,v5⟩:=vget_ok hv
   rw [lft_length] at v2
   have hz:=hc1.2.2
   by_cases hbig:s.size - (k+(vget (lft s k)).2.1) < (vget (lft s k)).1
   · have HE:Hid (∀ w',Below w1.heap.size w1 w'→ListEnd w rb cb fb d a t y n x s k (.returned (.int .i64 1)) w'):=fun w' hb => ⟨1,_,rfl,ht1.bel hb,⟨hc1.1.below hb hc1.1.lt,hc1.2⟩,by rw [if_neg (by omega),if_pos hbig]⟩
     have htk:=cur_sub_no cb s _ ((vget (lft s k)).1:Int) w1 hc1 (by omega) (by omega)
     have HTK:=Lib.hid htk
     rw [hv]
     clear htk hv v1 v2 v3 v4 v5 hr1 hf1 hc1 hg ht1 hbig hz
     generalize (vget (lft s k)).1=V at *
     generalize (vget (lft s k)).2.1=M at *
     go_wp2_with fail
     refine HTK.out.mono ?_
     rintro e w2 ⟨rfl,hb2⟩
     go_wp2_with fail
     go_ret
     exact HE.out _ hb2
   · have htk:=cur_sub_yes cb s _ ((vget (lft s k)).1:Int) w1 hc1 (by omega) (by omega)
     rw [Int.toNat_natCast,show s.extract (k+(vget (lft s k)).2.1) (k+(vget (lft s k)).2.1+(vget (lft s k)).1)=txt ((lft s (k+(vget (lft s k)).2.1)).take (vget (lft s k)).1) from txt_eq (lft_take s _ _)] at htk
     have HTK:=Lib.hid htk
     have hX:∀ w2,w1.grownBy w2 (some cb)→Rdr w2 rb cb d a∧FBx w2 fb t y n x v∧Tch (S2 cb fb) w w2:=fun w2 hg2 => ⟨hr1.grown hc1 hg2,hf1.grown hc1 hg2,ht1.trans (Tch.grown (S:=S2 cb fb) hg2 (fun g e _ => by injection e with e;exact .inl e.symm)) fun _ _ h => h⟩
     have HX:=Lib.hid hX
     by_cases h8:d=8
     · subst h8
       have HE:Hid (∀ w2,Cur w2 cb s (k+(vget (lft s k)).2.1+(vget (lft s k)).1)→w1.grownBy w2 (some cb)→ListEnd w rb cb fb 8 a t y n x s k (.returned (.int .i64 9)) w2):=fun w2 hc2 hg2 =>
        ⟨9,_,rfl,(hX w2 hg2).2.2,hc2,by rw [if_neg (by omega),if_neg hbig,if_pos rfl]⟩
       rw [hv]
       clear htk hv v1 v2 v3 v4 v5 hr1 hf1 hc1 hg ht1 hbig hz hX
       generalize txt ((lft s (k+(vget (lft s k)).2.1)).take (vget (lft s k)).1)=Z at *
       generalize (vget (lft s k)).1=V at *
       generalize (vget (lft s k)).2.1=M at *
       go_wp2_with fail
       refine HTK.out.mono ?_
       rintro e w2 ⟨g,rfl,hgs,hcg,hc2,hg2⟩
       have hr2:=(HX.out w2 hg2).1
       have e1:=hr2.cell 1
       simp at e1
       have HE2:=Lib.hid (HE.out w2 hc2 hg2)
       clear hc2 hg2 hcg hr2
       go_wp2_with fail
       go_ret
       exact HE2.out
     · have hul:((lft s (k+(vget (lft s k)).2.1)).take (vget (lft s k)).1).length=(vget (lft s k)).1:=by rw [List.length_take,lft_length];omega
       have hvN:(vget (lft s k)).1≤N∧(vget (lft s k)).1≤1000000:=by omega
       obtain ⟨hvN1,hvN2⟩:=hvN
       have hlu:∀ U:List UInt8,lft (txt U) 0=U:=fun U => rfl
       have HE:Hid (∀ (w2 w4:World) (q:Nat) (A:Option Addr) (c:Nat),Cur w2 cb s (k+(vget (lft s k)).2.1+(vget (lft s k)).1)→w1.grownBy w2 (some cb)→w1.heap.size≤q→q < w2.heap.size →
        SlV w4 (w2.heap.size+1≤·) (.slice A (fget ((lft s (k+(vget (lft s k)).2.1)).take (vget (lft s k)).1) (d+1) 0).1.len c) (fget ((lft s (k+(vget (lft s k)).2.1)).take (vget (lft s k)).1) (d+1) 0).1 →
        Tch (S2 q w2.heap.size) (w2.alloc (.cells #[.pointer (some ⟨q,0,none⟩),.int .i64 ((d:Int)+1),.int .u64 0] 151)) w4 →
        w4.cell? ⟨fb,4,none⟩=some v∧w4.frozen? ⟨fb,4,none⟩=false∧ListEnd w rb cb fb d a t y n x s k (.returned (.int .i64 ((fget ((lft s (k+(vget (lft s k)).2.1)).take (vget (lft s k)).1) (d+1) 0).2:Int))) (w4.setCell ⟨fb,4,none⟩ (.slice A (fget ((lft s (k+(vget (lft s k)).2.1)).take (vget (lft s k)).1) (d+1) 0).1.len c))):=fun w2 w4 q A c hc2 hg2 hq1 hq2 hs4 ht4 => by
        obtain ⟨hr2,hf2,ht2⟩:=hX w2 hg2
        have hsz:=hg2.size
        have hsz1:=hg.size
        have hcl:=hc1.1.lt
        have hfl:=hf1.lt
        have hrl:=hr1.lt
        have hn:∀ j,j < w1.heap.size→¬ S2 q w2.heap.size j:=fun j hj h => by rcases h with h | h <;> omega
        have hr4:=(BlkAt.more hr2 (.cells #[.pointer (some ⟨q,0,none⟩),.int .i64 ((d:Int)+1),.int .u64 0] 151)).tch ht4 (hn rb hrl)
        have hf4:=(BlkAt.more hf2 (.cells #[.pointer (some ⟨q,0,none⟩),.int .i64 ((d:Int)+1),.int .u64 0] 151)).tch ht4 (hn fb hfl)
        have hc4:=(BlkAt.more hc2.1 (.cells #[.pointer (some ⟨q,0,none⟩),.int .i64 ((d:Int)+1),.int .u64 0] 151)).tch ht4 (hn cb hcl)
        have htw:Tch (S2 cb fb) w w4:=(ht2.more _).trans ht4 fun j hj h => absurd h (hn j (by omega))
        have hne1:rb≠fb:=BlkAt.apart hr4 hf4 (by decide)
        have hne2:cb≠fb:=BlkAt.apart hc4 hf4 (by decide)
        have e4:=hf4.cell 4
        simp at e4
        refine ⟨e4,hf4.free 4,_,_,rfl,htw.put (p:=⟨fb,4,none⟩) (fun _ => .inr rfl) _,⟨BlkAt.far (p:=⟨fb,4,none⟩) hc4 hne2 _,hc2.2⟩,?_⟩
        rw [if_neg (by omega),if_neg hbig,if_neg h8]
        refine ⟨rfl,rfl,BlkAt.far (p:=⟨fb,4,none⟩) hr4 hne1 _,A,c,BlkAt.put hf4 4 _,?_⟩
        have h5:=hs4.tch ((Tch.refl (fun j => j=fb) w4).put (p:=⟨fb,4,none⟩) (fun _ => rfl) (.slice A (fget ((lft s (k+(vget (lft s k)).2.1)).take (vget (lft s k)).1) (d+1) 0).1.len c)) (fun j hj e => by omega)
        exact h5.imp fun j hj => by omega
       have HAL:Hid (∀ (w2:World) (q:Nat),q < w2.heap.size→Cur w2 q (txt ((lft s (k+(vget (lft s k)).2.1)).take (vget (lft s k)).1)) 0 →
        Calls Tryz.prog 81 #[.pointer (some ⟨w2.heap.size,0,none⟩)] (w2.alloc (.cells #[.pointer (some ⟨q,0,none⟩),.int .i64 ((d:Int)+1),.int .u64 0] 151)) fun e w4 => ∃ A c,e=.returned (.tuple #[.slice A (fget ((lft s (k+(vget (lft s k)).2.1)).take (vget (lft s k)).1) (d+1) 0).1.len c,.int .i64 ((fget ((lft s (k+(vget (lft s k)).2.1)).take (vget (lft s k)).1) (d+1) 0).2:Int)]) ∧
         SlV w4 (w2.heap.size+1≤·) (.slice A (fget ((lft s (k+(vget (lft s k)).2.1)).take (vget (lft s k)).1) (d+1) 0).1.len c) (fget ((lft s (k+(vget (lft s k)).2.1)).take (vget (lft s k)).1) (d+1) 0).1∧Tch (S2 q w2.heap.size) (w2.alloc (.cells #[.pointer (some ⟨q,0,none⟩),.int .i64 ((d:Int)+1),.int .u64 0] 151)) w4):=fun w2 q hq hcq => by
        have hrd:Rdr (w2.alloc (.cells #[.pointer (some ⟨q,0,none⟩),.int .i64 ((d:Int)+1),.int .u64 0] 151)) w2.heap.size q (d+1) 0:=BlkAt.made w2 151 #[.pointer (some ⟨q,0,none⟩),.int .i64 ((d:Int)+1),.int .u64 0]
        have h1:=HALL.out w2.heap.size q (txt ((lft s (k+(vget (lft s k)).2.1)).take (vget (lft s k)).1)) 0 (d+1) 0 (w2.alloc (.cells #[.pointer (some ⟨q,0,none⟩),.int .i64 ((d:Int)+1),.int .u64 0] 151)) (by rw [txt_size,hul];omega) (by omega) (by omega) (by rw [txt_size,hul];exact hvN2) hrd ⟨hcq.1.more _,hcq.2⟩
        refine h1.mono fun e w4 h => ?_
        unfold AllEnd at h
        rw [hlu,World.size_alloc] at h
        exact h
       have hdi:(d:Int) < 8:=by omega
       rw [hv]
       clear htk hv v1 v2 v3 v4 v5 hr1 hf1 hc1 hg ht1 hbig hz hX hul hlu
       generalize (fget ((lft s (k+(vget (lft s k)).2.1)).take (vget (lft s k)).1) (d+1) 0).2=G at *
       generalize (fget ((lft s (k+(vget (lft s k)).2.1)).take (vget (lft s k)).1) (d+1) 0).1=F at *
       generalize txt ((lft s (k+(vget (lft s k)).2.1)).take (vget (lft s k)).1)=Z at *
       generalize (vget (lft s k)).1=V at *
       generalize (vget (lft s k)).2.1=M at *
       go_wp2_with fail
       refine HTK.out.mono ?_
       rintro e w2 ⟨q,rfl,hqs,hcq,hc2,hg2⟩
       have hql:=hcq.1.lt
       have hr2:=(HX.out w2 hg2).1
       have e1:=hr2.cell 1
       simp at e1
       have HCQ:=Lib.hid hcq
       have HE2:=Lib.hid (fun w4 A c => HE.out w2 w4 q A c hc2 hg2 hqs hql)
       clear hc2 hg2 hcq hr2
       go_wp2_with fail
       refine (HAL.out w2 q hql HCQ.out).mono ?_
       rintro e w4 ⟨A,c,rfl,hs4,ht4⟩
       obtain ⟨z4,z5,hle⟩:=HE2.out w4 A c hs4 ht4
       have HLE:=Lib.hid hle
       clear hs4 ht4 hle
       go_wp2_with fail
       go_ret
       exact HLE.out
 · have HE:Hid (ListEnd w rb cb fb d a t y n x s k (.returned (.int .i64 ((vget (lft s k)).2.2:Int))) w1):=⟨_,_,rfl,ht1,hc1,by rw [if_pos hv]⟩
   generalize (vget (lft s k)).2.2=G at *
   generalize (vget (lft s k)).1=V at *
   have hgi:((G:Int) != 0)=true:=by rw [bne_iff_ne];omega
   clear hr1 hf1 hc1 hg ht1 hv
   go_wp2_with fail
   go_ret
   exact HE.out
end Go.Proofs.YtgidfnhfgiehjaaGreatDoor
end

section
namespace Go.Proofs.YtgidfnhfgiehjaaGreatDoor
open Go.RowKit Go.PM
set_option maxRecDepth 100000
set_option maxHeartbeats 1500000
attribute [local go_sem ↓] Go.wp_at_zero Go.wp_at_succ
theorem and3 (m:Nat) (h:In64 m):bits .and .u64 (m:Int) 3=((m % 4:Nat):Int):=by
 have:=bits_and_u64_nat m 3 h.out (by omega)
 rw [show (3:Nat)=2 ^ 2 - 1 from rfl,Nat.and_two_pow_sub_one_eq_mod] at this
 simpa using this
def RNextEnd (w:World) (rb cb d a:Nat) (s:ByteArray) (k:Nat) (e:Ending) (w':World):Prop :=
 Tch (S2 cb rb) w w'∧(((ffirst (lft s k) d a).2.2≠0∧e=.returned (.tuple #[.agg #[.int .u64 0,.int .i64 0,.int .u64 0,.string ByteArray.empty,.slice none 0 0],.int .i64 ((ffirst (lft s k) d a).2.2:Int)])) ∨
  ∃ (t n m:Nat) (y:Int) (x:ByteArray) (i:Fs) (A:Option Addr) (c:Nat),ffirst (lft s k) d a=(.cons t y n x i .nil,m,0)∧e=.returned (.tuple #[.agg #[.int .u64 (t:Int),.int .i64 y,.int .u64 (n:Int),.string x,.slice A i.len c],.int .i64 0]) ∧
   Cur w' cb s (k+m)∧Rdr w' rb cb d t∧SlV w' (w.heap.size≤·) (.slice A i.len c) i)
def WayEnd (w3:World) (rb cb fb d a T:Nat) (Y:Int) (s:ByteArray) (k:Nat) (e:Ending) (w4:World):Prop :=
 ∃ g m:Nat,e=.returned (.int .i64 (g:Int))∧Tch (S2 cb fb) w3 w4∧(g≠0∧ffirst (lft s k) d a=(.nil,0,g) ∨
  g=0∧∃ (n:Nat) (x:ByteArray) (i:Fs) (A:Option Addr) (c:Nat),ffirst (lft s k) d a=(.cons T Y n x i .nil,m,0)∧Cur w4 cb s (k+m)∧Rdr w4 rb cb d T∧FBx w4 fb T Y n x (.slice A i.len c)∧SlV w4 (w3.heap.size≤·) (.slice A i.len c) i)
theorem way_num {w3 w4:World} {rb cb fb d a T M k:Nat} {s:ByteArray} {e:Ending}
 (hf:ffirst (lft s k) d a=if (vget (lft s (k+M))).2.2≠0 then (.nil,0,(vget (lft s (k+M))).2.2) else (.cons T 0 (vget (lft s (k+M))).1 ByteArray.empty .nil .nil,M+(vget (lft s (k+M))).2.1,0))
 (h:NumEnd w3 rb cb fb d T T 0 ⟨#[]⟩ (.slice none 0 0) s (k+M) e w4):WayEnd w3 rb cb fb d a T 0 s k e w4:=by
 obtain ⟨rfl,h1,h2,h3,h4⟩:=h
 by_cases hv:(vget (lft s (k+M))).2.2=0
 · rw [if_neg (by rw [hv];simp)] at hf
   refine ⟨0,M+(vget (lft s (k+M))).2.1,by rw [hv],h4,.inr ⟨rfl,_,_,.nil,none,0,hf,by rw [← Nat.add_assoc];exact h1,h3,h2,SlV.nil _ _ _ _⟩⟩
 · rw [if_pos hv] at hf
   exact ⟨_,0,rfl,h4,.inl ⟨hv,hf⟩⟩
theorem way_text {w3 w4:World} {rb cb fb d a T M k:Nat} {s:ByteArray} {e:Ending}
 (hf:ffirst (lft s k) d a=if (vget (lft s (k+M))).2.2≠0 then (.nil,0,(vget (lft s (k+M))).2.2) else if (lft s k).length - (M+(vget (lft s (k+M))).2.1) < (vget (lft s (k+M))).1 then (.nil,0,1)
   else (.cons T 1 0 (txt (((lft s k).drop (M+(vget (lft s (k+M))).2.1)).take (vget (lft s (k+M))).1)) .nil .nil,M+(vget (lft s (k+M))).2.1+(vget (lft s (k+M))).1,0))
 (h:TextEnd w3 rb cb fb d T T 1 0 (.slice none 0 0) s (k+M) e w4):WayEnd w3 rb cb fb d a T 1 s k e w4:=by
 obtain ⟨g,k',rfl,h1,h2,h3⟩:=h
 rw [lft_length,lft_drop] at hf
 by_cases hv:(vget (lft s (k+M))).2.2=0
 · rw [if_neg (by rw [hv];simp)] at hf h3
   have e1:(s.size - k - (M+(vget (lft s (k+M))).2.1) < (vget (lft s (k+M))).1)↔(s.size - (k+M+(vget (lft s (k+M))).2.1) < (vget (lft s (k+M))).1):=by omega
   by_cases hb:s.size - (k+M+(vget (lft s (k+M))).2.1) < (vget (lft s (k+M))).1
   · rw [if_pos (e1.2 hb)] at hf
     rw [if_pos hb] at h3
     subst h3
     exact ⟨1,0,rfl,h1,.inl ⟨by decide,hf⟩⟩
   · rw [if_neg (fun h => hb (e1.1 h))] at hf
     rw [if_neg hb] at h3
     obtain ⟨rfl,rfl,h4,h5⟩:=h3
     rw [← Nat.add_assoc k M] at hf
     exact ⟨0,_,rfl,h1,.inr ⟨rfl,_,_,.nil,none,0,hf,by rw [← Nat.add_assoc,← Nat.add_assoc];exact h2,h4,h5,SlV.nil _ _ _ _⟩⟩
 · rw [if_pos hv] at hf h3
   subst h3
   exact ⟨_,0,rfl,h1,.inl ⟨hv,hf⟩⟩
theorem way_list {w3 w4:World} {rb cb fb d a T M k:Nat} {s:ByteArray} {e:Ending}
 (hf:ffirst (lft s k) d a=if (vget (lft s (k+M))).2.2≠0 then (.nil,0,(vget (lft s (k+M))).2.2) else if (lft s k).length - (M+(vget (lft s (k+M))).2.1) < (vget (lft s (k+M))).1 then (.nil,0,1)
   else if d=8 then (.nil,0,9) else if (fget (((lft s k).drop (M+(vget (lft s (k+M))).2.1)).take (vget (lft s (k+M))).1) (d+1) 0).2≠0 then (.nil,0,(fget (((lft s k).drop (M+(vget (lft s (k+M))).2.1)).take (vget (lft s (k+M))).1) (d+1) 0).2)
   else (.cons T 2 0 ByteArray.empty (fget (((lft s k).drop (M+(vget (lft s (k+M))).2.1)).take (vget (lft s (k+M))).1) (d+1) 0).1 .nil,M+(vget (lft s (k+M))).2.1+(vget (lft s (k+M))).1,0))
 (h:ListEnd w3 rb cb fb d T T 2 0 ⟨#[]⟩ s (k+M) e w4):WayEnd w3 rb cb fb d a T 2 s k e w4:=by
 obtain ⟨g,k',rfl,h1,h2,h3⟩:=h
 rw [lft_length,lft_drop,← Nat.add_assoc k M] at hf
 by_cases hv:(vget (lft s (k+M))).2.2=0
 · rw [if_neg (by rw [hv];simp)] at hf h3
   have e1:(s.size - k - (M+(vget (lft s (k+M))).2.1) < (vget (lft s (k+M))).1)↔(s.size - (k+M+(vget (lft s (k+M))).2.1) < (vget (lft s (k+M))).1):=by omega
   by_cases hb:s.size - (k+M+(vget (lft s (k+M))).2.1) < (vget (lft s (k+M))).1
   · rw [if_pos (e1.2 hb)] at hf
     rw [if_pos hb] at h3
     subst h3
     exact ⟨1,0,rfl,h1,.inl ⟨by decide,hf⟩⟩
   · rw [if_neg (fun h => hb (e1.1 h))] at hf
     rw [if_neg hb] at h3
     by_cases h8:d=8
     · rw [if_pos h8] at hf h3
       subst h3
       exact ⟨9,0,rfl,h1,.inl ⟨by decide,hf⟩⟩
     · rw [if_neg h8] at hf h3
       obtain ⟨h3,rfl,h4,A,c,h5,h6⟩:=h3
       by_cases hg:g=0
       · rw [← h3,if_neg (by rw [hg];simp)] at hf
         exact ⟨g,_,rfl,h1,.inr ⟨hg,_,_,_,A,c,hf,by rw [← Nat.add_assoc,← Nat.add_assoc];exact h2,h4,h5,h6⟩⟩
       · rw [← h3,if_pos hg] at hf
         exact ⟨g,0,rfl,h1,.inl ⟨hg,hf⟩⟩
 · rw [if_pos hv] at hf h3
   subst h3
   exact ⟨_,0,rfl,h1,.inl ⟨hv,hf⟩⟩
theorem res_tch (w4:World) (b:Nat) (v0 v1 v2 v3 v4:Value):Tch (fun j => j=b) w4 (((((w4.setCell ⟨b,0,none⟩ v0).setCell ⟨b,1,none⟩ v1).setCell ⟨b,2,none⟩ v2).setCell ⟨b,3,none⟩ v3).setCell ⟨b,4,none⟩ v4) :=
 (((((Tch.refl (fun j => j=b) w4).put (p:=⟨b,0,none⟩) (fun _ => rfl) v0).put (p:=⟨b,1,none⟩) (fun _ => rfl) v1).put (p:=⟨b,2,none⟩) (fun _ => rfl) v2).put (p:=⟨b,3,none⟩) (fun _ => rfl) v3).put (p:=⟨b,4,none⟩) (fun _ => rfl) v4
theorem rnext_any {N:Nat} (hall:AllOk N) (rb cb d a:Nat) (s:ByteArray) (k:Nat) (w:World) (hr:Rdr w rb cb d a) (hc:Cur w cb s k) (hN:s.size - k≤N+1) (hs:s.size≤1000000) (hd:d≤8) :
 Calls Tryz.prog 136 #[.pointer (some ⟨rb,0,none⟩)] w (RNextEnd w rb cb d a s k):=by
 have HALL:=Lib.hid hall
 have hrl:=hr.lt
 have hcl:=hc.1.lt
 have hbA:=ba (a:=w) b0 (.cells #[.int .u64 0,.int .i64 0,.int .u64 0,.string ByteArray.empty,.slice none 0 0] 47)
 have hrA:Rdr (w.alloc (.cells #[.int .u64 0,.int .i64 0,.int .u64 0,.string ByteArray.empty,.slice none 0 0] 47)) rb cb d a:=BlkAt.more hr _
 have hcA:Cur (w.alloc (.cells #[.int .u64 0,.int .i64 0,.int .u64 0,.string ByteArray.empty,.slice none 0 0] 47)) cb s k:=⟨hc.1.more _,hc.2⟩
 have hxA:=BlkAt.made w 47 #[.int .u64 0,.int .i64 0,.int .u64 0,.string ByteArray.empty,.slice none 0 0]
 have r0:=hr.cell 0
 simp at r0
 have HRA:=Lib.hid hrA
 have HCA:=Lib.hid hcA
 have HXA:=Lib.hid hxA
 have HBA:=Lib.hid hbA
 clear hr hc hall hbA hrA hcA hxA
 go_enter Tryz.func136,Tryz.ntmps136
 go_wp2_with fail
 refine (next_any cb s k _ HCA.out).mono ?_
 rintro e w1 ⟨rfl,hc1,hg⟩
 have hr1:=HRA.out.grown HCA.out hg
 have hx1:=HXA.out.step hg (by intro e;injection e with e;omega)
 have ht1:Tch (S2 cb rb) w w1:=(Tch.below HBA.out).trans (Tch.grown (S:=S2 cb rb) hg (fun g e _ => by injection e with e;exact .inl e.symm)) fun _ _ h => h
 have hs1:=hg.size
 simp only [World.size_alloc] at hs1
 rw [show s.data.toList.drop k=lft s k from rfl] at hc1 ⊢
 have c0:=hx1.cell 0
 have c1:=hx1.cell 1
 have c2:=hx1.cell 2
 have c3:=hx1.cell 3
 have c4:=hx1.cell 4
 have f0:=hx1.free 0
 have f1:=hx1.free 1
 have f2:=hx1.free 2
 have f3:=hx1.free 3
 have f4:=hx1.free 4
 simp at c0 c1 c2 c3 c4
 by_cases hv:(vget (lft s k)).2.2=0
 · obtain ⟨v1,v2,v3,v4,v5⟩:=vget_ok hv
   rw [lft_length] at v2
   have hand:=and3 (vget (lft s k)).1 v4
   obtain ⟨T,hT⟩:∃ T,T=(vget (lft s k)).1 / 4:=⟨_,rfl⟩
   obtain ⟨Y,hY⟩:∃ Y,Y=(vget (lft s k)).1 % 4:=⟨_,rfl⟩
   have hq:((vget (lft s k)).1:Int) / 4=(T:Int):=by omega
   rw [← hY] at hand
   rw [hv]
   generalize hVV:(vget (lft s k)).1=V at *
   generalize hMM:(vget (lft s k)).2.1=M at *
   have HV:=Lib.hid hVV
   have HM:=Lib.hid hMM
   have HVE:=Lib.hid hv
   have HTY:=Lib.hid (And.intro hT hY)
   have hY4:Y≤3:=by omega
   have hT62:T≤4611686018427387904:=by omega
   clear hVV hMM hv hT hY
   have hlw:w.heap.size < w1.heap.size:=by omega
   have hlw2:w.heap.size < w1.heap.size+1:=by omega
   have hrl1:rb < w1.heap.size:=by omega
   have hrl2:rb < w1.heap.size+1:=by omega
   have HEE:Hid (∀ (g:Nat) (w':World),ffirst (lft s k) d a=(.nil,0,g)→g≠0→Tch (fun j => j=w.heap.size) w1 w'→RNextEnd w rb cb d a s k (.returned (.tuple #[.agg #[.int .u64 0,.int .i64 0,.int .u64 0,.string ByteArray.empty,.slice none 0 0],.int .i64 (g:Int)])) w'):=fun g w' hf hg0 ht =>
    ⟨ht1.trans ht fun g hg' e => by omega,.inl ⟨by rw [hf];exact hg0,by rw [hf]⟩⟩
   have hff:ffirst (lft s k) d a=fone (fun t => fget t (d+1) 0) (lft s k) d a:=rfl
   unfold fone at hff
   rw [if_neg (by rw [HVE.out];simp),HV.out,HM.out,← HTY.out.1,← HTY.out.2] at hff
   have q0:=hr1.cell 0
   have q1:=hr1.cell 1
   have q2:=hr1.cell 2
   have p2:=hr1.free 2
   simp at q0 q1 q2
   have HFF:=Lib.hid hff
   have HR1:=Lib.hid hr1
   have HC1:=Lib.hid hc1
   have HX1:=Lib.hid hx1
   have HT1:=Lib.hid ht1
   clear hff hr1 hc1 hx1 ht1 hg
   by_cases t0:T=0∨4294967296 < T
   · have hf:=HFF.out
     rw [if_pos t0] at hf
     have HE:Hid (∀ w',Tch (fun j => j=w.heap.size) w1 w'→RNextEnd w rb cb d a s k (.returned (.tuple #[.agg #[.int .u64 0,.int .i64 0,.int .u64 0,.string ByteArray.empty,.slice none 0 0],.int .i64 18])) w'):=fun w' ht => HEE.out 18 w' hf (by decide) ht
     clear hf
     rcases t0 with rfl | t0
     · go_wp2_with fail
       refine bodyPost_ret (v:=.tuple #[.agg #[.int .u64 0,.int .i64 0,.int .u64 0,.string ByteArray.empty,.slice none 0 0],.int .i64 18]) (by simp [results,Tryz.results136,go_sem,c0,c1,c2,c3,c4,hlw,hlw2];try rfl) rfl (HE.out _ (((res_tch _ _ _ _ _ _ _).more _).more _))
     · have ti0:((T:Int) == 0)=false:=by rw [beq_eq_false_iff_ne];omega
       go_wp2_with fail
       refine bodyPost_ret (v:=.tuple #[.agg #[.int .u64 0,.int .i64 0,.int .u64 0,.string ByteArray.empty,.slice none 0 0],.int .i64 18]) (by simp [results,Tryz.results136,go_sem,c0,c1,c2,c3,c4,hlw,hlw2];try rfl) rfl (HE.out _ (((res_tch _ _ _ _ _ _ _).more _).more _))
   · have ti0:((T:Int) == 0)=false:=by rw [beq_eq_false_iff_ne];omega
     have ti1:decide ((4294967296:Int) < (T:Int))=false:=by simp;omega
     have hf:=HFF.out
     rw [if_neg t0] at hf
     by_cases y3:Y=3
     · subst y3
       rw [if_pos rfl] at hf
       have HE:Hid (∀ w',Tch (fun j => j=w.heap.size) w1 w'→RNextEnd w rb cb d a s k (.returned (.tuple #[.agg #[.int .u64 0,.int .i64 0,.int .u64 0,.string ByteArray.empty,.slice none 0 0],.int .i64 8])) w'):=fun w' ht => HEE.out 8 w' hf (by decide) ht
       clear hf
       go_wp2_with fail
       refine bodyPost_ret (v:=.tuple #[.agg #[.int .u64 0,.int .i64 0,.int .u64 0,.string ByteArray.empty,.slice none 0 0],.int .i64 8]) (by simp [results,Tryz.results136,go_sem,c0,c1,c2,c3,c4,hlw,hlw2];try rfl) rfl (HE.out _ (((res_tch _ _ _ _ _ _ _).more _).more _))
     rw [if_neg y3] at hf
     have hy3:(Y:Int) < 3:=by omega
     by_cases hta:T≤a
     · rw [if_pos hta] at hf
       have HE:Hid (∀ w',Tch (fun j => j=w.heap.size) w1 w'→RNextEnd w rb cb d a s k (.returned (.tuple #[.agg #[.int .u64 0,.int .i64 0,.int .u64 0,.string ByteArray.empty,.slice none 0 0],.int .i64 7])) w'):=fun w' ht => HEE.out 7 w' hf (by decide) ht
       clear hf
       go_wp2_with fail
       go_quiet (fail)
       go_wp2_with fail
       refine bodyPost_ret (v:=.tuple #[.agg #[.int .u64 0,.int .i64 0,.int .u64 0,.string ByteArray.empty,.slice none 0 0],.int .i64 7]) (by simp [results,Tryz.results136,go_sem,c0,c1,c2,c3,c4,hlw,hlw2];try rfl) rfl (HE.out _ (((((Tch.refl _ w1).more _).more _).drn nq).trans (res_tch _ _ _ _ _ _ _) (fun _ _ h => h)))
     rw [if_neg hta] at hf
     rw [lft_drop] at hf
     have HF:=Lib.hid hf
     have hta':decide ((T:Int)≤(a:Int))=false:=by simp;omega
     have HK:Hid (∀ nq:Nat,Rdr ((((w1.alloc (.cells #[.func (.func 175) #[] #[],.func (.func 176) #[] #[],.func (.func 177) #[] #[]] 266)).alloc (.cells #[.int .u64 (T:Int),.int .i64 (Y:Int),.int .u64 0,.string ⟨#[]⟩,.slice none 0 0] 47)).drewN nq).setCell ⟨rb,2,none⟩ (.int .u64 (T:Int))) rb cb d T ∧
      Cur ((((w1.alloc (.cells #[.func (.func 175) #[] #[],.func (.func 176) #[] #[],.func (.func 177) #[] #[]] 266)).alloc (.cells #[.int .u64 (T:Int),.int .i64 (Y:Int),.int .u64 0,.string ⟨#[]⟩,.slice none 0 0] 47)).drewN nq).setCell ⟨rb,2,none⟩ (.int .u64 (T:Int))) cb s (k+M) ∧
      FBx ((((w1.alloc (.cells #[.func (.func 175) #[] #[],.func (.func 176) #[] #[],.func (.func 177) #[] #[]] 266)).alloc (.cells #[.int .u64 (T:Int),.int .i64 (Y:Int),.int .u64 0,.string ⟨#[]⟩,.slice none 0 0] 47)).drewN nq).setCell ⟨rb,2,none⟩ (.int .u64 (T:Int))) (w1.heap.size+1) T (Y:Int) 0 ⟨#[]⟩ (.slice none 0 0) ∧
      BlkAt ((((w1.alloc (.cells #[.func (.func 175) #[] #[],.func (.func 176) #[] #[],.func (.func 177) #[] #[]] 266)).alloc (.cells #[.int .u64 (T:Int),.int .i64 (Y:Int),.int .u64 0,.string ⟨#[]⟩,.slice none 0 0] 47)).drewN nq).setCell ⟨rb,2,none⟩ (.int .u64 (T:Int))) w.heap.size 47 #[.int .u64 0,.int .i64 0,.int .u64 0,.string ByteArray.empty,.slice none 0 0] ∧
      Tch (S2 cb rb) w ((((w1.alloc (.cells #[.func (.func 175) #[] #[],.func (.func 176) #[] #[],.func (.func 177) #[] #[]] 266)).alloc (.cells #[.int .u64 (T:Int),.int .i64 (Y:Int),.int .u64 0,.string ⟨#[]⟩,.slice none 0 0] 47)).drewN nq).setCell ⟨rb,2,none⟩ (.int .u64 (T:Int)))):=fun nq => by
      have e1:=((BlkAt.more (BlkAt.more HR1.out (.cells #[.func (.func 175) #[] #[],.func (.func 176) #[] #[],.func (.func 177) #[] #[]] 266)) (.cells #[.int .u64 (T:Int),.int .i64 (Y:Int),.int .u64 0,.string ⟨#[]⟩,.slice none 0 0] 47)).drn nq).put 2 (.int .u64 (T:Int))
      have hne:cb≠rb:=BlkAt.apart HC1.out.1 HR1.out (by decide)
      have e2:=BlkAt.far (p:=⟨rb,2,none⟩) (((HC1.out.1.more (.cells #[.func (.func 175) #[] #[],.func (.func 176) #[] #[],.func (.func 177) #[] #[]] 266)).more (.cells #[.int .u64 (T:Int),.int .i64 (Y:Int),.int .u64 0,.string ⟨#[]⟩,.slice none 0 0] 47)).drn nq) hne (.int .u64 (T:Int))
      have e3:=BlkAt.made (w1.alloc (.cells #[.func (.func 175) #[] #[],.func (.func 176) #[] #[],.func (.func 177) #[] #[]] 266)) 47 #[.int .u64 (T:Int),.int .i64 (Y:Int),.int .u64 0,.string ⟨#[]⟩,.slice none 0 0]
      rw [World.size_alloc] at e3
      have e4:=BlkAt.far (p:=⟨rb,2,none⟩) (e3.drn nq) (show w1.heap.size+1≠rb by omega) (.int .u64 (T:Int))
      have e5:=BlkAt.far (p:=⟨rb,2,none⟩) (((HX1.out.more (.cells #[.func (.func 175) #[] #[],.func (.func 176) #[] #[],.func (.func 177) #[] #[]] 266)).more (.cells #[.int .u64 (T:Int),.int .i64 (Y:Int),.int .u64 0,.string ⟨#[]⟩,.slice none 0 0] 47)).drn nq) (show w.heap.size≠rb by omega) (.int .u64 (T:Int))
      exact ⟨e1,⟨e2,HC1.out.2⟩,e4,e5,(((HT1.out.more _).more _).drn nq).put (p:=⟨rb,2,none⟩) (fun _ => .inr rfl) _⟩
     have hs1':w.heap.size≠w1.heap.size+1:=by omega
     clear hf
     have hY012:Y=0∨Y=1∨Y=2:=by omega
     rcases hY012 with rfl | rfl | rfl
     · have hf2:=HF.out
       rw [if_pos rfl] at hf2
       have HF2:=Lib.hid hf2
       clear hf2
       go_wp2_with fail
       go_quiet (fail)
       go_wp2_with fail
       have HK4:=Lib.hid (HK.out nq)
       refine (num_any rb cb (w1.heap.size+1) d T T 0 0 ⟨#[]⟩ (.slice none 0 0) s (k+M) _ HK4.out.1 HK4.out.2.1 HK4.out.2.2.1).mono ?_
       refine fun e w4 hw4 => ?_
       have hwe:=way_num HF2.out hw4
       clear hw4
       revert hwe
       revert e w4
       rintro e w4 ⟨g,m,rfl,ht4,hor⟩
       have hn4:¬ S2 cb (w1.heap.size+1) w.heap.size:=fun h => by rcases h with h | h <;> omega
       have hx4:=HK4.out.2.2.2.1.tch ht4 hn4
       have ht4':Tch (S2 cb rb) w w4:=HK4.out.2.2.2.2.trans ht4 fun g' hg' h => by rcases h with h | h;exact .inl h;omega
       have c0:=hx4.cell 0
       have c1:=hx4.cell 1
       have c2:=hx4.cell 2
       have c3:=hx4.cell 3
       have c4:=hx4.cell 4
       have f0:=hx4.free 0
       have f1:=hx4.free 1
       have f2:=hx4.free 2
       have f3:=hx4.free 3
       have f4:=hx4.free 4
       simp at c0 c1 c2 c3 c4
       rcases hor with ⟨hg0,hfe⟩ | ⟨rfl,n,x,i,A,c,hfe,hc4,hr4,hfb4,hs4⟩
       · have hgi:((g:Int) != 0)=true:=by rw [bne_iff_ne];omega
         have HE:Hid (∀ w',Tch (fun j => j=w.heap.size) w4 w'→RNextEnd w rb cb d a s k (.returned (.tuple #[.agg #[.int .u64 0,.int .i64 0,.int .u64 0,.string ByteArray.empty,.slice none 0 0],.int .i64 (g:Int)])) w'):=fun w' ht => ⟨ht4'.trans ht fun g hg' e => by omega,.inl ⟨by rw [hfe];exact hg0,by rw [hfe]⟩⟩
         clear hfe hg0 hx4 ht4 ht4' hn4
         go_wp2_with fail
         refine bodyPost_ret (v:=.tuple #[.agg #[.int .u64 0,.int .i64 0,.int .u64 0,.string ByteArray.empty,.slice none 0 0],.int .i64 (g:Int)]) (by simp [results,Tryz.results136,go_sem,c0,c1,c2,c3,c4];try rfl) rfl (HE.out _ (res_tch _ _ _ _ _ _ _))
       · have z0:=hfb4.cell 0
         have z1:=hfb4.cell 1
         have z2:=hfb4.cell 2
         have z3:=hfb4.cell 3
         have z4:=hfb4.cell 4
         simp at z0 z1 z2 z3 z4
         have HE:Hid (∀ w',Tch (fun j => j=w.heap.size) w4 w'→RNextEnd w rb cb d a s k (.returned (.tuple #[.agg #[.int .u64 (T:Int),.int .i64 0,.int .u64 (n:Int),.string x,.slice A i.len c],.int .i64 0])) w'):=fun w' ht => by
          refine ⟨ht4'.trans ht fun g hg' e => by omega,.inr ⟨T,n,m,0,x,i,A,c,hfe,rfl,⟨hc4.1.tch ht (by omega),hc4.2⟩,BlkAt.tch hr4 ht (by omega),?_⟩⟩
          have hz3:=HK4.out.2.2.2.1.lt
          exact (hs4.tch ht fun j hj e => by omega).imp fun j hj => by omega
         clear hfe hx4 ht4 ht4' hn4 hc4 hr4 hfb4 hs4
         go_wp2_with fail
         refine bodyPost_ret (v:=.tuple #[.agg #[.int .u64 (T:Int),.int .i64 0,.int .u64 (n:Int),.string x,.slice A i.len c],.int .i64 0]) (by simp [results,Tryz.results136,go_sem,c0,c1,c2,c3,c4];try rfl) rfl (HE.out _ (res_tch _ _ _ _ _ _ _))
     · have hf2:=HF.out
       rw [if_neg (show ¬ ((1:Nat)=0) by decide),if_pos (show (1:Nat)=1 from rfl)] at hf2
       have HF2:=Lib.hid hf2
       clear hf2
       go_wp2_with fail
       go_quiet (fail)
       go_wp2_with fail
       have HK4:=Lib.hid (HK.out nq)
       refine (text_any rb cb (w1.heap.size+1) d T T 0 1 ⟨#[]⟩ (.slice none 0 0) s (k+M) _ HK4.out.1 HK4.out.2.1 HK4.out.2.2.1).mono ?_
       refine fun e w4 hw4 => ?_
       have hwe:=way_text HF2.out hw4
       clear hw4
       revert hwe
       revert e w4
       rintro e w4 ⟨g,m,rfl,ht4,hor⟩
       have hn4:¬ S2 cb (w1.heap.size+1) w.heap.size:=fun h => by rcases h with h | h <;> omega
       have hx4:=HK4.out.2.2.2.1.tch ht4 hn4
       have ht4':Tch (S2 cb rb) w w4:=HK4.out.2.2.2.2.trans ht4 fun g' hg' h => by rcases h with h | h;exact .inl h;omega
       have c0:=hx4.cell 0
       have c1:=hx4.cell 1
       have c2:=hx4.cell 2
       have c3:=hx4.cell 3
       have c4:=hx4.cell 4
       have f0:=hx4.free 0
       have f1:=hx4.free 1
       have f2:=hx4.free 2
       have f3:=hx4.free 3
       have f4:=hx4.free 4
       simp at c0 c1 c2 c3 c4
       rcases hor with ⟨hg0,hfe⟩ | ⟨rfl,n,x,i,A,c,hfe,hc4,hr4,hfb4,hs4⟩
       · have hgi:((g:Int) != 0)=true:=by rw [bne_iff_ne];omega
         have HE:Hid (∀ w',Tch (fun j => j=w.heap.size) w4 w'→RNextEnd w rb cb d a s k (.returned (.tuple #[.agg #[.int .u64 0,.int .i64 0,.int .u64 0,.string ByteArray.empty,.slice none 0 0],.int .i64 (g:Int)])) w'):=fun w' ht => ⟨ht4'.trans ht fun g hg' e => by omega,.inl ⟨by rw [hfe];exact hg0,by rw [hfe]⟩⟩
         clear hfe hg0 hx4 ht4 ht4' hn4
         go_wp2_with fail
         refine bodyPost_ret (v:=.tuple #[.agg #[.int .u64 0,.int .i64 0,.int .u64 0,.string ByteArray.empty,.slice none 0 0],.int .i64 (g:Int)]) (by simp [results,Tryz.results136,go_sem,c0,c1,c2,c3,c4];try rfl) rfl (HE.out _ (res_tch _ _ _ _ _ _ _))
       · have z0:=hfb4.cell 0
         have z1:=hfb4.cell 1
         have z2:=hfb4.cell 2
         have z3:=hfb4.cell 3
         have z4:=hfb4.cell 4
         simp at z0 z1 z2 z3 z4
         have HE:Hid (∀ w',Tch (fun j => j=w.heap.size) w4 w'→RNextEnd w rb cb d a s k (.returned (.tuple #[.agg #[.int .u64 (T:Int),.int .i64 1,.int .u64 (n:Int),.string x,.slice A i.len c],.int .i64 0])) w'):=fun w' ht => by
          refine ⟨ht4'.trans ht fun g hg' e => by omega,.inr ⟨T,n,m,1,x,i,A,c,hfe,rfl,⟨hc4.1.tch ht (by omega),hc4.2⟩,BlkAt.tch hr4 ht (by omega),?_⟩⟩
          have hz3:=HK4.out.2.2.2.1.lt
          exact (hs4.tch ht fun j hj e => by omega).imp fun j hj => by omega
         clear hfe hx4 ht4 ht4' hn4 hc4 hr4 hfb4 hs4
         go_wp2_with fail
         refine bodyPost_ret (v:=.tuple #[.agg #[.int .u64 (T:Int),.int .i64 1,.int .u64 (n:Int),.string x,.slice A i.len c],.int .i64 0]) (by simp [results,Tryz.results136,go_sem,c0,c1,c2,c3,c4];try rfl) rfl (HE.out _ (res_tch _ _ _ _ _ _ _))
     · have hf2:=HF.out
       rw [if_neg (show ¬ ((2:Nat)=0) by decide),if_neg (show ¬ ((2:Nat)=1) by decide)] at hf2
       have HF2:=Lib.hid hf2
       clear hf2
       go_wp2_with fail
       go_quiet (fail)
       go_wp2_with fail
       have HK4:=Lib.hid (HK.out nq)
       refine (list_any HALL.out rb cb (w1.heap.size+1) d T T 0 2 ⟨#[]⟩ (.slice none 0 0) s (k+M) _ HK4.out.1 HK4.out.2.1 HK4.out.2.2.1 (by omega) hs hd).mono ?_
       refine fun e w4 hw4 => ?_
       have hwe:=way_list HF2.out hw4
       clear hw4
       revert hwe
       revert e w4
       rintro e w4 ⟨g,m,rfl,ht4,hor⟩
       have hn4:¬ S2 cb (w1.heap.size+1) w.heap.size:=fun h => by rcases h with h | h <;> omega
       have hx4:=HK4.out.2.2.2.1.tch ht4 hn4
       have ht4':Tch (S2 cb rb) w w4:=HK4.out.2.2.2.2.trans ht4 fun g' hg' h => by rcases h with h | h;exact .inl h;omega
       have c0:=hx4.cell 0
       have c1:=hx4.cell 1
       have c2:=hx4.cell 2
       have c3:=hx4.cell 3
       have c4:=hx4.cell 4
       have f0:=hx4.free 0
       have f1:=hx4.free 1
       have f2:=hx4.free 2
       have f3:=hx4.free 3
       have f4:=hx4.free 4
       simp at c0 c1 c2 c3 c4
       rcases hor with ⟨hg0,hfe⟩ | ⟨rfl,n,x,i,A,c,hfe,hc4,hr4,hfb4,hs4⟩
       · have hgi:((g:Int) != 0)=true:=by rw [bne_iff_ne];omega
         have HE:Hid (∀ w',Tch (fun j => j=w.heap.size) w4 w'→RNextEnd w rb cb d a s k (.returned (.tuple #[.agg #[.int .u64 0,.int .i64 0,.int .u64 0,.string ByteArray.empty,.slice none 0 0],.int .i64 (g:Int)])) w'):=fun w' ht => ⟨ht4'.trans ht fun g hg' e => by omega,.inl ⟨by rw [hfe];exact hg0,by rw [hfe]⟩⟩
         clear hfe hg0 hx4 ht4 ht4' hn4
         go_wp2_with fail
         refine bodyPost_ret (v:=.tuple #[.agg #[.int .u64 0,.int .i64 0,.int .u64 0,.string ByteArray.empty,.slice none 0 0],.int .i64 (g:Int)]) (by simp [results,Tryz.results136,go_sem,c0,c1,c2,c3,c4];try rfl) rfl (HE.out _ (res_tch _ _ _ _ _ _ _))
       · have z0:=hfb4.cell 0
         have z1:=hfb4.cell 1
         have z2:=hfb4.cell 2
         have z3:=hfb4.cell 3
         have z4:=hfb4.cell 4
         simp at z0 z1 z2 z3 z4
         have HE:Hid (∀ w',Tch (fun j => j=w.heap.size) w4 w'→RNextEnd w rb cb d a s k (.returned (.tuple #[.agg #[.int .u64 (T:Int),.int .i64 2,.int .u64 (n:Int),.string x,.slice A i.len c],.int .i64 0])) w'):=fun w' ht => by
          refine ⟨ht4'.trans ht fun g hg' e => by omega,.inr ⟨T,n,m,2,x,i,A,c,hfe,rfl,⟨hc4.1.tch ht (by omega),hc4.2⟩,BlkAt.tch hr4 ht (by omega),?_⟩⟩
          have hz3:=HK4.out.2.2.2.1.lt
          exact (hs4.tch ht fun j hj e => by omega).imp fun j hj => by omega
         clear hfe hx4 ht4 ht4' hn4 hc4 hr4 hfb4 hs4
         go_wp2_with fail
         refine bodyPost_ret (v:=.tuple #[.agg #[.int .u64 (T:Int),.int .i64 2,.int .u64 (n:Int),.string x,.slice A i.len c],.int .i64 0]) (by simp [results,Tryz.results136,go_sem,c0,c1,c2,c3,c4];try rfl) rfl (HE.out _ (res_tch _ _ _ _ _ _ _))
 · have hfe:ffirst (lft s k) d a=(.nil,0,(vget (lft s k)).2.2):=by unfold ffirst fone;rw [if_pos hv]
   have HE:Hid (∀ w',Tch (fun j => j=w.heap.size) w1 w'→RNextEnd w rb cb d a s k (.returned (.tuple #[.agg #[.int .u64 0,.int .i64 0,.int .u64 0,.string ByteArray.empty,.slice none 0 0],.int .i64 ((vget (lft s k)).2.2:Int)])) w'):=fun w' ht =>
    ⟨ht1.trans ht fun g hg' e => by omega,.inl ⟨by rw [hfe];exact hv,by rw [hfe]⟩⟩
   generalize (vget (lft s k)).2.2=G at *
   generalize (vget (lft s k)).1=V at *
   have hgi:((G:Int) != 0)=true:=by rw [bne_iff_ne];omega
   clear hr1 hx1 hc1 hg ht1 hv hfe
   go_wp2_with fail
   refine bodyPost_ret (v:=.tuple #[.agg #[.int .u64 0,.int .i64 0,.int .u64 0,.string ByteArray.empty,.slice none 0 0],.int .i64 (G:Int)]) (by simp [results,Tryz.results136,go_sem,c0,c1,c2,c3,c4];try rfl) rfl (HE.out _ (res_tch _ _ _ _ _ _ _))
end Go.Proofs.YtgidfnhfgiehjaaGreatDoor
end

section
namespace Go.Proofs.YtgidfnhfgiehjaaGreatDoor
open Go.RowKit Go.PM
set_option maxRecDepth 100000
set_option maxHeartbeats 1500000
attribute [local go_sem ↓] Go.wp_at_zero Go.wp_at_succ
theorem fthen_app (f g:Fs) (q:Fs × Nat):fthen (f.app g) q=fthen f (fthen g q):=by
 by_cases h:q.2=0
 · rw [fthen_yes h,fthen_yes h,fthen_yes rfl,Fs.app_assoc]
 · rw [fthen_err h,fthen_err h];exact (fthen_err (f:=f) (q:=(.nil,q.2)) h).symm
def RAt (w:World) (rb cb d:Nat) (s:ByteArray) (R:Fs × Nat) (vv:Value) (kk:Nat) (wr:World):Prop :=
 ∃ (a:Nat) (F:Fs) (xs:List Value),Cur wr cb s kk∧Rdr wr rb cb d a∧wr.ownsRow w.heap.size 47 5 vv F.len xs∧Cls wr (fun q => w.heap.size≤q∧vv.ownBlock≠some q) xs F∧Tch (S2 cb rb) w wr∧R=fthen F (fget (lft s kk) d a)∧F.len≤kk
theorem rat_step {w wr w4 wq w5:World} {rb cb d k m t n g cap3:Nat} {s:ByteArray} {R:Fs × Nat} {vv:Value} {y:Int} {x:ByteArray} {i:Fs} {A:Option Addr} {c a:Nat} {F:Fs} {xs:List Value}
 (hcb:cb < w.heap.size) (hrb:rb < w.heap.size) (hown:wr.ownsRow w.heap.size 47 5 vv F.len xs) (hcls:Cls wr (fun q => w.heap.size≤q∧vv.ownBlock≠some q) xs F) (ht:Tch (S2 cb rb) w wr) (hR:R=fthen F (fget (lft s k) d a)) (hF:F.len≤k)
 (hk:k < s.size) (hf:ffirst (lft s k) d a=(.cons t y n x i .nil,m,0)) (ht4:Tch (S2 cb rb) wr w4) (hc4:Cur w4 cb s (k+m)) (hr4:Rdr w4 rb cb d t) (hs4:SlV w4 (wr.heap.size≤·) (.slice A i.len c) i) (hbq:Below w4.heap.size w4 wq)
 (hown5:w5.ownsRow w.heap.size 47 5 (.slice (some ⟨g,0,none⟩) (F.len+1) cap3) (F.len+1) (xs++[.int .u64 (t:Int),.int .i64 y,.int .u64 (n:Int),.string x,.slice A i.len c])) (hg5:wq.grownBy w5 vv.ownBlock) (hat:vv.ownBlock=some g∨g=wq.heap.size) :
 RAt w rb cb d s R (.slice (some ⟨g,0,none⟩) (F.len+1) cap3) (k+m) w5:=by
 have hl:(F.app (.cons t y n x i .nil)).len=F.len+1:=by rw [Fs.app_len];simp [Fs.len]
 have hS:∀ q,w.heap.size≤q→¬ S2 cb rb q:=fun q hq h => by rcases h with h | h <;> omega
 have hoq:∀ g',vv.ownBlock=some g'→w.heap.size≤g'∧g' < wr.heap.size:=fun g' h => hown.lt g' h
 have hm:2≤m:=by
  obtain ⟨t',y',n',x',i',m',e1,e2,_⟩:=fone_ok (rec:=fun t => fget t (d+1) 0) (s:=lft s k) (deep:=d) (last:=a) (by
   have:fone (fun t => fget t (d+1) 0) (lft s k) d a=_:=hf
   rw [this])
  have:ffirst (lft s k) d a=_:=e1
  rw [hf] at this
  simp only [Prod.mk.injEq] at this
  omega
 have htq:Tch (fun q => vv.ownBlock=some q) wq w5:=Tch.grown hg5 fun q hq _ => hq
 have hnc:cb < wq.heap.size:=Nat.lt_of_lt_of_le (Nat.lt_of_lt_of_le hcb ht.size) (Nat.le_trans ht4.size hbq.size)
 have hnr:rb < wq.heap.size:=Nat.lt_of_lt_of_le (Nat.lt_of_lt_of_le hrb ht.size) (Nat.le_trans ht4.size hbq.size)
 refine ⟨t,F.app (.cons t y n x i .nil),xs++[.int .u64 (t:Int),.int .i64 y,.int .u64 (n:Int),.string x,.slice A i.len c],⟨((hc4.1.below hbq hc4.1.lt).tch htq fun e => by have:=hoq _ e;omega),hc4.2⟩,BlkAt.tch (BlkAt.below hr4 hbq hr4.lt) htq (fun e => by have:=hoq _ e;omega),by rw [hl];exact hown5,?_,?_,?_,by rw [hl];omega⟩
 · have h1:=((hcls.lt.tch ht4 fun q hq => hS q hq.1.1).below hbq).imp (J:=fun q => w.heap.size≤q∧vv.ownBlock≠some q) fun q hq => hq.1
   have h2:=((hs4.lt.below hbq).imp (J:=fun q => w.heap.size≤q∧vv.ownBlock≠some q) fun q hq => ⟨Nat.le_trans ht.size hq.1,fun e => by have:=(hoq _ e).2;have:=hq.1;omega⟩)
   have h3:=h1.app (show Cls wq (fun q => w.heap.size≤q∧vv.ownBlock≠some q) [.int .u64 (t:Int),.int .i64 y,.int .u64 (n:Int),.string x,.slice A i.len c] (.cons t y n x i .nil) from ⟨rfl,rfl,rfl,rfl,h2,trivial⟩)
   exact Cls.grow (v:=vv) h3 hg5 hat
 · exact ((ht.trans ht4 fun _ _ h => h).bel hbq).trans htq fun q hq e => by have:=(hoq q e).1;omega
 · have h0:(lft s k).length≠0:=by rw [lft_length];omega
   rw [hR,fget_step h0 (by rw [hf]),hf,fthen_app]
   show fthen F (fthen (.cons t y n x i .nil) (fget ((lft s k).drop m) d t))=_
   rw [lft_drop]
theorem all_zero:AllOk 0:=by
 intro rb cb s k d a w hN hd ha hs hr hc
 have HC:=Lib.hid hc
 have hk:k=s.size:=by have:=hc.2.1;omega
 have hl:lft s k=[]:=List.eq_nil_of_length_eq_zero (by rw [lft_length];omega)
 have HE:Hid (∀ w',Below w.heap.size w w'→AllEnd w rb cb d a s k (.returned (.tuple #[.slice none 0 0,.int .i64 0])) w'):=fun w' hb => by
  refine ⟨none,0,by rw [hl,fget_nil];rfl,?_,Tch.below hb⟩
  rw [hl,fget_nil]
  exact SlV.nil _ _ _ _
 have r0:=hr.cell 0
 simp at r0
 have hki:(k:Int)=(s.size:Int):=by omega
 obtain ⟨kk,hkk⟩:∃ kk,kk=k:=⟨k,rfl⟩
 rw [← hkk] at HC hki
 clear hr hc hl hk hkk
 go_enter Tryz.func81,Tryz.ntmps81
 go_wp2_with fail
 go_loopg [4] 0 (fun gk vv wr => vv=.slice none 0 0∧wr=w)
 case atStart => exact ⟨rfl,rfl⟩
 case round =>
  obtain ⟨rfl,rfl⟩:=hrel
  go_wp2_with fail
  refine (cur_left cb s _ _ HC.out).mono ?_
  rintro e w2 ⟨rfl,hb2⟩
  go_wp2_with fail
  go_ret2
  exact HE.out _ hb2
theorem all_step {N:Nat} (hall:AllOk N):AllOk (N+1):=by
 intro rb cb s k d a w hN hd ha hs hr hc
 have HALL:=Lib.hid hall
 have hrl:=hr.lt
 have hcl:=hc.1.lt
 have hks:=hc.2.1
 obtain ⟨i0,hi0,hz0,hz1,hz2⟩:=info_parts info_field
 generalize hR:fget (lft s k) d a=R
 have HR:=Lib.hid hR
 have H0:Hid (RAt w rb cb d s R (.slice none 0 0) k w):=⟨a,.nil,[],hc,hr,World.ownsRow_nil _ _ _ _,trivial,Tch.refl _ _,by
  have e:∀ q:Fs × Nat,(q.2≠0→q.1=.nil)→fthen .nil q=q:=fun q hq => by
   by_cases h:q.2=0
   · rw [fthen_yes h];exact Prod.ext rfl h.symm
   · rw [fthen_err h];exact Prod.ext (hq h).symm rfl
  rw [← hR,e]
  intro hne
  by_cases h0:(lft s k).length=0
  · rw [List.eq_nil_of_length_eq_zero h0] at hne;exact absurd rfl hne
  by_cases h1:(ffirst (lft s k) d a).2.2≠0
  · rw [fget_err h0 h1]
  · rw [fget_step h0 (Classical.not_not.1 h1)] at hne ⊢
    generalize fget ((lft s k).drop (ffirst (lft s k) d a).2.1) d (ffirst (lft s k) d a).1.tag=q at *
    by_cases hq:q.2=0
    · rw [fthen_yes hq] at hne;exact absurd rfl hne
    · rw [fthen_err hq],Nat.zero_le _⟩
 have HD:Hid (∀ e w',(e=.returned (.tuple #[.slice none 0 0,.int .i64 (R.2:Int)])∧R.1=.nil∨∃ A c,e=.returned (.tuple #[.slice A R.1.len c,.int .i64 (R.2:Int)])∧SlV w' (w.heap.size≤·) (.slice A R.1.len c) R.1)→Tch (S2 cb rb) w w'→AllEnd w rb cb d a s k e w'):=fun e w' h ht => by
  unfold AllEnd
  rw [hR]
  rcases h with ⟨rfl,h⟩ | ⟨A,c,rfl,h⟩
  · rw [h];exact ⟨none,0,rfl,SlV.nil _ _ _ _,ht⟩
  · exact ⟨A,c,rfl,h,ht⟩
 clear hr hc hall hR
 go_enter Tryz.func81,Tryz.ntmps81
 go_wp2_with fail
 go_loopg [4] (s.size - k) (fun gk vv wr => ∃ kk:Nat,kk≤s.size∧k≤kk∧s.size - kk≤gk∧Hid (RAt w rb cb d s R vv kk wr))
 case atStart => exact ⟨k,hks,Nat.le_refl _,Nat.le_refl _,H0⟩
 case round =>
  obtain ⟨kk,hkk,hkk2,hgk,HRA⟩:=hrel
  obtain ⟨a',F,xs,hc,hr,hown,hcls,ht,hRR,hF⟩:=HRA.out
  have HC:=Lib.hid hc
  have r0:=hr.cell 0
  simp at r0
  by_cases hlt:kk < s.size
  · have hki:(kk:Int) < (s.size:Int):=by omega
    have HRR:=Lib.hid hRR
    have HRD:=Lib.hid hr
    have HOWN:=Lib.hid hown
    have HCLS:=Lib.hid hcls
    have HT:=Lib.hid ht
    clear hc hr hown hcls ht hRR
    go_wp2_with fail
    refine (cur_left cb s _ _ HC.out).mono ?_
    rintro e w2 ⟨rfl,hb2⟩
    have HB2:=Lib.hid hb2
    have HRD2:Hid (Rdr w2 rb cb d a'):=BlkAt.below HRD.out hb2 HRD.out.lt
    have HC2:Hid (Cur w2 cb s kk):=⟨HC.out.1.below hb2 HC.out.1.lt,HC.out.2⟩
    clear hb2
    go_wp2_with fail
    refine (rnext_any HALL.out rb cb d a' s kk w2 HRD2.out HC2.out (by omega) hs hd).mono ?_
    rintro e w4 ⟨ht4,⟨hne,rfl⟩ | ⟨t,n,m,y,x,i,A,c,hf,rfl,hc4,hr4,hs4⟩⟩
    · have HE:Hid (∀ w',Below w4.heap.size w4 w'→AllEnd w rb cb d a s k (.returned (.tuple #[.slice none 0 0,.int .i64 ((ffirst (lft s kk) d a').2.2:Int)])) w'):=fun w' hb => by
       have h0:(lft s kk).length≠0:=by rw [lft_length];omega
       have h1:R=(.nil,(ffirst (lft s kk) d a').2.2):=by rw [HRR.out,fget_err h0 hne,fthen_err hne]
       have h2:=HD.out (.returned (.tuple #[.slice none 0 0,.int .i64 ((ffirst (lft s kk) d a').2.2:Int)])) w'
       rw [h1] at h2
       exact h2 (.inl ⟨rfl,rfl⟩) (((HT.out.bel HB2.out).trans ht4 fun _ _ h => h).bel hb)
      generalize (ffirst (lft s kk) d a').2.2=G at *
      have hgi:((G:Int) != 0)=true:=by rw [bne_iff_ne];omega
      clear ht4 hne
      go_wp2_with fail
      go_ret2
      exact HE.out _ (ba b0 _)
    · have HF2:=Lib.hid (And.intro hf (And.intro ht4 (And.intro hc4 (And.intro hr4 hs4))))
      have hw2z:=HB2.out.size
      have hw4z:=ht4.size
      have htz:=HT.out.size
      have hS:∀ q,w.heap.size≤q→¬ S2 cb rb q:=fun q hq h => by rcases h with h | h <;> omega
      have how4:=own_tch (own_below HOWN.out HB2.out) ht4 fun g hg => hS g (HOWN.out.lt g hg).1
      have HO4:=Lib.hid ((how4.alloc (.cells #[.int .u64 (t:Int),.int .i64 y,.int .u64 (n:Int),.string x,.slice A i.len c] 47)).alloc (.cells #[.int .u64 (t:Int),.int .i64 y,.int .u64 (n:Int),.string x,.slice A i.len c] 47))
      have hnb:=BlkAt.made (w4.alloc (.cells #[.int .u64 (t:Int),.int .i64 y,.int .u64 (n:Int),.string x,.slice A i.len c] 47)) 47 #[.int .u64 (t:Int),.int .i64 y,.int .u64 (n:Int),.string x,.slice A i.len c]
      rw [World.size_alloc] at hnb
      have HNB:=Lib.hid hnb
      have hF6:F.len≤1000000:=by omega
      clear hf ht4 hc4 hr4 hs4 how4 hnb hS
      go_wp2_with (at_builtin;go_must (refine wpList_append_lies _ rfl _ _ 33 rfl w.heap.size 47 i0 _ 5 64 Tryz.underlying33 hi0 hz0 hz1 hz2 rfl (by decide) u4 F.len xs rfl HO4.out ⟨w4.heap.size+1,0,none⟩ 1 1 [.int .u64 (t:Int),.int .i64 y,.int .u64 (n:Int),.string x,.slice A i.len c] rfl rfl HNB.out.news (by simp [Value.oneCell']) (by decide) (by unfold maxLen;omega) (by omega) (by simp;omega) (w4.heap.size+1+1) (by simp) ?_);intro g3 cap3 w5 hown5 hg5 hat5 hlt5;have HO5:=Lib.hid hown5;have HG5:=Lib.hid hg5;have HAT5:=Lib.hid hat5;clear hown5 hg5 hat5 hlt5)
      have hm1:kk+m≤s.size∧1≤m:=by
       obtain ⟨t',y',n',x',i',m',e1,e2,e3,_⟩:=fone_ok (rec:=fun t => fget t (d+1) 0) (s:=lft s kk) (deep:=d) (last:=a') (by
        have:fone (fun t => fget t (d+1) 0) (lft s kk) d a'=_:=HF2.out.1
        rw [this])
       have h1:ffirst (lft s kk) d a'=_:=e1
       rw [HF2.out.1] at h1
       simp only [Prod.mk.injEq] at h1
       rw [lft_length] at e3
       omega
      go_roundg (s.size - (kk+m))
      case measure => omega
      case rel =>
       refine ⟨kk+m,hm1.1,by omega,Nat.le_refl _,?_⟩
       have htw:Tch (S2 cb rb) wr w4:=(Tch.below HB2.out).trans HF2.out.2.1 fun _ _ h => h
       exact rat_step hcl hrl HOWN.out HCLS.out HT.out HRR.out hF hlt HF2.out.1 htw HF2.out.2.2.1 HF2.out.2.2.2.1 (HF2.out.2.2.2.2.imp fun q hq => Nat.le_trans HB2.out.size hq) (ba (ba b0 _) _) HO5.out HG5.out (HAT5.out.imp id fun h => by rw [h];simp)
  · obtain rfl:kk=s.size:=by omega
    have h0:lft s s.size=[]:=List.eq_nil_of_length_eq_zero (by rw [lft_length];omega)
    rw [h0,fget_nil,fthen_yes rfl,Fs.app_nil] at hRR
    subst hRR
    obtain ⟨A,c,rfl,hsl⟩:=own_slv hown hcls fun q hq => hq.1
    have HE:Hid (∀ w',Below wr.heap.size wr w'→AllEnd w rb cb d a s k (.returned (.tuple #[.slice A F.len c,.int .i64 0])) w'):=fun w' hb => HD.out _ w' (.inr ⟨A,c,rfl,hsl.below hb⟩) (ht.bel hb)
    clear hc hr hown hcls ht hsl h0 HRA
    go_wp2_with fail
    refine (cur_left cb s _ _ HC.out).mono ?_
    rintro e w2 ⟨rfl,hb2⟩
    go_wp2_with fail
    go_ret2
    exact HE.out _ hb2
theorem all_any:∀ N,AllOk N
 | 0 => all_zero
 | N+1 => all_step (all_any N)
end Go.Proofs.YtgidfnhfgiehjaaGreatDoor
end

section
namespace Go.Proofs.YtgidfnhfgiehjaaGreatDoor
open Go.RowKit Go.PM
set_option maxRecDepth 100000
set_option maxHeartbeats 1500000
attribute [local go_sem ↓] Go.wp_at_zero Go.wp_at_succ
def fgets (s:List UInt8):Fs × Nat:=if 65536 < s.length then (.nil,4) else fget s 0 0
def GetEnd (w:World) (s:ByteArray) (e:Ending) (w':World):Prop :=
 ∃ (A:Option Addr) (c:Nat),e=.returned (.tuple #[.slice A (fgets s.data.toList).1.len c,.int .i64 ((fgets s.data.toList).2:Int)])∧SlV w' (w.heap.size≤·) (.slice A (fgets s.data.toList).1.len c) (fgets s.data.toList).1∧Below w.heap.size w w'
theorem wget_any (s:ByteArray) (w:World) (hs:s.size≤1000000):Calls Tryz.prog 38 #[.string s] w (GetEnd w s):=by
 by_cases hbig:65536 < s.size
 · have HE:Hid (GetEnd w s (.returned (.tuple #[.slice none 0 0,.int .i64 4])) w):=by
    have h:fgets s.data.toList=(.nil,4):=by unfold fgets;rw [len_list,if_pos hbig]
    unfold Hid GetEnd
    rw [h]
    exact ⟨none,0,rfl,SlV.nil _ _ _ _,b0⟩
   go_enter Tryz.func38,Tryz.ntmps38
   go_wp2
   go_ret2
   exact HE.out
 · have hf:fgets s.data.toList=fget s.data.toList 0 0:=by unfold fgets;rw [len_list,if_neg hbig]
   have hcb:Cur (w.alloc (.cells #[.string s,.int .i64 0] 228)) w.heap.size s 0:=⟨BlkAt.made w _ _,Nat.zero_le _,by omega⟩
   have hrb:Rdr ((w.alloc (.cells #[.string s,.int .i64 0] 228)).alloc (.cells #[.pointer (some ⟨w.heap.size,0,none⟩),.int .i64 0,.int .u64 0] 151)) (w.heap.size+1) w.heap.size 0 0:=by
    have:=BlkAt.made (w.alloc (.cells #[.string s,.int .i64 0] 228)) 151 #[.pointer (some ⟨w.heap.size,0,none⟩),.int .i64 0,.int .u64 0]
    rw [World.size_alloc] at this
    exact this
   have hcb2:Cur ((w.alloc (.cells #[.string s,.int .i64 0] 228)).alloc (.cells #[.pointer (some ⟨w.heap.size,0,none⟩),.int .i64 0,.int .u64 0] 151)) w.heap.size s 0:=⟨hcb.1.more _,hcb.2⟩
   have HAL:=Lib.hid (all_any s.size (w.heap.size+1) w.heap.size s 0 0 0 _ (by omega) (by omega) (by omega) hs hrb hcb2)
   have HGE:Hid (∀ e w',AllEnd ((w.alloc (.cells #[.string s,.int .i64 0] 228)).alloc (.cells #[.pointer (some ⟨w.heap.size,0,none⟩),.int .i64 0,.int .u64 0] 151)) (w.heap.size+1) w.heap.size 0 0 s 0 e w'→∃ A c,e=.returned (.tuple #[.slice A (fgets s.data.toList).1.len c,.int .i64 ((fgets s.data.toList).2:Int)])∧GetEnd w s e w'):=fun e w' h => by
    obtain ⟨A,c,rfl,h1,h2⟩:=h
    have hl:lft s 0=s.data.toList:=rfl
    rw [hl,← hf] at h1 ⊢
    refine ⟨A,c,rfl,A,c,rfl,h1.imp fun q hq => ?_,?_⟩
    · simp only [World.size_alloc] at hq;omega
    · have hb:Below w.heap.size w ((w.alloc (.cells #[.string s,.int .i64 0] 228)).alloc (.cells #[.pointer (some ⟨w.heap.size,0,none⟩),.int .i64 0,.int .u64 0] 151)):=ba (ba b0 _) _
      exact hb.trans (h2.toBelowB hb.size fun g hg hh => by rcases hh with hh | hh <;> omega)
   clear hcb hrb hcb2 hf
   go_enter Tryz.func38,Tryz.ntmps38
   go_wp2_with fail
   refine (cur_over s w).mono ?_
   rintro e w1 ⟨rfl,rfl⟩
   go_wp2_with fail
   refine HAL.out.mono ?_
   intro e w2 h
   obtain ⟨A,c,rfl,hge⟩:=HGE.out e w2 h
   have HG:=Lib.hid hge
   clear h hge
   generalize (fgets s.data.toList).2=G at *
   generalize (fgets s.data.toList).1.len=LL at *
   go_wp2_with fail
   go_ret2
   exact HG.out
end Go.Proofs.YtgidfnhfgiehjaaGreatDoor
end

section
namespace Go.Proofs.YtgidfnhfgiehjaaGreatDoor
open Go.RowKit Go.PM
set_option maxRecDepth 100000
set_option maxHeartbeats 1500000
theorem fcheckP_kd:∀ {f:Fs} {a w:Nat},fcheckP f a w→f.All FKd
 | .nil,_,_,_ => trivial
 | .cons t y n s i r,a,w,h => by
   obtain ⟨⟨h1,h2,h3,h4,h5⟩,h6⟩:=h
   have hr:=fcheckP_kd h6
   have ht:In64 t:=by show t < 18446744073709551616;omega
   rcases h5 with ⟨rfl,rfl,rfl⟩ | ⟨rfl,rfl,rfl,h7⟩ | ⟨rfl,rfl,rfl,h8,h9⟩
   · exact ⟨⟨ht,by unfold InI64;omega,h4,by simp⟩,trivial,hr⟩
   · exact ⟨⟨ht,by unfold InI64;omega,h4,h7⟩,trivial,hr⟩
   · exact ⟨⟨ht,by unfold InI64;omega,h4,by simp⟩,fcheckP_kd h9,hr⟩
theorem fgets_text {f:Fs} (hk:f.All FKd) (h:fcheck f 0 0=0) (hL:(ftx f).length≤65536):fgets (ftx f)=(f,0):=by
 have hp:=(fcheck_iff f 0 0 hk (by omega)).1 h
 have:=fget_text [] f 0 0 (by omega) hp (by omega)
 rw [List.append_nil,fget_nil,fthen_yes rfl,Fs.app_nil] at this
 unfold fgets
 rw [if_neg (by omega),this]
theorem fput_yes {f:Fs} (h:fcheck f 0 0=0) (hL:(ftx f).length≤65536):fput f=(ftx f,0):=by
 unfold fput
 rw [if_neg (by rw [h];simp),if_neg (by omega)]
theorem fgets_back {s:List UInt8} (hs:s.length≤65536) (h:(fgets s).2=0) :
 (fgets s).1.All FKd∧(fgets s).1.count≤1000000∧fcheck (fgets s).1 0 0=0∧ftx (fgets s).1=s∧fput (fgets s).1=(s,0)∧fszB (fgets s).1=s.length:=by
 have e:fgets s=fget s 0 0:=by unfold fgets;rw [if_neg (by omega)]
 rw [e] at h ⊢
 obtain ⟨h1,h2,h3⟩:=fget_ok s.length s 0 0 (Nat.le_refl _) (by omega) (by omega) h
 generalize (fget s 0 0).1=l at *
 have hk:=fcheckP_kd h2
 have hc:=(fcheck_iff l 0 0 hk (by omega)).2 h2
 refine ⟨hk,by omega,hc,h1,?_,?_⟩
 · rw [fput_yes hc (by rw [h1];omega),h1]
 · unfold fszB;rw [if_neg (by rw [hc];simp),h1]
end Go.Proofs.YtgidfnhfgiehjaaGreatDoor
end
