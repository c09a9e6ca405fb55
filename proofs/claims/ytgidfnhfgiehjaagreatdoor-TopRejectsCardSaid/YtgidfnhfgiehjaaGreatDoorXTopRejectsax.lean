/-
  Texts of the proof, joined: Tab4 Prefix2 Descr4 Descr5 DescrLaw. Conditions: as each names.
-/
import Derived.Test.YtgidfnhfgiehjaaGreatDoorXTopRejectsaw
import Derived.Test.YtgidfnhfgiehjaaGreatDoorXTopRejectsap
import Derived.Deep.RegionHeld3
import Derived.Test.YtgidfnhfgiehjaaGreatDoorXTopRejectsan
import Derived.Test.YtgidfnhfgiehjaaGreatDoorXTopRejectsam
import Derived.Test.YtgidfnhfgiehjaaGreatDoorXTopRejectsae
import Derived.Test.YtgidfnhfgiehjaaGreatDoorXTopRejectsaf

section
namespace Go.Proofs.YtgidfnhfgiehjaaGreatDoor
open Go.RowKit Go.PM
set_option maxRecDepth 100000
set_option maxHeartbeats 4000000
attribute [local go_sem ↓] Go.wp_at_zero Go.wp_at_succ
def zkeyed:Value:=.agg #[.slice none 0 0,.int .u64 0,.string ⟨#[]⟩]
theorem info_keyed:(Tryz.prog.info? 333).map (fun i => (i.zero,i.size,i.bytes))=some (some zkeyed,3,48):=by kernel_rfl
def Of13At (w:World) (l:List Rv) (k:Nat) (wr:World):Prop:=∃ v,BlkAt wr w.heap.size 331 #[v]∧wr.ownsRow (w.heap.size+1) 333 3 v k ((l.take k).flatMap encK)∧Below w.heap.size w wr
theorem rd_made (w:World) (r:Rv) (A:Option Addr) (h:r.A=A):Rd (w.alloc (.cells #[.slice A r.d.length r.c,.int .u64 (r.n:Int)] 134)) (some ⟨w.heap.size,0,none⟩) (rvs [r]):=by
 subst h
 refine .inr ⟨_,_,rfl,by simp,fun j u hj => ?_⟩
 have hy:=World.news_of_block (cs:=#[.slice r.A r.d.length r.c,.int .u64 (r.n:Int)]) (t:=134) (fr:=(0,0)) (heap_alloc_new w (.cells #[.slice r.A r.d.length r.c,.int .u64 (r.n:Int)] 134)) j u hj
 rwa [add_at,← Nat.zero_add j] at hy
theorem of13_two (A:Option Addr) (c:Nat) (l:List Rv) (x y:Rv) (I:Nat→Prop) (w:World) (hxy:l=[x,y]) (hr:Rd w A (rvs l)) (ho:∀ r ∈ l,RvOk w I r) (hz:∀ r ∈ l,ESz r.d∧r.d.length≤9223372036854775807) (hc:∀ r ∈ l,rwchk echk r.rw=0) (hT:Tabs w)
 (hlt:keyLess y x=true) (hnk:((txt (dkey x.d)).toList == (txt (dkey y.d)).toList)=false) :
 Calls Tryz.prog 258 #[.slice A l.length c] w fun e w' => ∃ v,e=.returned (.tuple #[v,.int .i64 0])∧TbN w.heap.size w' v [y.rw,x.rw]∧Below w.heap.size w w':=by
 obtain ⟨i0,hi0,hz0,hz1,hz2⟩:=info_parts info_keyed
 have h2:l.length=2:=by rw [hxy];rfl
 have h256:¬ (256:Int) < (l.length:Int):=by omega
 have hbo:=ba (a:=w) b0 (.cells #[.slice none 0 0] 331)
 have H0:Hid (Of13At w l 0 (w.alloc (.cells #[.slice none 0 0] 331))):=⟨_,BlkAt.made w 331 #[.slice none 0 0],World.ownsRow_nil _ _ _ _,hbo⟩
 have HR:=Lib.hid hr
 have HO:=Lib.hid ho
 have HZ:=Lib.hid hz
 have HT:=Lib.hid hT
 have HCK:=Lib.hid hc
 have HXY:=Lib.hid hxy
 have HL2:=Lib.hid h2
 clear hr ho hz hc hT hbo hxy h2
 go_enter Tryz.func258,Tryz.ntmps258
 go_wp2_with fail
 go_loopg [16] l.length (fun gk ki wr => ∃ k:Nat,k≤l.length∧l.length - k≤gk∧ki=.int .i64 (k:Int)∧Hid (Of13At w l k wr))
 case atStart => exact ⟨0,Nat.zero_le _,by omega,rfl,H0⟩
 case round =>
  obtain ⟨k,hk,hgk,rfl,HS⟩:=hrel
  obtain ⟨v,hRv,hown,hbel⟩:=HS.out
  by_cases hlt2:k < l.length
  · obtain ⟨b,off,rfl,hblt,c0,c1⟩:=(HR.out.below hbel).row hlt2
    obtain ⟨z0,z1⟩:=HZ.out _ (List.getElem_mem hlt2)
    have hck:=HCK.out _ (List.getElem_mem hlt2)
    have hro:=(HO.out _ (List.getElem_mem hlt2)).below hbel
    have htk:l.take (k+1)=l.take k++[l[k]]:=(List.take_append_getElem hlt2).symm
    generalize l[k]=r at *
    have hmil:=(dchk_mil (rwchk_dchk hck)).1
    have hbo:=ba (a:=wr) b0 (.cells #[.slice r.A r.d.length r.c,.int .u64 (r.n:Int)] 134)
    have HCR:=Lib.hid (rwcheck_any r I _ (hro.below hbo) z0 z1 (HT.out.below (bb hbel hbo)))
    rw [hck] at HCR
    have HX:=Lib.hid (BlkAt.made wr 134 #[.slice r.A r.d.length r.c,.int .u64 (r.n:Int)])
    have HRv:=Lib.hid (hRv.more (.cells #[.slice r.A r.d.length r.c,.int .u64 (r.n:Int)] 134))
    have HOWN:=Lib.hid (own_below hown hbo)
    have HBO:=Lib.hid (bb hbel hbo)
    have HRO:=Lib.hid (hro.2.rd.below hbo)
    have HTK:=Lib.hid htk
    have HOL:=Lib.hid hown
    have HBS:=Lib.hid hbel.size
    have HRL:=Lib.hid hRv.lt
    clear hRv hown hbel hro htk hbo HS H0 hck z0 z1
    go_wp2_with fail
    refine HCR.out.mono ?_
    rintro e w2 ⟨rfl,hb2⟩
    have hB2:=bb HBO.out hb2
    have hx2:=HX.out.below hb2 HX.out.lt
    have hr2:=HRv.out.below hb2 HRv.out.lt
    have hown2:=own_below HOWN.out hb2
    have hrd2:=HRO.out.below hb2
    have hsz2:=hb2.size
    rw [World.size_alloc] at hsz2
    clear HCR HX HRv HOWN HBO HRO hb2 c0 c1
    go_wp2_with fail
    have r0:=hr2.cell 0
    have e0:=hx2.cell 0
    have e1:=hx2.cell 1
    simp at r0 e0 e1
    have HKY:Hid (∀ q:World,Below w2.heap.size w2 q→Calls Tryz.prog 76 #[.slice r.A r.d.length r.c] q fun e w' => e=.returned (.string (txt (dkey r.d)))∧Below q.heap.size q w'):=fun q hq => key12_any r.A r.c r.d q (hrd2.below hq) hmil
    have HX2:=Lib.hid hx2
    have HR2:=Lib.hid hr2
    have HOWN2:=Lib.hid hown2
    have HB2:=Lib.hid hB2
    have hRv:=hB2.size
    clear hx2 hr2 hown2 hrd2 hB2 hmil
    have hbW:Below w2.heap.size w2 w2:=b0
    have hlR:=HR2.out.lt
    have hneR:w.heap.size≠wr.heap.size:=by have:=HRL.out;omega
    have hneR2:=hneR.symm
    clear hbW
    refine wp_region_held_drew (S:=(fun q => q.cell? ⟨wr.heap.size,0,none⟩=some (.slice r.A r.d.length r.c)∧q.cell? ⟨wr.heap.size,1,none⟩=some (.int .u64 (r.n:Int)))) (by kernel_rfl) (by (try dsimp only);go_keep) (fun hHeld => ?_)
    refine wpAnyH_take (i:=1) (v:=?_) rfl (by kernel_rfl) (by kernel_rfl) (by kernel_rfl) (fun _ _ _ h => h) (Or.inl ⟨by rfl,?_⟩) (by assumption) ?_
    rotate_left
    · ((intro q hSq;(try dsimp only at hSq);go_simp);with_reducible rfl)
    refine wpAnyH_take (i:=2) (v:=?_) rfl (by kernel_rfl) (by kernel_rfl) (by kernel_rfl) (fun _ _ _ h => h) (Or.inl ⟨by rfl,?_⟩) (by assumption) ?_
    rotate_left
    · ((intro q hSq;(try dsimp only at hSq);go_simp);with_reducible rfl)
    refine wpAnyH_take (i:=3) (v:=?_) rfl (by kernel_rfl) (by kernel_rfl) (by kernel_rfl) (fun _ _ _ h => h) (Or.inl ⟨by rfl,?_⟩) (by assumption) ?_
    rotate_left
    · ((intro q hSq;(try dsimp only at hSq);go_simp);with_reducible rfl)
    refine wpAnyH_ready (rs:=[0,4]) (by kernel_rfl) (by simp) ?_
    refine AllReadyH.cons rfl (fun K hK => ?_) ?_
    · go_simp
      refine hK.out _ _ (by (try dsimp only);go_keep) (fun hHeld => ?_)
      clear hK K
      refine wpAnyH_ready (rs:=[4]) (by kernel_rfl) (by simp) ?_
      refine AllReadyH.cons rfl (fun K hK => ?_) AllReadyH.nil
      go_simp
      refine (HKY.out _ (bd b0)).mono ?_
      rintro e' W1 ⟨rfl,hb1'⟩
      have hbW:Below w2.heap.size w2 W1:=bb (bd b0) hb1'
      have hx1:=HX2.out.below hbW HX2.out.lt
      have hr1:=HR2.out.below hbW HR2.out.lt
      have hsW:=hbW.size
      have r0':=hr1.cell 0
      have e0':=hx1.cell 0
      have e1':=hx1.cell 1
      have hlR1:=hr1.lt
      have hlX1:=hx1.lt
      simp at r0' e0' e1'
      go_simp
      refine hK.out _ _ (by (try dsimp only);go_keep) (fun hHeld => ?_)
      clear hK K
      refine wpAnyH_take (i:=5) (v:=?_) rfl (by kernel_rfl) (by kernel_rfl) (by kernel_rfl) (fun _ _ _ h => h) (Or.inl ⟨by rfl,?_⟩) (by assumption) ?_
      rotate_left
      · ((intro q hSq;(try dsimp only at hSq);go_simp);with_reducible rfl)
      refine wpAnyH_ready (rs:=[6]) (by kernel_rfl) (by simp) ?_
      refine AllReadyH.cons rfl (fun K hK => ?_) AllReadyH.nil
      go_simp
      refine hK.out _ _ (by (try dsimp only);go_keep) (fun hHeld => ?_)
      clear hK K
      refine wpAnyH_ready (rs:=[7]) (by kernel_rfl) (by simp) ?_
      refine AllReadyH.cons rfl (fun K hK => ?_) AllReadyH.nil
      refine step_append_lies _ (by rfl) _ _ _ (by rfl) (w.heap.size+1) 333 i0 _ 3 48 Tryz.underlying331 hi0 hz0 hz1 hz2 rfl (by omega) v k ((l.take k).flatMap encK) (by rfl) ((own_below HOWN2.out hbW).alloc _) ⟨W1.heap.size,0,none⟩ 1 1 (encK r) (by rfl) (by rfl) (World.news_of_block (cs:=#[.slice r.A r.d.length r.c,.int .u64 (r.n:Int),.string (txt (dkey r.d))]) (t:=333) (fr:=(0,0)) (heap_alloc_new W1 _)) (by simp [encK,Value.oneCell']) (by omega) (by unfold maxLen;omega) (by omega) (by have:=hbW.size;simp;omega) (W1.heap.size+1) (by simp) ?_
      intro g cap3 w3 hown3 hg3 hat3 hlt3
      have hx3:=(hx1.more (.cells #[.slice r.A r.d.length r.c,.int .u64 (r.n:Int),.string (txt (dkey r.d))] 333)).step hg3 (by intro e;have:=(HOL.out.lt _ e.symm).2;omega)
      have hr3:=(hr1.more (.cells #[.slice r.A r.d.length r.c,.int .u64 (r.n:Int),.string (txt (dkey r.d))] 333)).step hg3 (by intro e;have:=(HOL.out.lt _ e.symm).1;omega)
      have p0:=hx3.cell 0
      have p1:=hx3.cell 1
      have q0:=hr3.cell 0
      have q1:=hr3.free 0
      simp at p0 p1 q0
      refine hK.out _ _ (by (try dsimp only);go_keep) (fun hHeld => ?_)
      clear hK K
      refine wpAnyH_ready (rs:=[8]) (by kernel_rfl) (by simp) ?_
      refine AllReadyH.cons rfl (fun K hK => ?_) AllReadyH.nil
      go_simp
      refine hK.out _ _ (by (try dsimp only);go_keep) (fun hHeld => ?_)
      clear hK K
      refine wpAnyH_done (by kernel_rfl) ?_ _
      have HN:Hid (Of13At w l (k+1) (w3.setCell ⟨w.heap.size,0,none⟩ (.slice (some ⟨g,0,none⟩) (k+1) cap3))):=by
       refine ⟨_,hr3.put 0 _,?_,?_⟩
       · rw [HTK.out,List.flatMap_append]
         refine own_tch (S:=fun q => q=w.heap.size) (xs:=(l.take k).flatMap encK++[r].flatMap encK) (by simpa using hown3) ((Tch.refl (fun q => q=w.heap.size) w3).put (p:=⟨w.heap.size,0,none⟩) (fun _ => rfl) _) fun q hq e => ?_
         have:=(hown3.lt q hq).1
         omega
       · have h1:=HB2.out.trans (hbW.mono hRv)
         have h2:=ba h1 (.cells #[.slice r.A r.d.length r.c,.int .u64 (r.n:Int),.string (txt (dkey r.d))] 333)
         exact (h2.grown hg3 h2.size fun q hq => by have:=(HOL.out.lt q hq).1;omega).setCell (p:=⟨w.heap.size,0,none⟩) (Nat.le_refl _) _
      clear hr3 hx3 p0 p1 q0 q1 hown3 hg3 hat3 hlt3 hbW hr1 hx1 r0' e0' e1' r0 e0 e1 HX2 HR2 HOWN2 HB2 HKY HTK
      go_wp2_with fail
      go_roundg (l.length - (k+1))
      case measure => omega
      case rel => exact ⟨k+1,by omega,Nat.le_refl _,by go_num,HN⟩
    · refine AllReadyH.cons rfl (fun K hK => ?_) AllReadyH.nil
      go_simp
      refine (HKY.out _ (bd b0)).mono ?_
      rintro e' W1 ⟨rfl,hb1'⟩
      have hbW:Below w2.heap.size w2 W1:=bb (bd b0) hb1'
      have hx1:=HX2.out.below hbW HX2.out.lt
      have hr1:=HR2.out.below hbW HR2.out.lt
      have hsW:=hbW.size
      have r0':=hr1.cell 0
      have e0':=hx1.cell 0
      have e1':=hx1.cell 1
      have hlR1:=hr1.lt
      have hlX1:=hx1.lt
      simp at r0' e0' e1'
      go_simp
      refine hK.out _ _ (by (try dsimp only);go_keep) (fun hHeld => ?_)
      clear hK K
      refine wpAnyH_take (i:=5) (v:=?_) rfl (by kernel_rfl) (by kernel_rfl) (by kernel_rfl) (fun _ _ _ h => h) (Or.inl ⟨by rfl,?_⟩) (by assumption) ?_
      rotate_left
      · ((intro q hSq;(try dsimp only at hSq);go_simp);with_reducible rfl)
      refine wpAnyH_ready (rs:=[0,6]) (by kernel_rfl) (by simp) ?_
      refine AllReadyH.cons rfl (fun K hK => ?_) ?_
      · go_simp
        refine hK.out _ _ (by (try dsimp only);go_keep) (fun hHeld => ?_)
        clear hK K
        refine wpAnyH_ready (rs:=[6]) (by kernel_rfl) (by simp) ?_
        refine AllReadyH.cons rfl (fun K hK => ?_) AllReadyH.nil
        go_simp
        refine hK.out _ _ (by (try dsimp only);go_keep) (fun hHeld => ?_)
        clear hK K
        refine wpAnyH_ready (rs:=[7]) (by kernel_rfl) (by simp) ?_
        refine AllReadyH.cons rfl (fun K hK => ?_) AllReadyH.nil
        refine step_append_lies _ (by rfl) _ _ _ (by rfl) (w.heap.size+1) 333 i0 _ 3 48 Tryz.underlying331 hi0 hz0 hz1 hz2 rfl (by omega) v k ((l.take k).flatMap encK) (by rfl) ((own_below HOWN2.out hbW).alloc _) ⟨W1.heap.size,0,none⟩ 1 1 (encK r) (by rfl) (by rfl) (World.news_of_block (cs:=#[.slice r.A r.d.length r.c,.int .u64 (r.n:Int),.string (txt (dkey r.d))]) (t:=333) (fr:=(0,0)) (heap_alloc_new W1 _)) (by simp [encK,Value.oneCell']) (by omega) (by unfold maxLen;omega) (by omega) (by have:=hbW.size;simp;omega) (W1.heap.size+1) (by simp) ?_
        intro g cap3 w3 hown3 hg3 hat3 hlt3
        have hx3:=(hx1.more (.cells #[.slice r.A r.d.length r.c,.int .u64 (r.n:Int),.string (txt (dkey r.d))] 333)).step hg3 (by intro e;have:=(HOL.out.lt _ e.symm).2;omega)
        have hr3:=(hr1.more (.cells #[.slice r.A r.d.length r.c,.int .u64 (r.n:Int),.string (txt (dkey r.d))] 333)).step hg3 (by intro e;have:=(HOL.out.lt _ e.symm).1;omega)
        have p0:=hx3.cell 0
        have p1:=hx3.cell 1
        have q0:=hr3.cell 0
        have q1:=hr3.free 0
        simp at p0 p1 q0
        refine hK.out _ _ (by (try dsimp only);go_keep) (fun hHeld => ?_)
        clear hK K
        refine wpAnyH_ready (rs:=[8]) (by kernel_rfl) (by simp) ?_
        refine AllReadyH.cons rfl (fun K hK => ?_) AllReadyH.nil
        go_simp
        refine hK.out _ _ (by (try dsimp only);go_keep) (fun hHeld => ?_)
        clear hK K
        refine wpAnyH_done (by kernel_rfl) ?_ _
        have HN:Hid (Of13At w l (k+1) (w3.setCell ⟨w.heap.size,0,none⟩ (.slice (some ⟨g,0,none⟩) (k+1) cap3))):=by
         refine ⟨_,hr3.put 0 _,?_,?_⟩
         · rw [HTK.out,List.flatMap_append]
           refine own_tch (S:=fun q => q=w.heap.size) (xs:=(l.take k).flatMap encK++[r].flatMap encK) (by simpa using hown3) ((Tch.refl (fun q => q=w.heap.size) w3).put (p:=⟨w.heap.size,0,none⟩) (fun _ => rfl) _) fun q hq e => ?_
           have:=(hown3.lt q hq).1
           omega
         · have h1:=HB2.out.trans (hbW.mono hRv)
           have h2:=ba h1 (.cells #[.slice r.A r.d.length r.c,.int .u64 (r.n:Int),.string (txt (dkey r.d))] 333)
           exact (h2.grown hg3 h2.size fun q hq => by have:=(HOL.out.lt q hq).1;omega).setCell (p:=⟨w.heap.size,0,none⟩) (Nat.le_refl _) _
        clear hr3 hx3 p0 p1 q0 q1 hown3 hg3 hat3 hlt3 hbW hr1 hx1 r0' e0' e1' r0 e0 e1 HX2 HR2 HOWN2 HB2 HKY HTK
        go_wp2_with fail
        go_roundg (l.length - (k+1))
        case measure => omega
        case rel => exact ⟨k+1,by omega,Nat.le_refl _,by go_num,HN⟩
      · refine AllReadyH.cons rfl (fun K hK => ?_) AllReadyH.nil
        go_simp
        refine hK.out _ _ (by (try dsimp only);go_keep) (fun hHeld => ?_)
        clear hK K
        refine wpAnyH_ready (rs:=[0]) (by kernel_rfl) (by simp) ?_
        refine AllReadyH.cons rfl (fun K hK => ?_) AllReadyH.nil
        go_simp
        refine hK.out _ _ (by (try dsimp only);go_keep) (fun hHeld => ?_)
        clear hK K
        refine wpAnyH_ready (rs:=[7]) (by kernel_rfl) (by simp) ?_
        refine AllReadyH.cons rfl (fun K hK => ?_) AllReadyH.nil
        refine step_append_lies _ (by rfl) _ _ _ (by rfl) (w.heap.size+1) 333 i0 _ 3 48 Tryz.underlying331 hi0 hz0 hz1 hz2 rfl (by omega) v k ((l.take k).flatMap encK) (by rfl) ((own_below HOWN2.out hbW).alloc _) ⟨W1.heap.size,0,none⟩ 1 1 (encK r) (by rfl) (by rfl) (World.news_of_block (cs:=#[.slice r.A r.d.length r.c,.int .u64 (r.n:Int),.string (txt (dkey r.d))]) (t:=333) (fr:=(0,0)) (heap_alloc_new W1 _)) (by simp [encK,Value.oneCell']) (by omega) (by unfold maxLen;omega) (by omega) (by have:=hbW.size;simp;omega) (W1.heap.size+1) (by simp) ?_
        intro g cap3 w3 hown3 hg3 hat3 hlt3
        have hx3:=(hx1.more (.cells #[.slice r.A r.d.length r.c,.int .u64 (r.n:Int),.string (txt (dkey r.d))] 333)).step hg3 (by intro e;have:=(HOL.out.lt _ e.symm).2;omega)
        have hr3:=(hr1.more (.cells #[.slice r.A r.d.length r.c,.int .u64 (r.n:Int),.string (txt (dkey r.d))] 333)).step hg3 (by intro e;have:=(HOL.out.lt _ e.symm).1;omega)
        have p0:=hx3.cell 0
        have p1:=hx3.cell 1
        have q0:=hr3.cell 0
        have q1:=hr3.free 0
        simp at p0 p1 q0
        refine hK.out _ _ (by (try dsimp only);go_keep) (fun hHeld => ?_)
        clear hK K
        refine wpAnyH_ready (rs:=[8]) (by kernel_rfl) (by simp) ?_
        refine AllReadyH.cons rfl (fun K hK => ?_) AllReadyH.nil
        go_simp
        refine hK.out _ _ (by (try dsimp only);go_keep) (fun hHeld => ?_)
        clear hK K
        refine wpAnyH_done (by kernel_rfl) ?_ _
        have HN:Hid (Of13At w l (k+1) (w3.setCell ⟨w.heap.size,0,none⟩ (.slice (some ⟨g,0,none⟩) (k+1) cap3))):=by
         refine ⟨_,hr3.put 0 _,?_,?_⟩
         · rw [HTK.out,List.flatMap_append]
           refine own_tch (S:=fun q => q=w.heap.size) (xs:=(l.take k).flatMap encK++[r].flatMap encK) (by simpa using hown3) ((Tch.refl (fun q => q=w.heap.size) w3).put (p:=⟨w.heap.size,0,none⟩) (fun _ => rfl) _) fun q hq e => ?_
           have:=(hown3.lt q hq).1
           omega
         · have h1:=HB2.out.trans (hbW.mono hRv)
           have h2:=ba h1 (.cells #[.slice r.A r.d.length r.c,.int .u64 (r.n:Int),.string (txt (dkey r.d))] 333)
           exact (h2.grown hg3 h2.size fun q hq => by have:=(HOL.out.lt q hq).1;omega).setCell (p:=⟨w.heap.size,0,none⟩) (Nat.le_refl _) _
        clear hr3 hx3 p0 p1 q0 q1 hown3 hg3 hat3 hlt3 hbW hr1 hx1 r0' e0' e1' r0 e0 e1 HX2 HR2 HOWN2 HB2 HKY HTK
        go_wp2_with fail
        go_roundg (l.length - (k+1))
        case measure => omega
        case rel => exact ⟨k+1,by omega,Nat.le_refl _,by go_num,HN⟩
  · obtain rfl:k=l.length:=by omega
    rw [List.take_of_length_le (Nat.le_refl _),HL2.out,HXY.out] at hown
    obtain ⟨g,cap,hv,hgR⟩:∃ g cap,v=.slice (some ⟨g,0,none⟩) 2 cap∧w.heap.size < g:=by
     rcases hown.2 with ⟨_,h0⟩ | ⟨g,cap,cur,hv,hb,_⟩
     · exact absurd h0 (by decide)
     · exact ⟨g,cap,hv,by omega⟩
    subst hv
    have hRc:wr.cell? ⟨w.heap.size,0,none⟩=some (.slice (some ⟨g,0,none⟩) 2 cap):=hRv.cell 0
    have HSO:=Lib.hid (sort13_two hown hRc (by omega) hRv.lt hlt)
    have HRv:=Lib.hid hRv
    have HBE:=Lib.hid hbel
    have hgw:g < wr.heap.size:=by
     rcases hown.2 with ⟨h0,_⟩ | ⟨g',cap',cur,hv,hb,hg,_⟩
     · cases h0
     · injection hv with e1
       injection e1 with e1
       injection e1 with e1
       subst e1
       exact (Array.getElem?_eq_some_iff.1 hg).1
    have hpart:∀ r ∈ l,Rd w r.A (ents r.d)∧r.d≠[]∧r.d.length≤1000000:=fun r hr => by
     obtain ⟨h1,h2,h3⟩:=dchk_mil (rwchk_dchk (HCK.out r hr))
     exact ⟨(HO.out r hr).2.rd,h3,Nat.le_trans h2 (by decide)⟩
    obtain ⟨hx1,hx2,hx3⟩:=hpart x (by rw [HXY.out];simp)
    obtain ⟨hy1',hy2',hy3⟩:=hpart y (by rw [HXY.out];simp)
    clear hpart hRv hown hbel HS H0 hlt HR HO HZ HT HCK
    obtain ⟨i1,hi1,hy0,hy1,hy2⟩:=info_parts info_row
    go_wp2_with fail
    refine HSO.out.mono ?_
    rintro e w5 ⟨rfl,hown5,hg5⟩
    have hr5:=HRv.out.step hg5 (by intro e;injection e with e;omega)
    have r5:w5.cell? ⟨w.heap.size,0,none⟩=some (.slice (some ⟨g,0,none⟩) 2 cap):=hr5.cell 0
    obtain ⟨w6,hmk,hown6,hg6⟩:=run_make_own (P:=Tryz.prog) w5 w5.heap.size 26 134 i1 zrow 2 Tryz.underlying26 hi1 hy0 hy1 .i64 .i64 2 (by rw [hy2];omega) (by unfold maxLen;omega) (Nat.le_refl _)
    have hb5:Below w.heap.size w w5:=HBE.out.trans (below_of_row hg5 (Nat.le_of_lt hgR) HBE.out.size)
    have hr6:=hr5.step hg6 (by simp)
    have r6:w6.cell? ⟨w.heap.size,0,none⟩=some (.slice (some ⟨g,0,none⟩) 2 cap):=hr6.cell 0
    have hown5':=own_below hown5 (below_of_grown hg6)
    have hb6:=hb5.trans ((below_of_grown hg6).mono hb5.size)
    have hkd:Rd w6 (some ⟨g,0,none⟩) ([y,x].flatMap encK):=by
     obtain ⟨A',c',h1,h2,_⟩:=Rd.own hown5'
     injection h1 with h1 _ h3
     rw [h1];exact h2
    have hc6:∀ (j:Nat) (u:Value),([y,x].flatMap encK)[j]? = some u→w6.cell? ⟨g,j,none⟩=some u:=fun j u hj => by
     rcases hkd with h | ⟨b',off',e,_,hc⟩
     · cases h
     · injection e with e
       injection e with e1 e2
       subst e1 e2
       have:=hc j u hj
       rwa [Nat.zero_add] at this
    have g0:=hc6 0 _ rfl
    have g1:=hc6 1 _ rfl
    have g2:=hc6 2 _ rfl
    have hmk2:Sem.run Tryz.prog (Instr.makeSlice 26 (Value.int IntKind.i64 0) (Value.int IntKind.i64 2)) w5=Result.ok (Value.slice (some ⟨w5.heap.size,0,none⟩) 0 2) w6:=hmk
    have HYR:=Lib.hid (hy1'.below hb6)
    have HXR:=Lib.hid hx1
    have hgl:g < w5.heap.size:=Nat.lt_of_lt_of_le hgw hg5.size
    have hRl5:=hr5.lt
    have hs56:=hg6.size
    have hl56:w5.heap.size < w6.heap.size:=(hown6.lt _ rfl).2
    have HOWN6:=Lib.hid hown6
    have HR6:=Lib.hid hr6
    have HKD:=Lib.hid hkd
    have HB6:=Lib.hid hb6
    clear hmk hown6 hr6 hkd hb6 hown5' hown5 hr5 hb5 hc6 hx1 hy1'
    go_wp2_with fail
    refine wp_loop_rounds 3 ?_
    rw [rounds_succ]
    go_wp2_with fail
    go_quiet (fail)
    go_wp2_with fail
    have hq6:Below w6.heap.size w6 ((w6.alloc (.cells #[.slice y.A y.d.length y.c,.int .u64 (y.n:Int),.string (txt (dkey y.d))] 333)).drewN nq):=below_drewN (ba b0 _) nq
    refine (rclone_any (HYR.out.below hq6) hy3 hy2').mono ?_
    rintro e w7 ⟨A7,c7,rfl,hro7,hb7⟩
    have hB7:Below w6.heap.size w6 w7:=bb hq6 hb7
    have hs7:=hB7.size
    obtain ⟨A8,c8,w8,hrun8,hown8,hg8,hat8⟩:=rapp_run (l:=[]) (r:=⟨y.d,A7,c7,y.n⟩) (w:=w7.alloc (.cells #[.slice A7 y.d.length c7,.int .u64 (y.n:Int)] 134)) (g:=w7.heap.size) (d:=1) 26 26 134 i1 Tryz.underlying26 hi1 hy0 hy1 hy2 ((own_below HOWN6.out hB7).alloc _) (rd_made w7 ⟨y.d,A7,c7,y.n⟩ A7 rfl) (by decide) (by simp;omega)
    have hro7':RvOk w7 (w6.heap.size≤·) ⟨y.d,A7,c7,y.n⟩:=hro7.imp fun q _ hq => by simp at hq;omega
    have hG8:w6.grownBy w8 (some w5.heap.size):=grown_trans (grown_of_below (ba hB7 (.cells #[.slice A7 y.d.length c7,.int .u64 (y.n:Int)] 134)) _) hg8 fun q e hq => by
     rw [← e];rfl
    have hr8:=HR6.out.step hG8 (by intro e;injection e with e;omega)
    have hk8:=HKD.out.tch (S:=fun q => q=w5.heap.size) (Tch.grown hG8 fun q hq _ => by injection hq with hq;exact hq.symm) fun b off e => by injection e with e;injection e with e1;omega
    have HB8:Hid (Below w.heap.size w w8):=HB6.out.trans (below_of_row hG8 (by have:=HB6.out.size;omega) HB6.out.size)
    have HRO8:Hid (RvOk w8 (fun q => w6.heap.size≤q∧q < w7.heap.size) ⟨y.d,A7,c7,y.n⟩):=by
     have h1:=hro7'.imp (J:=fun q => w6.heap.size≤q∧q < w7.heap.size) fun q hq h => ⟨h,hq⟩
     refine (h1.below (ba b0 (.cells #[.slice A7 y.d.length c7,.int .u64 (y.n:Int)] 134))).tch (S:=fun q => q=w5.heap.size) (Tch.grown hg8 fun q hq _ => by injection hq with hq;exact hq.symm) fun q hq e => ?_
     have:=hq.1
     omega
    have hrunA:Sem.run Tryz.prog (Builtin.append_ #[26,26] 26 #[.slice (some ⟨w5.heap.size,0,none⟩) 0 2,.slice (some ⟨w7.heap.size,0,none⟩) 1 1]) (w7.alloc (.cells #[.slice A7 y.d.length c7,.int .u64 (y.n:Int)] 134))=.ok (.slice A8 1 c8) w8:=hrun8
    have hownA:w8.ownsRow w5.heap.size 134 2 (.slice A8 1 c8) 1 (rvs [⟨y.d,A7,c7,y.n⟩]):=hown8
    have hatA:(Value.slice A8 1 c8).ownBlock=some w5.heap.size∨(Value.slice A8 1 c8).ownBlock=some (w7.heap.size+1):=by
     rcases hat8 with h | h
     · left;exact h
     · right;rw [World.size_alloc] at h;exact h
    have hs8:=hg8.size
    rw [World.size_alloc] at hs8
    have HRA:=Lib.hid hrunA
    have HOA:=Lib.hid hownA
    have HATA:=Lib.hid hatA
    have HR8:=Lib.hid hr8
    have HK8:=Lib.hid hk8
    clear hrun8 hown8 hg8 hat8 hro7 hro7' hb7 hq6 hB7 hG8 hr8 hk8 hrunA hownA hatA g0 g1 g2 r6 HYR HR6 HKD HB6 HOWN6
    go_wp2_with (at_builtin;(refine wpList_append_run rfl _ _ _ _ rfl _ _ _ rfl rfl HRA.out ?_))
    have hc8:∀ (j:Nat) (u:Value),([y,x].flatMap encK)[j]? = some u→w8.cell? ⟨g,j,none⟩=some u:=fun j u hj => by
     rcases HK8.out with h | ⟨b',off',e,_,hc⟩
     · cases h
     · injection e with e
       injection e with e1 e2
       subst e1 e2
       have:=hc j u hj
       rwa [Nat.zero_add] at this
    have g2:=hc8 2 _ rfl
    have g3:=hc8 3 _ rfl
    have g4:=hc8 4 _ rfl
    have g5:=hc8 5 _ rfl
    have r8:w8.cell? ⟨w.heap.size,0,none⟩=some (.slice (some ⟨g,0,none⟩) 2 cap):=HR8.out.cell 0
    have hlg8:g < w8.heap.size:=by omega
    have hlR8:w.heap.size < w8.heap.size:=by omega
    clear hc8
    rw [rounds_succ]
    go_wp2_with fail
    go_quiet (fail)
    go_wp2_with fail
    have hq8:Below w8.heap.size w8 ((w8.alloc (.cells #[.slice x.A x.d.length x.c,.int .u64 (x.n:Int),.string (txt (dkey x.d))] 333)).drewN nq):=below_drewN (ba b0 _) nq
    refine (rclone_any (HXR.out.below (HB8.out.trans (hq8.mono HB8.out.size))) hx3 hx2).mono ?_
    rintro e w9 ⟨A9,c9,rfl,hro9,hb9⟩
    have hB9:Below w8.heap.size w8 w9:=bb hq8 hb9
    have hs9:=hB9.size
    obtain ⟨A10,c10,w10,hrun10,hown10,hg10,hat10⟩:=rapp_run (l:=[⟨y.d,A7,c7,y.n⟩]) (r:=⟨x.d,A9,c9,x.n⟩) (w:=w9.alloc (.cells #[.slice A9 x.d.length c9,.int .u64 (x.n:Int)] 134)) (g:=w9.heap.size) (d:=1) (A:=A8) (c:=c8) 26 26 134 i1 Tryz.underlying26 hi1 hy0 hy1 hy2 ((own_below HOA.out hB9).alloc _) (rd_made w9 ⟨x.d,A9,c9,x.n⟩ A9 rfl) (by simp) (by simp;omega)
    have hl8:=fun q (hq:(Value.slice A8 1 c8).ownBlock=some q) => HOA.out.lt q hq
    have hro9':RvOk w10 (w.heap.size≤·) ⟨x.d,A9,c9,x.n⟩:=by
     have h1:=hro9.imp (J:=fun q => w8.heap.size≤q) fun q _ hq => by simp at hq;omega
     refine ((h1.below (ba b0 (.cells #[.slice A9 x.d.length c9,.int .u64 (x.n:Int)] 134))).tch (S:=fun q => (Value.slice A8 1 c8).ownBlock=some q) (Tch.grown hg10 fun q hq _ => hq) fun q hq e => ?_).imp fun q _ hq => Nat.le_trans HB8.out.size hq
     have:=(hl8 q e).2
     omega
    have hro7a:RvOk w10 (w.heap.size≤·) ⟨y.d,A7,c7,y.n⟩:=by
     refine (((HRO8.out.below hB9).below (ba b0 (.cells #[.slice A9 x.d.length c9,.int .u64 (x.n:Int)] 134))).tch (S:=fun q => (Value.slice A8 1 c8).ownBlock=some q) (Tch.grown hg10 fun q hq _ => hq) fun q hq e => ?_).imp fun q _ hq => by have:=hq.1;omega
     rcases HATA.out with h | h
     · rw [h] at e
       injection e with e
       have:=hq.1
       omega
     · rw [h] at e
       injection e with e
       have:=hq.2
       omega
    have hrunB:Sem.run Tryz.prog (Builtin.append_ #[26,26] 26 #[.slice A8 1 c8,.slice (some ⟨w9.heap.size,0,none⟩) 1 1]) (w9.alloc (.cells #[.slice A9 x.d.length c9,.int .u64 (x.n:Int)] 134))=.ok (.slice A10 2 c10) w10:=hrun10
    have hownB:w10.ownsRow w5.heap.size 134 2 (.slice A10 2 c10) 2 (rvs [⟨y.d,A7,c7,y.n⟩,⟨x.d,A9,c9,x.n⟩]):=hown10
    have hB10:Below w.heap.size w w10:=by
     have h1:=HB8.out.trans (hB9.mono HB8.out.size)
     exact (ba h1 (.cells #[.slice A9 x.d.length c9,.int .u64 (x.n:Int)] 134)).grown hg10 (ba h1 (.cells #[.slice A9 x.d.length c9,.int .u64 (x.n:Int)] 134)).size fun q hq => by have:=(hl8 q hq).1;omega
    have HE:Hid (TbN w.heap.size w10 (.slice A10 2 c10) [y.rw,x.rw]∧Below w.heap.size w w10):=by
     obtain ⟨A',c',h1,h2,h3,h4⟩:=Rd.own hownB
     injection h1 with e1 _ e3
     subst e1 e3
     exact ⟨⟨[⟨y.d,A7,c7,y.n⟩,⟨x.d,A9,c9,x.n⟩],A10,c10,rfl,rfl,h2,fun r hr => by
      simp only [List.mem_cons,List.not_mem_nil,or_false] at hr
      rcases hr with rfl | rfl
      · exact hro7a
      · exact hro9',h3,fun b off e => by have:=(h4 b off e).2;omega⟩,hB10⟩
    have hlR10:=HR8.out.lt
    have HRB:=Lib.hid hrunB
    have hr10:w10.cell? ⟨w.heap.size,0,none⟩=some (.slice (some ⟨g,0,none⟩) 2 cap):=(((HR8.out.below hB9 HR8.out.lt).more (.cells #[.slice A9 x.d.length c9,.int .u64 (x.n:Int)] 134)).step hg10 (by intro e;have:=(hl8 _ e.symm).1;omega)).cell 0
    clear hrun10 hown10 hg10 hat10 hro9 hro9' hro7a hb9 hq8 hB9 hrunB hownB hB10 hl8 g2 g3 g4 g5 r8 HRA HOA HATA HR8 HK8 HRO8 HB8 HXR
    go_wp2_with (at_builtin;(refine wpList_append_run rfl _ _ _ _ rfl _ _ _ rfl rfl HRB.out ?_))
    rw [rounds_succ]
    go_wp2_with fail
    go_ret2
    exact ⟨_,rfl,HE.out.1,HE.out.2⟩
end Go.Proofs.YtgidfnhfgiehjaaGreatDoor
end

section
namespace Go.Proofs.YtgidfnhfgiehjaaGreatDoor
open Go.RowKit Go.PM
set_option maxRecDepth 100000
set_option maxHeartbeats 4000000
attribute [local go_sem ↓] Go.wp_at_zero Go.wp_at_succ
theorem exam14a:pone [] [117,115,101,114]=[0,4,117,115,101,114]:=by
 have e0:vput 0=[0]:=by rw [vput_small (by omega)];rfl
 have e4:vput 4=[4]:=by rw [vput_small (by omega)];rfl
 have p:pcom [] [117,115,101,114]=0:=by decide
 unfold pone
 rw [p]
 show vput 0++(vput 4++_)=_
 rw [e0,e4]
 rfl
theorem exam14b:pone [117,115,101,114] [117,115,101,114,115]=[4,1,115]:=by
 have e1:vput 1=[1]:=by rw [vput_small (by omega)];rfl
 have e4:vput 4=[4]:=by rw [vput_small (by omega)];rfl
 have p:pcom [117,115,101,114] [117,115,101,114,115]=4:=by decide
 unfold pone
 rw [p]
 show vput 4++(vput 1++_)=_
 rw [e1,e4]
 rfl
theorem put14_two (b c:Nat) (w:World) (hblt:b < w.heap.size) (c0:w.cell? ⟨b,0,none⟩=some (.string ⟨#[117,115,101,114]⟩)) (c1:w.cell? ⟨b,1,none⟩=some (.string ⟨#[117,115,101,114,115]⟩)) :
 Calls Tryz.prog 255 #[.slice (some ⟨b,0,none⟩) 2 c] w fun e w' => e=.returned (.tuple #[.string ⟨#[0,4,117,115,101,114,4,1,115]⟩,.int .i64 0])∧Below w.heap.size w w':=by
 have H1:Hid (∀ x:World,Calls Tryz.prog 147 #[.string ⟨#[]⟩,.string ⟨#[117,115,101,114]⟩] x fun e w' => e=.returned (.string ⟨#[0,4,117,115,101,114]⟩)∧Below x.heap.size x w'):=fun x => by
  have:=one14_any ⟨#[]⟩ ⟨#[117,115,101,114]⟩ x (by decide) (by decide)
  rw [show (ByteArray.mk #[]).data.toList=[] from rfl,show (ByteArray.mk #[117,115,101,114]).data.toList=[117,115,101,114] from rfl,exam14a] at this
  exact this
 have H2:Hid (∀ x:World,Calls Tryz.prog 147 #[.string ⟨#[117,115,101,114]⟩,.string ⟨#[117,115,101,114,115]⟩] x fun e w' => e=.returned (.string ⟨#[4,1,115]⟩)∧Below x.heap.size x w'):=fun x => by
  have:=one14_any ⟨#[117,115,101,114]⟩ ⟨#[117,115,101,114,115]⟩ x (by decide) (by decide)
  rw [show (ByteArray.mk #[117,115,101,114]).data.toList=[117,115,101,114] from rfl,show (ByteArray.mk #[117,115,101,114,115]).data.toList=[117,115,101,114,115] from rfl,exam14b] at this
  exact this
 have hleq:(Op.bytesLess (ByteArray.mk #[117,115,101,114,115]).toList (ByteArray.mk #[117,115,101,114]).toList || (ByteArray.mk #[117,115,101,114,115]).toList == (ByteArray.mk #[117,115,101,114]).toList)=false:=by
  rw [leq_cmp,ByteArray.toList_eq,ByteArray.toList_eq]
  decide
 have hbo:=ba (a:=w) b0 (.cells #[.pointer none,.slice none 0 0] 222)
 have HBO:=Lib.hid hbo
 have HBL:=Lib.hid (bld_new w)
 clear hbo
 go_enter Tryz.func255,Tryz.ntmps255
 go_wp2_with fail
 refine wp_loop_rounds 3 ?_
 rw [rounds_succ]
 go_wp2_with fail
 refine (H1.out _).mono ?_
 rintro e w1 ⟨rfl,hb1⟩
 have hB1:=bb HBO.out hb1
 have HW:=Lib.hid (wstr_any w.heap.size w.heap.size [] ⟨#[0,4,117,115,101,114]⟩ w1 (HBL.out.below hb1) (by decide) hB1.size)
 have HB1:=Lib.hid hB1
 clear hb1 hB1 HBL HBO H1
 go_wp2_with fail
 refine HW.out.mono ?_
 rintro e w2 ⟨rfl,hbl2,hb2⟩
 have HB2:=Lib.hid (HB1.out.trans hb2)
 have HBL2:=Lib.hid hbl2
 have c1':=(HB2.out.cell (p:=⟨b,1,none⟩) hblt).trans c1
 clear hbl2 hb2 HW HB1
 go_wp2_with fail
 rw [rounds_succ]
 go_wp2_with fail
 refine (H2.out _).mono ?_
 rintro e w3 ⟨rfl,hb3⟩
 have hB3:=bb HB2.out hb3
 have HW:=Lib.hid (wstr_any w.heap.size w.heap.size _ ⟨#[4,1,115]⟩ w3 (HBL2.out.below hb3) (by decide) hB3.size)
 have HB3:=Lib.hid hB3
 clear hb3 hB3 HBL2 HB2 H2
 go_wp2_with fail
 refine HW.out.mono ?_
 rintro e w4 ⟨rfl,hbl4,hb4⟩
 have HB4:=Lib.hid (HB3.out.trans hb4)
 have HST:=Lib.hid (str12_any _ _ _ _ hbl4 HB4.out.size)
 clear hbl4 hb4 HW HB3
 go_wp2_with fail
 rw [rounds_succ]
 go_wp2_with fail
 refine HST.out.mono ?_
 rintro e w5 ⟨rfl,hb5⟩
 have HB5:=Lib.hid (HB4.out.trans hb5)
 clear hb5
 go_wp2_with fail
 go_ret2
 exact ⟨rfl,HB5.out⟩
end Go.Proofs.YtgidfnhfgiehjaaGreatDoor
end

section
namespace Go.Proofs.YtgidfnhfgiehjaaGreatDoor
open Go.RowKit Go.PM Go.Sort
set_option maxRecDepth 100000
set_option maxHeartbeats 1000000
attribute [local go_sem ↓] Go.wp_at_zero Go.wp_at_succ
theorem ltOf_ecm (x y:Ent):ltOf ecm x y=decide (ecm x y < 0):=rfl
theorem swo_ecm:SWO (ltOf ecm) where
 irrefl x:=by rw [ltOf_ecm,(ecm_iff x x).2 rfl];rfl
 trans x y z h1 h2:=by
  rw [ltOf_ecm] at *
  simp only [decide_eq_true_eq] at *
  exact ecm_trans h1 h2
 ntrans x y z h1 h2:=by
  rw [ltOf_ecm] at *
  simp only [decide_eq_false_iff_not] at *
  have a1:=ecm_neg x y
  have a2:=ecm_neg y z
  have a3:=ecm_neg x z
  have:=ecm_le_trans (a:=z) (b:=y) (c:=x) (by omega) (by omega)
  omega
theorem ecmpG_any (x y:Ent) (W:World):Calls Tryz.prog 289 #[.agg (encE x).toArray,.agg (encE y).toArray] W fun e w' => e=.returned (.int .i64 (ecm x y))∧∃ q os',w'=grow (W.drewN q) os':=by
 refine (ecmp_any (txt x.1) (txt x.2) (txt y.1) (txt y.2) W).mono ?_
 rintro e w' ⟨rfl,rfl⟩
 exact ⟨rfl,0,_,by rw [alloc_eq_grow,alloc_eq_grow,grow_grow];rfl⟩
def SortEnd12 (w:World) (base g cap:Nat) (l:List Ent) (e:Ending) (w':World):Prop :=
 e=.returned (.tuple #[])∧w'.ownsRow base 132 2 (.slice (some ⟨g,0,none⟩) l.length cap) l.length (ents (esort l))∧w.grownBy w' (some g)
theorem sort12_any {w:World} {base g cap:Nat} {l:List Ent} (hown:w.ownsRow base 132 2 (.slice (some ⟨g,0,none⟩) l.length cap) l.length (ents l)) (hl:l.length≤1000000) :
 Calls Tryz.prog 288 #[.slice (some ⟨g,0,none⟩) l.length cap,.func (.func 289) #[] #[]] w (SortEnd12 w base g cap l):=by
 have hdl:l.toArray.size=l.length:=by simp
 obtain ⟨hH,hg,hbg⟩:=holdsK_own (enc:=encE) (k:=2) encE_len (by decide) l.toArray hdl hown (by simp [ents])
 have eg:∀ args w,(callFunc 289 args).run Tryz.prog w=.ok (.enter 289 args) w:=enters_of Tryz.func289 (by kernel_rfl) rfl
 have hlim:Lib.bitLen l.toArray.size < 4611686018427387904:=Nat.lt_of_le_of_lt (Lib.bitLen_le l.toArray.size 62 (by omega) (by omega)) (by omega)
 have hp:=AnyQ.pdqsortCmpFunc_all Tryz.sortEnt 2 Tryz.isAgg132 Tryz.sizeOf132 encE ecm 289 #[] swo_ecm g 0 cap l.toArray w eg
  (fun _ _ _ _ x y => ecmpG_any x y _) ⟨encE_len,encE_one,hH,hg⟩ (l.toArray.size+1) 0 l.toArray.size (Lib.bitLen l.toArray.size) l.toArray w (by omega) rfl (SWK.start hH) (Nat.zero_le _) (Nat.le_refl _) (by omega) hlim (Or.inl rfl)
 rw [hdl] at hp hlim
 change Calls Tryz.prog 296 _ _ _ at hp
 have hbl:=Tryz.bits_Len (l.length:Int) w (by omega) (by omega)
 rw [Int.toNat_natCast] at hbl
 have wr:IntKind.u64.wrap (l.length:Int)=l.length:=by rw [IntKind.wrap_u64];omega
 have HP:=Lib.hid hp
 have HL:=Lib.hid hbl
 have HE:Hid (∀ n os,SortEnd12 w base g cap l (.returned (.tuple #[])) (sortWorldK encE 2 w g 0 n (pdq (ltOf ecm) l.toArray 0 l.length (Lib.bitLen l.length) true true) os)):=fun n os => by
  obtain ⟨h1,h2⟩:=pdq_sorts (ltOf ecm) swo_ecm l.toArray 0 l.length (Lib.bitLen l.length) true true (Nat.zero_le _) (by omega) (Or.inl rfl)
  generalize pdq (ltOf ecm) l.toArray 0 l.length (Lib.bitLen l.length) true true=d' at h1 h2
  rw [← hdl] at h1
  have hp2:=permIn_all h1
  have hsz:d'.size=l.length:=by rw [h1.1,hdl]
  have hs2:=sortedIn_all h2 hsz
  have e1:d'.toList=esort l:=by
   refine esort_of (by simpa using hp2) (hs2.imp fun {a b} h => ?_)
   rw [ltOf_ecm,decide_eq_false_iff_not] at h
   have:=ecm_neg a b
   omega
  refine ⟨rfl,?_,grownBy_sortedK d'⟩
  have:=own_sortedK (enc:=encE) (k:=2) (m:=n) (os:=os) encE_len (by decide) d' hsz hown
  rw [e1] at this
  exact this
 clear hp hbl hH hown eg hlim hdl
 generalize Lib.bitLen l.length=B at *
 go_enter Tryz.func288,Tryz.ntmps288
 go_wp2_with fail
 refine HL.out.mono ?_
 rintro e w1 ⟨rfl,rfl⟩
 go_wp2_with fail
 refine HP.out.mono ?_
 rintro e w2 ⟨rfl,n,os,rfl⟩
 go_wp2_with fail
 go_end0
 exact HE.out n os
theorem clone12_any {w:World} {A:Option Addr} {c:Nat} {l:List Ent} (hr:Rd w A (ents l)) (hl:l.length≤1000000) (h0:l≠[]) :
 Calls Tryz.prog 287 #[.slice A l.length c] w fun e w' => ∃ g cap,e=.returned (.slice (some ⟨g,0,none⟩) l.length cap)∧w'.ownsRow w.heap.size 132 2 (.slice (some ⟨g,0,none⟩) l.length cap) l.length (ents l)∧Below w.heap.size w w':=by
 obtain ⟨i0,hi0,hz0,hz1,hz2⟩:=info_parts info_ent
 have hpos:=List.length_pos_iff.2 h0
 obtain ⟨b,off,rfl,hb,_,_⟩:=hr.ent hpos
 have hc:∀ j u,(ents l)[j]? = some u→w.cell? ⟨b,off+j,none⟩=some u:=by
  rcases hr with h | ⟨b',off',e,_,hc⟩
  · have h1:=ents_len l
    rw [h] at h1
    simp only [List.length_nil] at h1
    omega
  · injection e with e
    injection e with e1 e2
    subst e1 e2
    exact hc
 refine (AnyE.slices_Clone Tryz.cloneEnt i0 zent 2 32 hi0 hz0 hz1 hz2 rfl (by decide) Tryz.sizeOf132 b off l.length c (ents l) w (ents_len l) (by unfold maxLen;omega) (by omega) hc (ents_one l)).mono ?_
 rintro e w' ⟨v',rfl,hown,hne,hbel⟩
 rcases hown.2 with ⟨h1,_⟩ | ⟨g,cap,cur,h1,_⟩
 · exact absurd h1 hne
 · subst h1
   exact ⟨g,cap,rfl,hown,hbel⟩
end Go.Proofs.YtgidfnhfgiehjaaGreatDoor
end

section
namespace Go.Proofs.YtgidfnhfgiehjaaGreatDoor
open Go.RowKit Go.PM
set_option maxRecDepth 100000
set_option maxHeartbeats 2000000
attribute [local go_sem ↓] Go.wp_at_zero Go.wp_at_succ
def OfEnd12 (w:World) (l:List Ent) (e:Ending) (w':World):Prop:=∃ v,e=.returned (.tuple #[v,.int .i64 (dof echk l).2])∧SlE w' v (dof echk l).1∧Below w.heap.size w w'
theorem sle_nil (w:World):SlE w (.slice none 0 0) []:=⟨none,0,rfl,.inl rfl,Nat.le_refl _⟩
theorem dtw_drop (l:List Ent) (j:Nat) (h:j+1 < l.length):dtw (l.drop j)=(decide ((l[j+1]).1=(l[j]).1) || dtw (l.drop (j+1))):=by
 rw [List.drop_eq_getElem_cons (by omega:j < l.length),List.drop_eq_getElem_cons h]
 rfl
theorem dtw_last (l:List Ent) (j:Nat) (h:l.length≤j+1):dtw (l.drop j)=false:=by
 by_cases hj:j < l.length
 · rw [List.drop_eq_getElem_cons hj,List.drop_of_length_le h]
   rfl
 · rw [List.drop_of_length_le (by omega)]
   rfl
theorem of12_any (A:Option Addr) (c:Nat) (l:List Ent) (w:World) (hr:Rd w A (ents l)) (hz:ESz l) (hl:l.length≤9223372036854775807) (hT:Tabs w) :
 Calls Tryz.prog 268 #[.slice A l.length c] w (OfEnd12 w l):=by
 have HR:=Lib.hid hr
 have HZ:=Lib.hid hz
 have HT:=Lib.hid hT
 have wl:IntKind.u64.wrap (l.length:Int)=(l.length:Int):=by rw [IntKind.wrap_u64];omega
 have HM:Hid (∀ x:World,Calls Tryz.prog 181 #[.int .u64 (l.length:Int)] x fun e w' => e=.returned (.int .i64 (dmany l.length))∧w'=x):=fun x => many_any l.length x
 have HNO:Hid (∀ E w',dof echk l=([],E)→Below w.heap.size w w'→OfEnd12 w l (.returned (.tuple #[.slice none 0 0,.int .i64 E])) w'):=fun E w' h hb => by
  unfold OfEnd12
  rw [h]
  exact ⟨_,rfl,sle_nil w',hb⟩
 clear hr hz hT
 by_cases hm:dmany l.length=0
 · have hl16:l.length≤16∧l≠[]:=by
    unfold dmany at hm
    by_cases h0:l.length=0
    · rw [if_pos h0] at hm;exact absurd hm (by decide)
    by_cases h1:16 < l.length
    · rw [if_neg h0,if_pos h1] at hm;exact absurd hm (by decide)
    exact ⟨by omega,fun e => h0 (by rw [e];rfl)⟩
   have HD1:Hid (dall echk l≠0→dof echk l=([],dall echk l)):=fun h => by unfold dof;rw [if_neg (by rw [hm];simp),if_pos h]
   have HD2:Hid (dall echk l=0→dtw (esort l)=true→dof echk l=([],14)):=fun h h2 => by unfold dof;rw [if_neg (by rw [hm];simp),if_neg (by rw [h];simp),if_pos h2]
   have HD3:Hid (dall echk l=0→dtw (esort l)=false→dof echk l=(esort l,0)):=fun h h2 => by unfold dof;rw [if_neg (by rw [hm];simp),if_neg (by rw [h];simp),if_neg (by rw [h2];simp)]
   rw [hm] at HM
   have H0:Hid (dall echk l=dall echk (l.drop 0)):=rfl
   have HL16:=Lib.hid hl16
   clear hm hl16
   go_enter Tryz.func268,Tryz.ntmps268
   go_wp2_with fail
   refine (HM.out _).mono ?_
   rintro e w1 ⟨rfl,rfl⟩
   go_wp2_with fail
   go_loopg [19] l.length (fun gk ki wr => ∃ k:Nat,k≤l.length∧l.length - k≤gk∧ki=.int .i64 (k:Int)∧Hid (dall echk l=dall echk (l.drop k))∧Below w1.heap.size w1 wr)
   case atStart => exact ⟨0,Nat.zero_le _,by omega,rfl,H0,b0⟩
   case round =>
    obtain ⟨k,hk,hgk,rfl,HF,hbel⟩:=hrel
    by_cases hlt:k < l.length
    · obtain ⟨b,off,hA,hbl,c0,c1⟩:=(HR.out.below hbel).ent hlt
      have hf:=HF.out
      rw [List.drop_eq_getElem_cons hlt,dall] at hf
      obtain ⟨z0,z1⟩:=HZ.out _ (List.getElem_mem hlt)
      generalize l[k]=x at *
      obtain ⟨x0,x1⟩:=x
      simp only at c0 c1 hf z0 z1
      have HFF:=Lib.hid hf
      have HB:=Lib.hid (ba hbel (.cells #[.string (txt x0),.string (txt x1)] 132))
      have HC:=Lib.hid (echeck_any (txt x0) (txt x1) (wr.alloc (.cells #[.string (txt x0),.string (txt x1)] 132)) (by rw [txt_size];omega) (by rw [txt_size];omega) (HT.out.below HB.out))
      rw [txt_list,txt_list] at HC
      clear hf hbel HF H0 z0 z1
      subst hA
      by_cases hE:echk x0 x1=0
      · have hf:=HFF.out
        rw [if_neg (by rw [hE];simp)] at hf
        have HN:=Lib.hid hf
        rw [hE] at HC
        clear hf HFF hE
        go_wp2_with fail
        refine HC.out.mono ?_
        rintro e w2 ⟨rfl,hb2⟩
        have HBW:=Lib.hid (bb HB.out hb2)
        clear hb2 HC
        go_wp2_with fail
        go_roundg (l.length - (k+1))
        case measure => omega
        case rel => exact ⟨k+1,by omega,Nat.le_refl _,by go_num,HN,HBW.out⟩
      · have hf:=HFF.out
        rw [if_pos hE] at hf
        obtain ⟨E,hEd⟩:∃ E,E=echk x0 x1:=⟨_,rfl⟩
        rw [← hEd] at hE HC hf
        have hEi:(E != 0)=true:=by rw [bne_iff_ne];exact hE
        have HE:Hid (∀ w',Below w1.heap.size w1 w'→OfEnd12 w1 l (.returned (.tuple #[.slice none 0 0,.int .i64 E])) w'):=fun w' hb => HNO.out E w' (by rw [HD1.out (by rw [hf];exact hE),hf]) hb
        clear HFF hE hf hEd
        go_wp2_with fail
        refine HC.out.mono ?_
        rintro e w2 ⟨rfl,hb2⟩
        have HBW:=Lib.hid (bb HB.out hb2)
        clear hb2 HC
        go_wp2_with fail
        go_ret2
        exact HE.out _ HBW.out
    · obtain rfl:k=l.length:=by omega
      have hf:=HF.out
      rw [List.drop_of_length_le (Nat.le_refl _),dall] at hf
      have HB:=Lib.hid hbel
      have HCL:=Lib.hid (clone12_any (c:=c) (HR.out.below hbel) (by have:=HL16.out.1;omega) HL16.out.2)
      have HY:Hid (dtw (esort l)=true→dof echk l=([],14)):=HD2.out hf
      have HN:Hid (dtw (esort l)=false→dof echk l=(esort l,0)):=HD3.out hf
      clear hf hbel HF H0
      go_wp2_with fail
      refine HCL.out.mono ?_
      rintro e w2 ⟨g,cap,rfl,hown,hb2⟩
      have HSO:=Lib.hid (sort12_any hown (by have:=HL16.out.1;omega))
      have hglt:=(hown.lt g rfl).1
      have HB2:=Lib.hid (bb HB.out hb2)
      clear hown hb2 HCL
      have hlsz:=(esort_perm l).length_eq
      go_wp2_with fail
      refine HSO.out.mono ?_
      rintro e w3 ⟨rfl,hown3,hg3⟩
      have HB3:=Lib.hid (bg HB2.out hg3 (Nat.le_trans HB.out.size hglt))
      obtain ⟨A4,c4,hv4,hrd4,hc4,_⟩:=Rd.own hown3
      injection hv4 with e1 e2 e3
      subst e1 e3
      have HRS:=Lib.hid hrd4
      have hc4i:(l.length:Int)≤(cap:Int):=by omega
      have HES:Hid (∀ x:World,Below w3.heap.size w3 x→dtw (esort l)=false→OfEnd12 w1 l (.returned (.tuple #[.slice (some ⟨g,0,none⟩) l.length cap,.int .i64 0])) x):=fun x hx h => by
       unfold OfEnd12
       rw [HN.out h]
       refine ⟨_,rfl,⟨some ⟨g,0,none⟩,cap,by rw [hlsz],HRS.out.below hx,by rw [hlsz];exact hc4⟩,bb HB3.out hx⟩
      have H0:Hid (dtw (esort l)=dtw ((esort l).drop (1 - 1))):=rfl
      clear hown3 hg3 hrd4 HSO HN
      go_wp2_with fail
      generalize hS:esort l=S at *
      clear hS
      go_loopg [9] l.length (fun gk2 vi wr => ∃ i:Nat,1≤i∧i≤l.length∧l.length - i≤gk2∧vi=.int .i64 (i:Int)∧Below w3.heap.size w3 wr∧Hid (dtw S=dtw (S.drop (i - 1))))
      case atStart => exact ⟨1,Nat.le_refl _,List.length_pos_iff.2 HL16.out.2,by omega,rfl,b0,H0⟩
      case round =>
       obtain ⟨i,hi1,hi2,hgk2,rfl,hb4,HD⟩:=hrel
       obtain ⟨j,rfl⟩:∃ j,i=j+1:=⟨i - 1,by omega⟩
       have hji:((j+1:Nat):Int) - 1=(j:Int):=by omega
       rw [Nat.add_sub_cancel] at HD
       by_cases hil:j+1 < l.length
       · obtain ⟨b',off',hA',hbl',c0,_⟩:=(HRS.out.below hb4).ent (k:=j+1) (by omega)
         obtain ⟨b'',off'',hA'',_,d0,_⟩:=(HRS.out.below hb4).ent (k:=j) (by omega)
         injection hA' with hA'
         injection hA' with e1 e2
         injection hA'' with hA''
         injection hA'' with e3 e4
         subst e1 e2 e3 e4
         have hd:=HD.out
         rw [dtw_drop S j (by omega)] at hd
         generalize S[j+1]=x at *
         generalize S[j]=y at *
         obtain ⟨x0,x1⟩:=x
         obtain ⟨y0,y1⟩:=y
         simp only at c0 d0 hd
         have HD2:=Lib.hid hd
         have hjl:(j:Int) < (l.length:Int):=by omega
         have hjl1:((j+1:Nat):Int) < (l.length:Int):=by omega
         have HB4:=Lib.hid hb4
         simp only [Nat.zero_add] at c0 d0
         clear hd HD hb4 H0
         by_cases he:x0=y0
         · have hs:((txt x0).toList == (txt y0).toList)=true:=str_same (by rw [he])
           have HE:Hid (∀ x,Below w3.heap.size w3 x→OfEnd12 w1 l (.returned (.tuple #[.slice none 0 0,.int .i64 14])) x):=fun x hx => by
            refine HNO.out 14 x (HY.out ?_) (bb HB3.out hx)
            rw [HD2.out,he]
            simp
           clear he HD2
           go_wp2_with fail
           go_quiet (fail)
           go_wp2_with fail
           go_ret2
           exact HE.out _ (bn HB4.out _)
         · have hs:((txt x0).toList == (txt y0).toList)=false:=str_else fun e => he (txt_inj.1 e)
           have HNX:Hid (dtw S=dtw (S.drop (j+1+1 - 1))):=by
            show _=_
            rw [HD2.out,decide_eq_false he,Bool.false_or,Nat.add_sub_cancel]
           clear he HD2
           go_wp2_with fail
           go_quiet (fail)
           go_wp2_with fail
           go_roundg (l.length - (j+1+1))
           case measure => omega
           case rel => exact ⟨j+1+1,by omega,by omega,Nat.le_refl _,by go_num,bn HB4.out _,HNX⟩
       · have hd:=HD.out
         rw [dtw_last S j (by omega)] at hd
         have HE:=Lib.hid (HES.out _ hb4 hd)
         clear hd HD hb4 H0
         have hjl2:¬ ((j+1:Nat):Int) < (l.length:Int):=by omega
         go_wp2_with fail
         go_ret2
         exact HE.out
 · have hmi:(dmany l.length != 0)=true:=by rw [bne_iff_ne];exact hm
   have HE:Hid (∀ w',Below w.heap.size w w'→OfEnd12 w l (.returned (.tuple #[.slice none 0 0,.int .i64 (dmany l.length)])) w'):=fun w' hb => HNO.out _ w' (by unfold dof;rw [if_pos hm]) hb
   generalize dmany l.length=E at *
   clear hm
   go_enter Tryz.func268,Tryz.ntmps268
   go_wp2_with fail
   refine (HM.out _).mono ?_
   rintro e w1 ⟨rfl,rfl⟩
   go_wp2_with fail
   go_ret2
   exact HE.out _ b0
end Go.Proofs.YtgidfnhfgiehjaaGreatDoor
end

section
namespace Go.Proofs.YtgidfnhfgiehjaaGreatDoor
open Go.RowKit Go.PM
set_option maxRecDepth 100000
set_option maxHeartbeats 2000000
attribute [local go_sem ↓] Go.wp_at_zero Go.wp_at_succ
theorem echk_two (a b:UInt8) (ha:ugood [a]=true) (hb:ugood [b]=true):echk [a] [b]=0:=by
 unfold echk uchk
 rw [ha,hb]
 rfl
theorem exam12a:dof echk [([98],[50]),([97],[49])]=([([97],[49]),([98],[50])],0):=by
 have g1:ugood [98]=true:=by rw [ugood_step (by decide)];exact ugood_nil
 have g2:ugood [50]=true:=by rw [ugood_step (by decide)];exact ugood_nil
 have g3:ugood [97]=true:=by rw [ugood_step (by decide)];exact ugood_nil
 have g4:ugood [49]=true:=by rw [ugood_step (by decide)];exact ugood_nil
 have e1:=echk_two 98 50 g1 g2
 have e2:=echk_two 97 49 g3 g4
 have s1:esort [([98],[50]),([97],[49])]=[([97],[49]),([98],[50])]:=by decide
 have d1:dtw [(([97],[49]):Ent),([98],[50])]=false:=by decide
 unfold dof
 rw [s1,d1]
 simp [dall,e1,e2,dmany]
theorem exam12b:txt (dkey [([97],[49]),([98],[50])])=⟨#[2,1,97,1,49,1,98,1,50]⟩:=by
 have e1:vput 1=[1]:=by rw [vput_small (by omega)];rfl
 have e2:vput 2=[2]:=by rw [vput_small (by omega)];rfl
 show txt (vput 2++((vput 1++([97]++(vput 1++[49])))++((vput 1++([98]++(vput 1++[50])))++[])))=_
 rw [e1,e2]
 rfl
theorem awake12 (w:World) (hT:Tabs w) :
 Calls Tryz.prog 263 #[] w fun e w' => e=.returned (.bool true)∧Below w.heap.size w w':=by
 have hb0:=ba (a:=w) b0 (.cells #[.string ⟨#[98]⟩,.string ⟨#[50]⟩,.string ⟨#[97]⟩,.string ⟨#[49]⟩] 132)
 have hrd:Rd (w.alloc (.cells #[.string ⟨#[98]⟩,.string ⟨#[50]⟩,.string ⟨#[97]⟩,.string ⟨#[49]⟩] 132)) (some ⟨w.heap.size,0,none⟩) (ents [([98],[50]),([97],[49])]):=by
  refine .inr ⟨_,_,rfl,by simp,fun j u hj => ?_⟩
  have hy:=World.news_of_block (cs:=#[.string ⟨#[98]⟩,.string ⟨#[50]⟩,.string ⟨#[97]⟩,.string ⟨#[49]⟩]) (t:=132) (fr:=(0,0)) (heap_alloc_new w (.cells #[.string ⟨#[98]⟩,.string ⟨#[50]⟩,.string ⟨#[97]⟩,.string ⟨#[49]⟩] 132))
  have:=hy j u hj
  rwa [add_at,← Nat.zero_add j] at this
 have hz:ESz [([98],[50]),([97],[49])]:=fun e he => by
  simp only [List.mem_cons,List.not_mem_nil,or_false] at he
  rcases he with rfl | rfl <;> simp
 have ho:=of12_any (some ⟨w.heap.size,0,none⟩) 2 [([98],[50]),([97],[49])] _ hrd hz (by decide) (hT.below hb0)
 unfold OfEnd12 at ho
 rw [exam12a] at ho
 have HO:Hid (Calls Tryz.prog 268 #[.slice (some ⟨w.heap.size,0,none⟩) 2 2] (w.alloc (.cells #[.string ⟨#[98]⟩,.string ⟨#[50]⟩,.string ⟨#[97]⟩,.string ⟨#[49]⟩] 132)) fun e w' => ∃ v,e=.returned (.tuple #[v,.int .i64 0])∧SlE w' v [([97],[49]),([98],[50])]∧Below (w.alloc (.cells #[.string ⟨#[98]⟩,.string ⟨#[50]⟩,.string ⟨#[97]⟩,.string ⟨#[49]⟩] 132)).heap.size (w.alloc (.cells #[.string ⟨#[98]⟩,.string ⟨#[50]⟩,.string ⟨#[97]⟩,.string ⟨#[49]⟩] 132)) w'):=ho
 have HA:Hid (∀ x:World,Below w.heap.size w x→Calls Tryz.prog 269 #[] x fun e w' => e=.returned (.bool true)∧Below x.heap.size x w'):=fun x hx => awakeE11 x (hT.below hx)
 have HB:=Lib.hid hb0
 have HKY:Hid (∀ (x:World) (A:Option Addr) (c:Nat),Rd x A (ents [([97],[49]),([98],[50])])→Calls Tryz.prog 76 #[.slice A 2 c] x fun e w' => e=.returned (.string ⟨#[2,1,97,1,49,1,98,1,50]⟩)∧Below x.heap.size x w'):=fun x A c h => by
  have:=key12_any A c [([97],[49]),([98],[50])] x h ⟨by simp,fun e he => by
   simp only [List.mem_cons,List.not_mem_nil,or_false] at he
   rcases he with rfl | rfl <;> simp⟩
  rw [exam12b] at this
  exact this
 clear ho hz hrd hb0 hT
 go_enter Tryz.func263,Tryz.ntmps263
 go_wp2_with fail
 refine HO.out.mono ?_
 rintro e w1 ⟨v,rfl,⟨A,c,rfl,hr1,_⟩,hb1⟩
 have HB1:=Lib.hid (bb HB.out hb1)
 have HR1:=Lib.hid hr1
 clear hr1 hb1 HO
 go_wp2_with fail
 refine (HA.out _ HB1.out).mono ?_
 rintro e w2 ⟨rfl,hb2⟩
 have HB2:=Lib.hid (bb HB1.out hb2)
 have HK:=Lib.hid (HKY.out w2 A c (HR1.out.below hb2))
 clear hb2 HKY
 go_wp2_with fail
 refine HK.out.mono ?_
 rintro e w3 ⟨rfl,hb3⟩
 have HB3:=Lib.hid (bb HB2.out hb3)
 clear hb3
 go_wp2_with fail
 go_ret
 exact ⟨rfl,HB3.out⟩
end Go.Proofs.YtgidfnhfgiehjaaGreatDoor
end
