/-
  Texts of the proof, joined: Set1. Conditions: as each names.
-/
import Derived.Test.YtgidfnhfgiehjaaGreatDoorXTopRejectsar
import Derived.Test.YtgidfnhfgiehjaaGreatDoorXTopRejectsah
import Derived.Test.YtgidfnhfgiehjaaGreatDoorXTopRejectsao
import Derived.Test.YtgidfnhfgiehjaaGreatDoorXTopRejectsap

section
namespace Go.Proofs.YtgidfnhfgiehjaaGreatDoor
open Go.RowKit Go.PM
set_option maxRecDepth 100000
set_option maxHeartbeats 4000000
attribute [local go_sem ↓] Go.wp_at_zero Go.wp_at_succ
theorem mvs_put (m:Mp) (dv tv rv:Value) (v:Mv) (dv' tv':Value):∀ i,i < 22→v.use=nmUse i→(nmUse i=4∨dv'=dv)→(nmUse i=5∨tv'=tv)→(mvs m dv tv rv).setIfInBounds (cellIx i) (mvv (m.put i v) dv' tv' i)=mvs (m.put i v) dv' tv' rv:=by
 refine cases22 ?_ ?_ ?_ ?_ ?_ ?_ ?_ ?_ ?_ ?_ ?_ ?_ ?_ ?_ ?_ ?_ ?_ ?_ ?_ ?_ ?_ ?_ <;>
  (intro hu hd ht;cases v <;> first | (exfalso;revert hu;simp [Mv.use,nmUse];done) | (rcases hd with hd | rfl <;> rcases ht with ht | rfl <;> first | (exact absurd hd (by decide)) | (exact absurd ht (by decide)) | rfl))
def mvw (v:Mv) (dv tv:Value):Value:=match v with
 | .num n => .int .u64 (n:Int)
 | .flag b => .bool b
 | .sgn z => .int .i64 z
 | .word s => .string (txt s)
 | .of _ => dv
 | .rows _ => tv
theorem mvv_put (m:Mp) (v:Mv) (dv tv:Value) {i:Nat} (hi:i < 22) (hu:v.use=nmUse i):mvv (m.put i v) dv tv i=mvw v dv tv:=by
 unfold mvv
 rw [Mp.val_put m v i hi hu i hi,if_pos rfl]
 rfl
def MgN (B:Nat) (w:World) (m:Mp) (dv tv rv:Value):Prop:=(∃ A c,dv=.slice A m.d.length c∧m.d.length≤c∧RdI w (B≤·) A m.d)∧TbN B w tv m.t∧SlV w (B≤·) rv m.rest
theorem TbN.tch {B:Nat} {w w':World} {v:Value} {t:List Rw} {S:Nat→Prop} (h:TbN B w v t) (hb:Tch S w w') (hs:∀ k,B≤k→¬ S k):TbN B w' v t:=by
 obtain ⟨l,A,c,h1,h2,h3,h4,h5,h6⟩:=h
 exact ⟨l,A,c,h1,h2,h3.tch hb fun b off e => hs b (h6 b off e),fun r hr => (h4 r hr).tch hb hs,h5,h6⟩
theorem MgN.tch {B:Nat} {w w':World} {m:Mp} {dv tv rv:Value} {S:Nat→Prop} (h:MgN B w m dv tv rv) (hb:Tch S w w') (hs:∀ k,B≤k→¬ S k):MgN B w' m dv tv rv:=by
 obtain ⟨⟨A,c,h1,h2,h3⟩,h4,h5⟩:=h
 exact ⟨⟨A,c,h1,h2,h3.tch hb hs⟩,h4.tch hb hs,h5.tch hb hs⟩
theorem MgN.below {B:Nat} {w w':World} {m:Mp} {dv tv rv:Value} (h:MgN B w m dv tv rv) (hb:Below w.heap.size w w'):MgN B w' m dv tv rv:=h.tch (S:=fun _ => False) (Tch.below hb) fun _ _ => id
theorem MgN.mono {B C:Nat} {w:World} {m:Mp} {dv tv rv:Value} (h:MgN B w m dv tv rv) (hb:C≤B):MgN C w m dv tv rv:=by
 obtain ⟨⟨A,c,h1,h2,h3⟩,h4,h5⟩:=h
 exact ⟨⟨A,c,h1,h2,h3.imp fun g _ hg => Nat.le_trans hb hg⟩,h4.mono hb,h5.imp fun g hg => Nat.le_trans hb hg⟩
theorem MgN.v {B:Nat} {w:World} {m:Mp} {dv tv rv:Value} (h:MgN B w m dv tv rv):MgV w (B≤·) m dv tv rv:=by
 obtain ⟨h1,⟨l,A,c,g1,g2,g3,g4,g5,_⟩,h5⟩:=h
 exact ⟨h1,⟨l,A,c,g1,g2,g3,g4,g5⟩,h5⟩
theorem MgN.put {B:Nat} {w:World} {m:Mp} {dv tv rv dv' tv':Value} (h:MgN B w m dv tv rv) (v:Mv):∀ i,i < 22→v.use=nmUse i→(nmUse i=4∨dv'=dv)→(nmUse i=5∨tv'=tv) →
 (∀ d,v=.of d→∃ A c,dv'=.slice A d.length c∧d.length≤c∧RdI w (B≤·) A d)→(∀ t,v=.rows t→TbN B w tv' t)→MgN B w (m.put i v) dv' tv' rv:=by
 obtain ⟨h1,h2,h3⟩:=h
 refine cases22 ?_ ?_ ?_ ?_ ?_ ?_ ?_ ?_ ?_ ?_ ?_ ?_ ?_ ?_ ?_ ?_ ?_ ?_ ?_ ?_ ?_ ?_ <;>
  (intro hu hd ht h4 h5;cases v <;> first
    | (exfalso;revert hu;simp [Mv.use,nmUse];done)
    | (rcases hd with hd | rfl <;> rcases ht with ht | rfl <;> first
        | (exact absurd hd (by decide))
        | (exact absurd ht (by decide))
        | (exact ⟨h4 _ rfl,h2,h3⟩)
        | (exact ⟨h1,h5 _ rfl,h3⟩)
        | (exact ⟨h1,h2,h3⟩)))
def SetEnd (B:Nat) (w:World) (b:Nat) (m:Mp) (i:Nat) (rv:Value) (q:Mv × Int) (e:Ending) (w':World):Prop :=
 e=.returned (.int .i64 q.2)∧Tch (fun j => j=b) w w'∧(q.2=0→∃ dv' tv',MsAt w' b (m.put i q.1) dv' tv' rv∧MgN B w' (m.put i q.1) dv' tv' rv)
structure SetIn (B:Nat) (wc w:World) (b:Nat) (m:Mp) (dv tv rv:Value):Prop where
 mg:MgN B wc m dv tv rv
 bel:Below wc.heap.size wc w
 le:wc.heap.size≤b
 leB:B≤wc.heap.size
 at_:MsAt w b m dv tv rv
theorem SetIn.below {B:Nat} {wc w w':World} {b:Nat} {m:Mp} {dv tv rv:Value} (h:SetIn B wc w b m dv tv rv) (hb:Below w.heap.size w w'):SetIn B wc w' b m dv tv rv :=
 ⟨h.mg,bb h.bel hb,h.le,h.leB,h.at_.below hb h.at_.lt⟩
theorem SetIn.store {B:Nat} {wc w w':World} {b:Nat} {m:Mp} {dv tv rv:Value} {i:Nat} (hi:i < 22) (h:SetIn B wc w b m dv tv rv) (hb:Below w.heap.size w w') (v:Mv) (dv' tv':Value) (hu:v.use=nmUse i) (hd:nmUse i=4∨dv'=dv) (ht:nmUse i=5∨tv'=tv)
 (h4:∀ d,v=.of d→SlN w.heap.size w' dv' d) (h5:∀ t,v=.rows t→TbN w.heap.size w' tv' t) {q:Mv × Int} (hq:q=(v,0)) (u:Value) (hx:u=mvw v dv' tv') {ci:Nat} (hci:ci=cellIx i) :
 SetEnd B w b m i rv q (.returned (.int .i64 0)) (w'.setCell ⟨b,ci,none⟩ u):=by
 subst hci
 rw [← mvv_put m v dv' tv' hi hu] at hx
 subst hx
 have h':=h.below hb
 have hlt:=h.at_.lt
 have hsz:=h.bel.size
 refine ⟨by rw [hq],(show Tch (fun j => j=b) w w' from Tch.below hb).put (p:=⟨b,cellIx i,none⟩) (fun _ => rfl) _,fun _ => ⟨dv',tv',?_,?_⟩⟩
 · rw [hq]
   have:=h'.at_.put (cellIx i) (mvv (m.put i v) dv' tv' i)
   unfold MsAt
   rw [← mvs_put m dv tv rv v dv' tv' i hi hu hd ht]
   exact this
 · rw [hq]
   have hT:Tch (fun j => j=b) w' (w'.setCell ⟨b,cellIx i,none⟩ (mvv (m.put i v) dv' tv' i)):=(Tch.refl (fun j => j=b) w').put (p:=⟨b,cellIx i,none⟩) (fun _ => rfl) _
   have hm:=h.mg.below (w':=w'.setCell ⟨b,cellIx i,none⟩ (mvv (m.put i v) dv' tv' i)) ((h'.bel).setCell h.le _)
   refine hm.put v i hi hu hd ht (fun d e => ?_) (fun t e => ?_)
   · obtain ⟨A,c,g1,g2,g3,g4⟩:=h4 d e
     have hI:=(g2.rdI (I:=fun k => w.heap.size≤k) g4).tch hT fun k hk e => by omega
     exact ⟨A,c,g1,g3,hI.imp fun k _ hk => by have:=h.leB;omega⟩
   · exact ((h5 t e).tch hT fun k hk e => by omega).mono (by have:=h.leB;omega)
theorem SetIn.bad {B:Nat} {w w':World} {b:Nat} {m:Mp} {rv:Value} {i:Nat} {q:Mv × Int} {k:Int} (hb:Tch (fun j => j=b) w w') (hq:q.2=k) (hk:k≠0):SetEnd B w b m i rv q (.returned (.int .i64 k)) w' :=
 ⟨by rw [hq],hb,fun h => absurd (hq.symm.trans h) hk⟩
theorem set18_0a (B:Nat) (wc:World) (b:Nat) (m:Mp) (dv tv rv:Value) (i:Nat) (t:Nat) (ty:Int) (n:Nat) (s:List UInt8) (fA:Option Addr) (fn fc:Nat) (w:World) (hi:i < 22) (hu:nmUse i=0) (hin:SetIn B wc w b m dv tv rv) (hty:ty≠0) :
 Calls Tryz.prog 83 #[.pointer (some ⟨b,0,none⟩),.string (txt (nmAt i)),.agg #[.int .u64 (t:Int),.int .i64 ty,.int .u64 (n:Int),.string (txt s),.slice fA fn fc]] w (SetEnd B w b m i rv (setc 0 ty n s)):=by
 have hq:(setc 0 ty n s).2=8:=by unfold setc;simp [hty]
 have HQ:=Lib.hid hq
 have hyb:(ty == 0)=false:=by rw [beq_eq_false_iff_ne];exact hty
 clear hq hty
 have hp:∀ b,plc b i=.iface (ptrT 0) (.pointer (some ⟨b,cellIx i,none⟩)):=fun b => by rw [plc,hu]
 have HPL:=Lib.hid (fun x => place_any b x i hi)
 simp only [hp] at HPL
 have HUS:Hid (∀ x,Calls Tryz.prog 138 #[.iface (ptrT 0) (.pointer (some ⟨b,cellIx i,none⟩))] x fun e w' => e=.returned (.tuple #[.int .i64 0,.bool true])∧Below x.heap.size x w'):=fun x => use18_0 (.pointer (some ⟨b,cellIx i,none⟩)) x
 have HFM:=Lib.hid (BlkAt.made w 47 #[.int .u64 (t:Int),.int .i64 ty,.int .u64 (n:Int),.string (txt s),.slice fA fn fc])
 have HBF:=Lib.hid (ba (a:=w) b0 (.cells #[.int .u64 (t:Int),.int .i64 ty,.int .u64 (n:Int),.string (txt s),.slice fA fn fc] 47))
 have HIN:=Lib.hid hin
 obtain ⟨N,hN⟩:∃ N,N=txt (nmAt i):=⟨_,rfl⟩
 rw [← hN] at HPL ⊢
 have hlt:=hin.at_.lt
 obtain ⟨ci,hci⟩:∃ ci,ci=cellIx i:=⟨_,rfl⟩
 rw [← hci] at HPL HUS
 have HCI:=Lib.hid hci
 clear hp hN hin hci
 have y0:=as_yes 0
 simp only [ptrT] at *
 go_enter Tryz.func83,Tryz.ntmps83
 go_wp2_with fail
 generalize w.alloc (.cells #[.int .u64 (t:Int),.int .i64 ty,.int .u64 (n:Int),.string (txt s),.slice fA fn fc] 47)=wf at HFM HBF ⊢
 refine (HPL.out _).mono ?_
 rintro e w1 ⟨rfl,hb1⟩
 have HF1:=Lib.hid (HFM.out.below hb1 HFM.out.lt)
 have HB1:=Lib.hid (bb HBF.out hb1)
 clear hb1 HPL HFM HBF
 go_wp2_with fail
 refine (HUS.out _).mono ?_
 rintro e w2 ⟨rfl,hb2⟩
 have HF2:=Lib.hid (HF1.out.below hb2 HF1.out.lt)
 have HB2:=Lib.hid (bb HB1.out hb2)
 clear hb2 HUS HF1 HB1
 go_wp2_with fail
 have n1:∀ n':BelW w2,n'.wld.cell? ⟨w.heap.size,1,none⟩=some (.int .i64 ty):=fun n' => (HF2.out.below n'.bel HF2.out.lt).cell 1
 have HTY:Hid (∀ n':BelW w2,Calls Tryz.prog 139 #[.int .i64 0] n'.wld fun e w' => e=.returned (.int .i64 0)∧Below n'.wld.heap.size n'.wld w'):=fun n' => type17 0 n'.wld (by decide)
 refine wp_region_below_lit (by kernel_rfl) (by kernel_rfl) ?_
 repeat (first | go_big_quiet_skip | (go_big_quiet_want;go_big_quiet_op;first | go_big_quiet_on | (apply Exists.intro;refine ⟨fun nq => ?_,?_⟩;(go_at_call 139;exact below_of (HTY.out _));go_big_quiet_on)))
 refine wpQuiet_nil ?_
 intro wq hnq
 obtain ⟨nq,rfl⟩:=hnq
 have hq:=nq.bel
 generalize nq.wld=wq at hq ⊢
 clear nq
 have hf3:=HF2.out.below hq HF2.out.lt
 have f1:=hf3.cell 1
 have f2:=hf3.cell 2
 have f3:=hf3.cell 3
 have hlf:=hf3.lt
 simp at f1 f2 f3
 have HB3:=Lib.hid (bb HB2.out hq)
 have hltb:b < wq.heap.size:=Nat.lt_of_lt_of_le hlt HB3.out.size
 clear hf3 hq n1 HTY HF2 HB2
 go_wp2_with fail
 go_ret
 exact SetIn.bad (Tch.below HB3.out) HQ.out (by decide)
theorem set18_1a (B:Nat) (wc:World) (b:Nat) (m:Mp) (dv tv rv:Value) (i:Nat) (t:Nat) (ty:Int) (n:Nat) (s:List UInt8) (fA:Option Addr) (fn fc:Nat) (w:World) (hi:i < 22) (hu:nmUse i=1) (hin:SetIn B wc w b m dv tv rv) (hty:ty≠0) :
 Calls Tryz.prog 83 #[.pointer (some ⟨b,0,none⟩),.string (txt (nmAt i)),.agg #[.int .u64 (t:Int),.int .i64 ty,.int .u64 (n:Int),.string (txt s),.slice fA fn fc]] w (SetEnd B w b m i rv (setc 1 ty n s)):=by
 have hq:(setc 1 ty n s).2=8:=by unfold setc;simp [hty]
 have HQ:=Lib.hid hq
 have hyb:(ty == 0)=false:=by rw [beq_eq_false_iff_ne];exact hty
 clear hq hty
 have hp:∀ b,plc b i=.iface (ptrT 1) (.pointer (some ⟨b,cellIx i,none⟩)):=fun b => by rw [plc,hu]
 have HPL:=Lib.hid (fun x => place_any b x i hi)
 simp only [hp] at HPL
 have HUS:Hid (∀ x,Calls Tryz.prog 138 #[.iface (ptrT 1) (.pointer (some ⟨b,cellIx i,none⟩))] x fun e w' => e=.returned (.tuple #[.int .i64 1,.bool true])∧Below x.heap.size x w'):=fun x => use18_1 (.pointer (some ⟨b,cellIx i,none⟩)) x
 have HFM:=Lib.hid (BlkAt.made w 47 #[.int .u64 (t:Int),.int .i64 ty,.int .u64 (n:Int),.string (txt s),.slice fA fn fc])
 have HBF:=Lib.hid (ba (a:=w) b0 (.cells #[.int .u64 (t:Int),.int .i64 ty,.int .u64 (n:Int),.string (txt s),.slice fA fn fc] 47))
 have HIN:=Lib.hid hin
 obtain ⟨N,hN⟩:∃ N,N=txt (nmAt i):=⟨_,rfl⟩
 rw [← hN] at HPL ⊢
 have hlt:=hin.at_.lt
 obtain ⟨ci,hci⟩:∃ ci,ci=cellIx i:=⟨_,rfl⟩
 rw [← hci] at HPL HUS
 have HCI:=Lib.hid hci
 clear hp hN hin hci
 have y1:=as_yes 1
 have n0:=as_no10
 simp only [ptrT] at *
 go_enter Tryz.func83,Tryz.ntmps83
 go_wp2_with fail
 generalize w.alloc (.cells #[.int .u64 (t:Int),.int .i64 ty,.int .u64 (n:Int),.string (txt s),.slice fA fn fc] 47)=wf at HFM HBF ⊢
 refine (HPL.out _).mono ?_
 rintro e w1 ⟨rfl,hb1⟩
 have HF1:=Lib.hid (HFM.out.below hb1 HFM.out.lt)
 have HB1:=Lib.hid (bb HBF.out hb1)
 clear hb1 HPL HFM HBF
 go_wp2_with fail
 refine (HUS.out _).mono ?_
 rintro e w2 ⟨rfl,hb2⟩
 have HF2:=Lib.hid (HF1.out.below hb2 HF1.out.lt)
 have HB2:=Lib.hid (bb HB1.out hb2)
 clear hb2 HUS HF1 HB1
 go_wp2_with fail
 have n1:∀ n':BelW w2,n'.wld.cell? ⟨w.heap.size,1,none⟩=some (.int .i64 ty):=fun n' => (HF2.out.below n'.bel HF2.out.lt).cell 1
 have HTY:Hid (∀ n':BelW w2,Calls Tryz.prog 139 #[.int .i64 1] n'.wld fun e w' => e=.returned (.int .i64 0)∧Below n'.wld.heap.size n'.wld w'):=fun n' => type17 1 n'.wld (by decide)
 refine wp_region_below_lit (by kernel_rfl) (by kernel_rfl) ?_
 repeat (first | go_big_quiet_skip | (go_big_quiet_want;go_big_quiet_op;first | go_big_quiet_on | (apply Exists.intro;refine ⟨fun nq => ?_,?_⟩;(go_at_call 139;exact below_of (HTY.out _));go_big_quiet_on)))
 refine wpQuiet_nil ?_
 intro wq hnq
 obtain ⟨nq,rfl⟩:=hnq
 have hq:=nq.bel
 generalize nq.wld=wq at hq ⊢
 clear nq
 have hf3:=HF2.out.below hq HF2.out.lt
 have f1:=hf3.cell 1
 have f2:=hf3.cell 2
 have f3:=hf3.cell 3
 have hlf:=hf3.lt
 simp at f1 f2 f3
 have HB3:=Lib.hid (bb HB2.out hq)
 have hltb:b < wq.heap.size:=Nat.lt_of_lt_of_le hlt HB3.out.size
 clear hf3 hq n1 HTY HF2 HB2
 go_wp2_with fail
 go_ret
 exact SetIn.bad (Tch.below HB3.out) HQ.out (by decide)
theorem set18_2a (B:Nat) (wc:World) (b:Nat) (m:Mp) (dv tv rv:Value) (i:Nat) (t:Nat) (ty:Int) (n:Nat) (s:List UInt8) (fA:Option Addr) (fn fc:Nat) (w:World) (hi:i < 22) (hu:nmUse i=2) (hin:SetIn B wc w b m dv tv rv) (hty:ty≠0) :
 Calls Tryz.prog 83 #[.pointer (some ⟨b,0,none⟩),.string (txt (nmAt i)),.agg #[.int .u64 (t:Int),.int .i64 ty,.int .u64 (n:Int),.string (txt s),.slice fA fn fc]] w (SetEnd B w b m i rv (setc 2 ty n s)):=by
 have hq:(setc 2 ty n s).2=8:=by unfold setc;simp [hty]
 have HQ:=Lib.hid hq
 have hyb:(ty == 0)=false:=by rw [beq_eq_false_iff_ne];exact hty
 clear hq hty
 have hp:∀ b,plc b i=.iface (ptrT 2) (.pointer (some ⟨b,cellIx i,none⟩)):=fun b => by rw [plc,hu]
 have HPL:=Lib.hid (fun x => place_any b x i hi)
 simp only [hp] at HPL
 have HUS:Hid (∀ x,Calls Tryz.prog 138 #[.iface (ptrT 2) (.pointer (some ⟨b,cellIx i,none⟩))] x fun e w' => e=.returned (.tuple #[.int .i64 2,.bool true])∧Below x.heap.size x w'):=fun x => use18_2 (.pointer (some ⟨b,cellIx i,none⟩)) x
 have HFM:=Lib.hid (BlkAt.made w 47 #[.int .u64 (t:Int),.int .i64 ty,.int .u64 (n:Int),.string (txt s),.slice fA fn fc])
 have HBF:=Lib.hid (ba (a:=w) b0 (.cells #[.int .u64 (t:Int),.int .i64 ty,.int .u64 (n:Int),.string (txt s),.slice fA fn fc] 47))
 have HIN:=Lib.hid hin
 obtain ⟨N,hN⟩:∃ N,N=txt (nmAt i):=⟨_,rfl⟩
 rw [← hN] at HPL ⊢
 have hlt:=hin.at_.lt
 obtain ⟨ci,hci⟩:∃ ci,ci=cellIx i:=⟨_,rfl⟩
 rw [← hci] at HPL HUS
 have HCI:=Lib.hid hci
 clear hp hN hin hci
 have y2:=as_yes 2
 have n0:=as_no20
 have n1:=as_no21
 simp only [ptrT] at *
 go_enter Tryz.func83,Tryz.ntmps83
 go_wp2_with fail
 generalize w.alloc (.cells #[.int .u64 (t:Int),.int .i64 ty,.int .u64 (n:Int),.string (txt s),.slice fA fn fc] 47)=wf at HFM HBF ⊢
 refine (HPL.out _).mono ?_
 rintro e w1 ⟨rfl,hb1⟩
 have HF1:=Lib.hid (HFM.out.below hb1 HFM.out.lt)
 have HB1:=Lib.hid (bb HBF.out hb1)
 clear hb1 HPL HFM HBF
 go_wp2_with fail
 refine (HUS.out _).mono ?_
 rintro e w2 ⟨rfl,hb2⟩
 have HF2:=Lib.hid (HF1.out.below hb2 HF1.out.lt)
 have HB2:=Lib.hid (bb HB1.out hb2)
 clear hb2 HUS HF1 HB1
 go_wp2_with fail
 have n1:∀ n':BelW w2,n'.wld.cell? ⟨w.heap.size,1,none⟩=some (.int .i64 ty):=fun n' => (HF2.out.below n'.bel HF2.out.lt).cell 1
 have HTY:Hid (∀ n':BelW w2,Calls Tryz.prog 139 #[.int .i64 2] n'.wld fun e w' => e=.returned (.int .i64 0)∧Below n'.wld.heap.size n'.wld w'):=fun n' => type17 2 n'.wld (by decide)
 refine wp_region_below_lit (by kernel_rfl) (by kernel_rfl) ?_
 repeat (first | go_big_quiet_skip | (go_big_quiet_want;go_big_quiet_op;first | go_big_quiet_on | (apply Exists.intro;refine ⟨fun nq => ?_,?_⟩;(go_at_call 139;exact below_of (HTY.out _));go_big_quiet_on)))
 refine wpQuiet_nil ?_
 intro wq hnq
 obtain ⟨nq,rfl⟩:=hnq
 have hq:=nq.bel
 generalize nq.wld=wq at hq ⊢
 clear nq
 have hf3:=HF2.out.below hq HF2.out.lt
 have f1:=hf3.cell 1
 have f2:=hf3.cell 2
 have f3:=hf3.cell 3
 have hlf:=hf3.lt
 simp at f1 f2 f3
 have HB3:=Lib.hid (bb HB2.out hq)
 have hltb:b < wq.heap.size:=Nat.lt_of_lt_of_le hlt HB3.out.size
 clear hf3 hq n1 HTY HF2 HB2
 go_wp2_with fail
 go_ret
 exact SetIn.bad (Tch.below HB3.out) HQ.out (by decide)
theorem set18_3a (B:Nat) (wc:World) (b:Nat) (m:Mp) (dv tv rv:Value) (i:Nat) (t:Nat) (ty:Int) (n:Nat) (s:List UInt8) (fA:Option Addr) (fn fc:Nat) (w:World) (hi:i < 22) (hu:nmUse i=3) (hin:SetIn B wc w b m dv tv rv) (hty:ty≠1) :
 Calls Tryz.prog 83 #[.pointer (some ⟨b,0,none⟩),.string (txt (nmAt i)),.agg #[.int .u64 (t:Int),.int .i64 ty,.int .u64 (n:Int),.string (txt s),.slice fA fn fc]] w (SetEnd B w b m i rv (setc 3 ty n s)):=by
 have hq:(setc 3 ty n s).2=8:=by unfold setc;simp [hty]
 have HQ:=Lib.hid hq
 have hyb:(ty == 1)=false:=by rw [beq_eq_false_iff_ne];exact hty
 clear hq hty
 have hp:∀ b,plc b i=.iface (ptrT 3) (.pointer (some ⟨b,cellIx i,none⟩)):=fun b => by rw [plc,hu]
 have HPL:=Lib.hid (fun x => place_any b x i hi)
 simp only [hp] at HPL
 have HUS:Hid (∀ x,Calls Tryz.prog 138 #[.iface (ptrT 3) (.pointer (some ⟨b,cellIx i,none⟩))] x fun e w' => e=.returned (.tuple #[.int .i64 3,.bool true])∧Below x.heap.size x w'):=fun x => use18_3 (.pointer (some ⟨b,cellIx i,none⟩)) x
 have HFM:=Lib.hid (BlkAt.made w 47 #[.int .u64 (t:Int),.int .i64 ty,.int .u64 (n:Int),.string (txt s),.slice fA fn fc])
 have HBF:=Lib.hid (ba (a:=w) b0 (.cells #[.int .u64 (t:Int),.int .i64 ty,.int .u64 (n:Int),.string (txt s),.slice fA fn fc] 47))
 have HIN:=Lib.hid hin
 obtain ⟨N,hN⟩:∃ N,N=txt (nmAt i):=⟨_,rfl⟩
 rw [← hN] at HPL ⊢
 have hlt:=hin.at_.lt
 obtain ⟨ci,hci⟩:∃ ci,ci=cellIx i:=⟨_,rfl⟩
 rw [← hci] at HPL HUS
 have HCI:=Lib.hid hci
 clear hp hN hin hci
 have y3:=as_yes 3
 have n0:=as_no30
 have n1:=as_no31
 have n2:=as_no32
 simp only [ptrT] at *
 go_enter Tryz.func83,Tryz.ntmps83
 go_wp2_with fail
 generalize w.alloc (.cells #[.int .u64 (t:Int),.int .i64 ty,.int .u64 (n:Int),.string (txt s),.slice fA fn fc] 47)=wf at HFM HBF ⊢
 refine (HPL.out _).mono ?_
 rintro e w1 ⟨rfl,hb1⟩
 have HF1:=Lib.hid (HFM.out.below hb1 HFM.out.lt)
 have HB1:=Lib.hid (bb HBF.out hb1)
 clear hb1 HPL HFM HBF
 go_wp2_with fail
 refine (HUS.out _).mono ?_
 rintro e w2 ⟨rfl,hb2⟩
 have HF2:=Lib.hid (HF1.out.below hb2 HF1.out.lt)
 have HB2:=Lib.hid (bb HB1.out hb2)
 clear hb2 HUS HF1 HB1
 go_wp2_with fail
 have n1:∀ n':BelW w2,n'.wld.cell? ⟨w.heap.size,1,none⟩=some (.int .i64 ty):=fun n' => (HF2.out.below n'.bel HF2.out.lt).cell 1
 have HTY:Hid (∀ n':BelW w2,Calls Tryz.prog 139 #[.int .i64 3] n'.wld fun e w' => e=.returned (.int .i64 1)∧Below n'.wld.heap.size n'.wld w'):=fun n' => type17 3 n'.wld (by decide)
 refine wp_region_below_lit (by kernel_rfl) (by kernel_rfl) ?_
 repeat (first | go_big_quiet_skip | (go_big_quiet_want;go_big_quiet_op;first | go_big_quiet_on | (apply Exists.intro;refine ⟨fun nq => ?_,?_⟩;(go_at_call 139;exact below_of (HTY.out _));go_big_quiet_on)))
 refine wpQuiet_nil ?_
 intro wq hnq
 obtain ⟨nq,rfl⟩:=hnq
 have hq:=nq.bel
 generalize nq.wld=wq at hq ⊢
 clear nq
 have hf3:=HF2.out.below hq HF2.out.lt
 have f1:=hf3.cell 1
 have f2:=hf3.cell 2
 have f3:=hf3.cell 3
 have hlf:=hf3.lt
 simp at f1 f2 f3
 have HB3:=Lib.hid (bb HB2.out hq)
 have hltb:b < wq.heap.size:=Nat.lt_of_lt_of_le hlt HB3.out.size
 clear hf3 hq n1 HTY HF2 HB2
 go_wp2_with fail
 go_ret
 exact SetIn.bad (Tch.below HB3.out) HQ.out (by decide)
theorem set18_4a (B:Nat) (wc:World) (b:Nat) (m:Mp) (dv tv rv:Value) (i:Nat) (t:Nat) (ty:Int) (n:Nat) (s:List UInt8) (fA:Option Addr) (fn fc:Nat) (w:World) (hi:i < 22) (hu:nmUse i=4) (hin:SetIn B wc w b m dv tv rv) (hty:ty≠1) :
 Calls Tryz.prog 83 #[.pointer (some ⟨b,0,none⟩),.string (txt (nmAt i)),.agg #[.int .u64 (t:Int),.int .i64 ty,.int .u64 (n:Int),.string (txt s),.slice fA fn fc]] w (SetEnd B w b m i rv (setc 4 ty n s)):=by
 have hq:(setc 4 ty n s).2=8:=by unfold setc;simp [hty]
 have HQ:=Lib.hid hq
 have hyb:(ty == 1)=false:=by rw [beq_eq_false_iff_ne];exact hty
 clear hq hty
 have hp:∀ b,plc b i=.iface (ptrT 4) (.pointer (some ⟨b,cellIx i,none⟩)):=fun b => by rw [plc,hu]
 have HPL:=Lib.hid (fun x => place_any b x i hi)
 simp only [hp] at HPL
 have HUS:Hid (∀ x,Calls Tryz.prog 138 #[.iface (ptrT 4) (.pointer (some ⟨b,cellIx i,none⟩))] x fun e w' => e=.returned (.tuple #[.int .i64 4,.bool true])∧Below x.heap.size x w'):=fun x => use18_4 (.pointer (some ⟨b,cellIx i,none⟩)) x
 have HFM:=Lib.hid (BlkAt.made w 47 #[.int .u64 (t:Int),.int .i64 ty,.int .u64 (n:Int),.string (txt s),.slice fA fn fc])
 have HBF:=Lib.hid (ba (a:=w) b0 (.cells #[.int .u64 (t:Int),.int .i64 ty,.int .u64 (n:Int),.string (txt s),.slice fA fn fc] 47))
 have HIN:=Lib.hid hin
 obtain ⟨N,hN⟩:∃ N,N=txt (nmAt i):=⟨_,rfl⟩
 rw [← hN] at HPL ⊢
 have hlt:=hin.at_.lt
 obtain ⟨ci,hci⟩:∃ ci,ci=cellIx i:=⟨_,rfl⟩
 rw [← hci] at HPL HUS
 have HCI:=Lib.hid hci
 clear hp hN hin hci
 have y4:=as_yes 4
 have n0:=as_no40
 have n1:=as_no41
 have n2:=as_no42
 have n3:=as_no43
 simp only [ptrT] at *
 go_enter Tryz.func83,Tryz.ntmps83
 go_wp2_with fail
 generalize w.alloc (.cells #[.int .u64 (t:Int),.int .i64 ty,.int .u64 (n:Int),.string (txt s),.slice fA fn fc] 47)=wf at HFM HBF ⊢
 refine (HPL.out _).mono ?_
 rintro e w1 ⟨rfl,hb1⟩
 have HF1:=Lib.hid (HFM.out.below hb1 HFM.out.lt)
 have HB1:=Lib.hid (bb HBF.out hb1)
 clear hb1 HPL HFM HBF
 go_wp2_with fail
 refine (HUS.out _).mono ?_
 rintro e w2 ⟨rfl,hb2⟩
 have HF2:=Lib.hid (HF1.out.below hb2 HF1.out.lt)
 have HB2:=Lib.hid (bb HB1.out hb2)
 clear hb2 HUS HF1 HB1
 go_wp2_with fail
 have n1:∀ n':BelW w2,n'.wld.cell? ⟨w.heap.size,1,none⟩=some (.int .i64 ty):=fun n' => (HF2.out.below n'.bel HF2.out.lt).cell 1
 have HTY:Hid (∀ n':BelW w2,Calls Tryz.prog 139 #[.int .i64 4] n'.wld fun e w' => e=.returned (.int .i64 1)∧Below n'.wld.heap.size n'.wld w'):=fun n' => type17 4 n'.wld (by decide)
 refine wp_region_below_lit (by kernel_rfl) (by kernel_rfl) ?_
 repeat (first | go_big_quiet_skip | (go_big_quiet_want;go_big_quiet_op;first | go_big_quiet_on | (apply Exists.intro;refine ⟨fun nq => ?_,?_⟩;(go_at_call 139;exact below_of (HTY.out _));go_big_quiet_on)))
 refine wpQuiet_nil ?_
 intro wq hnq
 obtain ⟨nq,rfl⟩:=hnq
 have hq:=nq.bel
 generalize nq.wld=wq at hq ⊢
 clear nq
 have hf3:=HF2.out.below hq HF2.out.lt
 have f1:=hf3.cell 1
 have f2:=hf3.cell 2
 have f3:=hf3.cell 3
 have hlf:=hf3.lt
 simp at f1 f2 f3
 have HB3:=Lib.hid (bb HB2.out hq)
 have hltb:b < wq.heap.size:=Nat.lt_of_lt_of_le hlt HB3.out.size
 clear hf3 hq n1 HTY HF2 HB2
 go_wp2_with fail
 go_ret
 exact SetIn.bad (Tch.below HB3.out) HQ.out (by decide)
theorem set18_5a (B:Nat) (wc:World) (b:Nat) (m:Mp) (dv tv rv:Value) (i:Nat) (t:Nat) (ty:Int) (n:Nat) (s:List UInt8) (fA:Option Addr) (fn fc:Nat) (w:World) (hi:i < 22) (hu:nmUse i=5) (hin:SetIn B wc w b m dv tv rv) (hty:ty≠1) :
 Calls Tryz.prog 83 #[.pointer (some ⟨b,0,none⟩),.string (txt (nmAt i)),.agg #[.int .u64 (t:Int),.int .i64 ty,.int .u64 (n:Int),.string (txt s),.slice fA fn fc]] w (SetEnd B w b m i rv (setc 5 ty n s)):=by
 have hq:(setc 5 ty n s).2=8:=by unfold setc;simp [hty]
 have HQ:=Lib.hid hq
 have hyb:(ty == 1)=false:=by rw [beq_eq_false_iff_ne];exact hty
 clear hq hty
 have hp:∀ b,plc b i=.iface (ptrT 5) (.pointer (some ⟨b,cellIx i,none⟩)):=fun b => by rw [plc,hu]
 have HPL:=Lib.hid (fun x => place_any b x i hi)
 simp only [hp] at HPL
 have HUS:Hid (∀ x,Calls Tryz.prog 138 #[.iface (ptrT 5) (.pointer (some ⟨b,cellIx i,none⟩))] x fun e w' => e=.returned (.tuple #[.int .i64 5,.bool true])∧Below x.heap.size x w'):=fun x => use18_5 (.pointer (some ⟨b,cellIx i,none⟩)) x
 have HFM:=Lib.hid (BlkAt.made w 47 #[.int .u64 (t:Int),.int .i64 ty,.int .u64 (n:Int),.string (txt s),.slice fA fn fc])
 have HBF:=Lib.hid (ba (a:=w) b0 (.cells #[.int .u64 (t:Int),.int .i64 ty,.int .u64 (n:Int),.string (txt s),.slice fA fn fc] 47))
 have HIN:=Lib.hid hin
 obtain ⟨N,hN⟩:∃ N,N=txt (nmAt i):=⟨_,rfl⟩
 rw [← hN] at HPL ⊢
 have hlt:=hin.at_.lt
 obtain ⟨ci,hci⟩:∃ ci,ci=cellIx i:=⟨_,rfl⟩
 rw [← hci] at HPL HUS
 have HCI:=Lib.hid hci
 clear hp hN hin hci
 have y5:=as_yes 5
 have n0:=as_no50
 have n1:=as_no51
 have n2:=as_no52
 have n3:=as_no53
 have n4:=as_no54
 simp only [ptrT] at *
 go_enter Tryz.func83,Tryz.ntmps83
 go_wp2_with fail
 generalize w.alloc (.cells #[.int .u64 (t:Int),.int .i64 ty,.int .u64 (n:Int),.string (txt s),.slice fA fn fc] 47)=wf at HFM HBF ⊢
 refine (HPL.out _).mono ?_
 rintro e w1 ⟨rfl,hb1⟩
 have HF1:=Lib.hid (HFM.out.below hb1 HFM.out.lt)
 have HB1:=Lib.hid (bb HBF.out hb1)
 clear hb1 HPL HFM HBF
 go_wp2_with fail
 refine (HUS.out _).mono ?_
 rintro e w2 ⟨rfl,hb2⟩
 have HF2:=Lib.hid (HF1.out.below hb2 HF1.out.lt)
 have HB2:=Lib.hid (bb HB1.out hb2)
 clear hb2 HUS HF1 HB1
 go_wp2_with fail
 have n1:∀ n':BelW w2,n'.wld.cell? ⟨w.heap.size,1,none⟩=some (.int .i64 ty):=fun n' => (HF2.out.below n'.bel HF2.out.lt).cell 1
 have HTY:Hid (∀ n':BelW w2,Calls Tryz.prog 139 #[.int .i64 5] n'.wld fun e w' => e=.returned (.int .i64 1)∧Below n'.wld.heap.size n'.wld w'):=fun n' => type17 5 n'.wld (by decide)
 refine wp_region_below_lit (by kernel_rfl) (by kernel_rfl) ?_
 repeat (first | go_big_quiet_skip | (go_big_quiet_want;go_big_quiet_op;first | go_big_quiet_on | (apply Exists.intro;refine ⟨fun nq => ?_,?_⟩;(go_at_call 139;exact below_of (HTY.out _));go_big_quiet_on)))
 refine wpQuiet_nil ?_
 intro wq hnq
 obtain ⟨nq,rfl⟩:=hnq
 have hq:=nq.bel
 generalize nq.wld=wq at hq ⊢
 clear nq
 have hf3:=HF2.out.below hq HF2.out.lt
 have f1:=hf3.cell 1
 have f2:=hf3.cell 2
 have f3:=hf3.cell 3
 have hlf:=hf3.lt
 simp at f1 f2 f3
 have HB3:=Lib.hid (bb HB2.out hq)
 have hltb:b < wq.heap.size:=Nat.lt_of_lt_of_le hlt HB3.out.size
 clear hf3 hq n1 HTY HF2 HB2
 go_wp2_with fail
 go_ret
 exact SetIn.bad (Tch.below HB3.out) HQ.out (by decide)
theorem set18_0z (B:Nat) (wc:World) (b:Nat) (m:Mp) (dv tv rv:Value) (i:Nat) (t:Nat) (ty:Int) (n:Nat) (s:List UInt8) (fA:Option Addr) (fn fc:Nat) (w:World) (hi:i < 22) (hu:nmUse i=0) (hin:SetIn B wc w b m dv tv rv) (hty:ty=0) (hz:n=0) :
 Calls Tryz.prog 83 #[.pointer (some ⟨b,0,none⟩),.string (txt (nmAt i)),.agg #[.int .u64 (t:Int),.int .i64 ty,.int .u64 (n:Int),.string (txt s),.slice fA fn fc]] w (SetEnd B w b m i rv (setc 0 ty n s)):=by
 have hq:(setc 0 ty n s).2=17:=by unfold setc;simp [hty,hz]
 have HQ:=Lib.hid hq
 have hyb:(ty == 0)=true:=by rw [beq_iff_eq];exact hty
 have hnb:((n:Int) == 0)=true:=by rw [beq_iff_eq];omega
 clear hq hty hz
 have hp:∀ b,plc b i=.iface (ptrT 0) (.pointer (some ⟨b,cellIx i,none⟩)):=fun b => by rw [plc,hu]
 have HPL:=Lib.hid (fun x => place_any b x i hi)
 simp only [hp] at HPL
 have HUS:Hid (∀ x,Calls Tryz.prog 138 #[.iface (ptrT 0) (.pointer (some ⟨b,cellIx i,none⟩))] x fun e w' => e=.returned (.tuple #[.int .i64 0,.bool true])∧Below x.heap.size x w'):=fun x => use18_0 (.pointer (some ⟨b,cellIx i,none⟩)) x
 have HFM:=Lib.hid (BlkAt.made w 47 #[.int .u64 (t:Int),.int .i64 ty,.int .u64 (n:Int),.string (txt s),.slice fA fn fc])
 have HBF:=Lib.hid (ba (a:=w) b0 (.cells #[.int .u64 (t:Int),.int .i64 ty,.int .u64 (n:Int),.string (txt s),.slice fA fn fc] 47))
 have HIN:=Lib.hid hin
 obtain ⟨N,hN⟩:∃ N,N=txt (nmAt i):=⟨_,rfl⟩
 rw [← hN] at HPL ⊢
 have hlt:=hin.at_.lt
 obtain ⟨ci,hci⟩:∃ ci,ci=cellIx i:=⟨_,rfl⟩
 rw [← hci] at HPL HUS
 have HCI:=Lib.hid hci
 clear hp hN hin hci
 have y0:=as_yes 0
 simp only [ptrT] at *
 go_enter Tryz.func83,Tryz.ntmps83
 go_wp2_with fail
 generalize w.alloc (.cells #[.int .u64 (t:Int),.int .i64 ty,.int .u64 (n:Int),.string (txt s),.slice fA fn fc] 47)=wf at HFM HBF ⊢
 refine (HPL.out _).mono ?_
 rintro e w1 ⟨rfl,hb1⟩
 have HF1:=Lib.hid (HFM.out.below hb1 HFM.out.lt)
 have HB1:=Lib.hid (bb HBF.out hb1)
 clear hb1 HPL HFM HBF
 go_wp2_with fail
 refine (HUS.out _).mono ?_
 rintro e w2 ⟨rfl,hb2⟩
 have HF2:=Lib.hid (HF1.out.below hb2 HF1.out.lt)
 have HB2:=Lib.hid (bb HB1.out hb2)
 clear hb2 HUS HF1 HB1
 go_wp2_with fail
 have n1:∀ n':BelW w2,n'.wld.cell? ⟨w.heap.size,1,none⟩=some (.int .i64 ty):=fun n' => (HF2.out.below n'.bel HF2.out.lt).cell 1
 have HTY:Hid (∀ n':BelW w2,Calls Tryz.prog 139 #[.int .i64 0] n'.wld fun e w' => e=.returned (.int .i64 0)∧Below n'.wld.heap.size n'.wld w'):=fun n' => type17 0 n'.wld (by decide)
 refine wp_region_below_lit (by kernel_rfl) (by kernel_rfl) ?_
 repeat (first | go_big_quiet_skip | (go_big_quiet_want;go_big_quiet_op;first | go_big_quiet_on | (apply Exists.intro;refine ⟨fun nq => ?_,?_⟩;(go_at_call 139;exact below_of (HTY.out _));go_big_quiet_on)))
 refine wpQuiet_nil ?_
 intro wq hnq
 obtain ⟨nq,rfl⟩:=hnq
 have hq:=nq.bel
 generalize nq.wld=wq at hq ⊢
 clear nq
 have hf3:=HF2.out.below hq HF2.out.lt
 have f1:=hf3.cell 1
 have f2:=hf3.cell 2
 have f3:=hf3.cell 3
 have hlf:=hf3.lt
 simp at f1 f2 f3
 have HB3:=Lib.hid (bb HB2.out hq)
 have hltb:b < wq.heap.size:=Nat.lt_of_lt_of_le hlt HB3.out.size
 clear hf3 hq n1 HTY HF2 HB2
 go_wp2_with fail
 go_ret
 exact SetIn.bad (Tch.below HB3.out) HQ.out (by decide)
theorem set18_1z (B:Nat) (wc:World) (b:Nat) (m:Mp) (dv tv rv:Value) (i:Nat) (t:Nat) (ty:Int) (n:Nat) (s:List UInt8) (fA:Option Addr) (fn fc:Nat) (w:World) (hi:i < 22) (hu:nmUse i=1) (hin:SetIn B wc w b m dv tv rv) (hty:ty=0) (hz:n=0) :
 Calls Tryz.prog 83 #[.pointer (some ⟨b,0,none⟩),.string (txt (nmAt i)),.agg #[.int .u64 (t:Int),.int .i64 ty,.int .u64 (n:Int),.string (txt s),.slice fA fn fc]] w (SetEnd B w b m i rv (setc 1 ty n s)):=by
 have hq:(setc 1 ty n s).2=17:=by unfold setc;simp [hty,hz]
 have HQ:=Lib.hid hq
 have hyb:(ty == 0)=true:=by rw [beq_iff_eq];exact hty
 have hnb:((n:Int) == 0)=true:=by rw [beq_iff_eq];omega
 clear hq hty hz
 have hp:∀ b,plc b i=.iface (ptrT 1) (.pointer (some ⟨b,cellIx i,none⟩)):=fun b => by rw [plc,hu]
 have HPL:=Lib.hid (fun x => place_any b x i hi)
 simp only [hp] at HPL
 have HUS:Hid (∀ x,Calls Tryz.prog 138 #[.iface (ptrT 1) (.pointer (some ⟨b,cellIx i,none⟩))] x fun e w' => e=.returned (.tuple #[.int .i64 1,.bool true])∧Below x.heap.size x w'):=fun x => use18_1 (.pointer (some ⟨b,cellIx i,none⟩)) x
 have HFM:=Lib.hid (BlkAt.made w 47 #[.int .u64 (t:Int),.int .i64 ty,.int .u64 (n:Int),.string (txt s),.slice fA fn fc])
 have HBF:=Lib.hid (ba (a:=w) b0 (.cells #[.int .u64 (t:Int),.int .i64 ty,.int .u64 (n:Int),.string (txt s),.slice fA fn fc] 47))
 have HIN:=Lib.hid hin
 obtain ⟨N,hN⟩:∃ N,N=txt (nmAt i):=⟨_,rfl⟩
 rw [← hN] at HPL ⊢
 have hlt:=hin.at_.lt
 obtain ⟨ci,hci⟩:∃ ci,ci=cellIx i:=⟨_,rfl⟩
 rw [← hci] at HPL HUS
 have HCI:=Lib.hid hci
 clear hp hN hin hci
 have y1:=as_yes 1
 have n0:=as_no10
 simp only [ptrT] at *
 go_enter Tryz.func83,Tryz.ntmps83
 go_wp2_with fail
 generalize w.alloc (.cells #[.int .u64 (t:Int),.int .i64 ty,.int .u64 (n:Int),.string (txt s),.slice fA fn fc] 47)=wf at HFM HBF ⊢
 refine (HPL.out _).mono ?_
 rintro e w1 ⟨rfl,hb1⟩
 have HF1:=Lib.hid (HFM.out.below hb1 HFM.out.lt)
 have HB1:=Lib.hid (bb HBF.out hb1)
 clear hb1 HPL HFM HBF
 go_wp2_with fail
 refine (HUS.out _).mono ?_
 rintro e w2 ⟨rfl,hb2⟩
 have HF2:=Lib.hid (HF1.out.below hb2 HF1.out.lt)
 have HB2:=Lib.hid (bb HB1.out hb2)
 clear hb2 HUS HF1 HB1
 go_wp2_with fail
 have n1:∀ n':BelW w2,n'.wld.cell? ⟨w.heap.size,1,none⟩=some (.int .i64 ty):=fun n' => (HF2.out.below n'.bel HF2.out.lt).cell 1
 have HTY:Hid (∀ n':BelW w2,Calls Tryz.prog 139 #[.int .i64 1] n'.wld fun e w' => e=.returned (.int .i64 0)∧Below n'.wld.heap.size n'.wld w'):=fun n' => type17 1 n'.wld (by decide)
 refine wp_region_below_lit (by kernel_rfl) (by kernel_rfl) ?_
 repeat (first | go_big_quiet_skip | (go_big_quiet_want;go_big_quiet_op;first | go_big_quiet_on | (apply Exists.intro;refine ⟨fun nq => ?_,?_⟩;(go_at_call 139;exact below_of (HTY.out _));go_big_quiet_on)))
 refine wpQuiet_nil ?_
 intro wq hnq
 obtain ⟨nq,rfl⟩:=hnq
 have hq:=nq.bel
 generalize nq.wld=wq at hq ⊢
 clear nq
 have hf3:=HF2.out.below hq HF2.out.lt
 have f1:=hf3.cell 1
 have f2:=hf3.cell 2
 have f3:=hf3.cell 3
 have hlf:=hf3.lt
 simp at f1 f2 f3
 have HB3:=Lib.hid (bb HB2.out hq)
 have hltb:b < wq.heap.size:=Nat.lt_of_lt_of_le hlt HB3.out.size
 clear hf3 hq n1 HTY HF2 HB2
 go_wp2_with fail
 go_ret
 exact SetIn.bad (Tch.below HB3.out) HQ.out (by decide)
theorem set18_2z (B:Nat) (wc:World) (b:Nat) (m:Mp) (dv tv rv:Value) (i:Nat) (t:Nat) (ty:Int) (n:Nat) (s:List UInt8) (fA:Option Addr) (fn fc:Nat) (w:World) (hi:i < 22) (hu:nmUse i=2) (hin:SetIn B wc w b m dv tv rv) (hty:ty=0) (hz:n=0) :
 Calls Tryz.prog 83 #[.pointer (some ⟨b,0,none⟩),.string (txt (nmAt i)),.agg #[.int .u64 (t:Int),.int .i64 ty,.int .u64 (n:Int),.string (txt s),.slice fA fn fc]] w (SetEnd B w b m i rv (setc 2 ty n s)):=by
 have hq:(setc 2 ty n s).2=17:=by unfold setc;simp [hty,hz]
 have HQ:=Lib.hid hq
 have hyb:(ty == 0)=true:=by rw [beq_iff_eq];exact hty
 have hnb:((n:Int) == 0)=true:=by rw [beq_iff_eq];omega
 clear hq hty hz
 have hp:∀ b,plc b i=.iface (ptrT 2) (.pointer (some ⟨b,cellIx i,none⟩)):=fun b => by rw [plc,hu]
 have HPL:=Lib.hid (fun x => place_any b x i hi)
 simp only [hp] at HPL
 have HUS:Hid (∀ x,Calls Tryz.prog 138 #[.iface (ptrT 2) (.pointer (some ⟨b,cellIx i,none⟩))] x fun e w' => e=.returned (.tuple #[.int .i64 2,.bool true])∧Below x.heap.size x w'):=fun x => use18_2 (.pointer (some ⟨b,cellIx i,none⟩)) x
 have HFM:=Lib.hid (BlkAt.made w 47 #[.int .u64 (t:Int),.int .i64 ty,.int .u64 (n:Int),.string (txt s),.slice fA fn fc])
 have HBF:=Lib.hid (ba (a:=w) b0 (.cells #[.int .u64 (t:Int),.int .i64 ty,.int .u64 (n:Int),.string (txt s),.slice fA fn fc] 47))
 have HIN:=Lib.hid hin
 obtain ⟨N,hN⟩:∃ N,N=txt (nmAt i):=⟨_,rfl⟩
 rw [← hN] at HPL ⊢
 have hlt:=hin.at_.lt
 obtain ⟨ci,hci⟩:∃ ci,ci=cellIx i:=⟨_,rfl⟩
 rw [← hci] at HPL HUS
 have HCI:=Lib.hid hci
 clear hp hN hin hci
 have y2:=as_yes 2
 have n0:=as_no20
 have n1:=as_no21
 simp only [ptrT] at *
 go_enter Tryz.func83,Tryz.ntmps83
 go_wp2_with fail
 generalize w.alloc (.cells #[.int .u64 (t:Int),.int .i64 ty,.int .u64 (n:Int),.string (txt s),.slice fA fn fc] 47)=wf at HFM HBF ⊢
 refine (HPL.out _).mono ?_
 rintro e w1 ⟨rfl,hb1⟩
 have HF1:=Lib.hid (HFM.out.below hb1 HFM.out.lt)
 have HB1:=Lib.hid (bb HBF.out hb1)
 clear hb1 HPL HFM HBF
 go_wp2_with fail
 refine (HUS.out _).mono ?_
 rintro e w2 ⟨rfl,hb2⟩
 have HF2:=Lib.hid (HF1.out.below hb2 HF1.out.lt)
 have HB2:=Lib.hid (bb HB1.out hb2)
 clear hb2 HUS HF1 HB1
 go_wp2_with fail
 have n1:∀ n':BelW w2,n'.wld.cell? ⟨w.heap.size,1,none⟩=some (.int .i64 ty):=fun n' => (HF2.out.below n'.bel HF2.out.lt).cell 1
 have HTY:Hid (∀ n':BelW w2,Calls Tryz.prog 139 #[.int .i64 2] n'.wld fun e w' => e=.returned (.int .i64 0)∧Below n'.wld.heap.size n'.wld w'):=fun n' => type17 2 n'.wld (by decide)
 refine wp_region_below_lit (by kernel_rfl) (by kernel_rfl) ?_
 repeat (first | go_big_quiet_skip | (go_big_quiet_want;go_big_quiet_op;first | go_big_quiet_on | (apply Exists.intro;refine ⟨fun nq => ?_,?_⟩;(go_at_call 139;exact below_of (HTY.out _));go_big_quiet_on)))
 refine wpQuiet_nil ?_
 intro wq hnq
 obtain ⟨nq,rfl⟩:=hnq
 have hq:=nq.bel
 generalize nq.wld=wq at hq ⊢
 clear nq
 have hf3:=HF2.out.below hq HF2.out.lt
 have f1:=hf3.cell 1
 have f2:=hf3.cell 2
 have f3:=hf3.cell 3
 have hlf:=hf3.lt
 simp at f1 f2 f3
 have HB3:=Lib.hid (bb HB2.out hq)
 have hltb:b < wq.heap.size:=Nat.lt_of_lt_of_le hlt HB3.out.size
 clear hf3 hq n1 HTY HF2 HB2
 go_wp2_with fail
 go_ret
 exact SetIn.bad (Tch.below HB3.out) HQ.out (by decide)
theorem set18_3z (B:Nat) (wc:World) (b:Nat) (m:Mp) (dv tv rv:Value) (i:Nat) (t:Nat) (ty:Int) (n:Nat) (s:List UInt8) (fA:Option Addr) (fn fc:Nat) (w:World) (hi:i < 22) (hu:nmUse i=3) (hin:SetIn B wc w b m dv tv rv) (hty:ty=1) (hz:s=[]) :
 Calls Tryz.prog 83 #[.pointer (some ⟨b,0,none⟩),.string (txt (nmAt i)),.agg #[.int .u64 (t:Int),.int .i64 ty,.int .u64 (n:Int),.string (txt s),.slice fA fn fc]] w (SetEnd B w b m i rv (setc 3 ty n s)):=by
 have hq:(setc 3 ty n s).2=17:=by unfold setc;simp [hty,hz]
 have HQ:=Lib.hid hq
 have hyb:(ty == 1)=true:=by rw [beq_iff_eq];exact hty
 have hsb:(txt s).toList.isEmpty=true:=by rw [eq0_str];simpa using hz
 clear hq hty hz
 have hp:∀ b,plc b i=.iface (ptrT 3) (.pointer (some ⟨b,cellIx i,none⟩)):=fun b => by rw [plc,hu]
 have HPL:=Lib.hid (fun x => place_any b x i hi)
 simp only [hp] at HPL
 have HUS:Hid (∀ x,Calls Tryz.prog 138 #[.iface (ptrT 3) (.pointer (some ⟨b,cellIx i,none⟩))] x fun e w' => e=.returned (.tuple #[.int .i64 3,.bool true])∧Below x.heap.size x w'):=fun x => use18_3 (.pointer (some ⟨b,cellIx i,none⟩)) x
 have HFM:=Lib.hid (BlkAt.made w 47 #[.int .u64 (t:Int),.int .i64 ty,.int .u64 (n:Int),.string (txt s),.slice fA fn fc])
 have HBF:=Lib.hid (ba (a:=w) b0 (.cells #[.int .u64 (t:Int),.int .i64 ty,.int .u64 (n:Int),.string (txt s),.slice fA fn fc] 47))
 have HIN:=Lib.hid hin
 obtain ⟨N,hN⟩:∃ N,N=txt (nmAt i):=⟨_,rfl⟩
 rw [← hN] at HPL ⊢
 have hlt:=hin.at_.lt
 obtain ⟨ci,hci⟩:∃ ci,ci=cellIx i:=⟨_,rfl⟩
 rw [← hci] at HPL HUS
 have HCI:=Lib.hid hci
 clear hp hN hin hci
 have y3:=as_yes 3
 have n0:=as_no30
 have n1:=as_no31
 have n2:=as_no32
 simp only [ptrT] at *
 go_enter Tryz.func83,Tryz.ntmps83
 go_wp2_with fail
 generalize w.alloc (.cells #[.int .u64 (t:Int),.int .i64 ty,.int .u64 (n:Int),.string (txt s),.slice fA fn fc] 47)=wf at HFM HBF ⊢
 refine (HPL.out _).mono ?_
 rintro e w1 ⟨rfl,hb1⟩
 have HF1:=Lib.hid (HFM.out.below hb1 HFM.out.lt)
 have HB1:=Lib.hid (bb HBF.out hb1)
 clear hb1 HPL HFM HBF
 go_wp2_with fail
 refine (HUS.out _).mono ?_
 rintro e w2 ⟨rfl,hb2⟩
 have HF2:=Lib.hid (HF1.out.below hb2 HF1.out.lt)
 have HB2:=Lib.hid (bb HB1.out hb2)
 clear hb2 HUS HF1 HB1
 go_wp2_with fail
 have n1:∀ n':BelW w2,n'.wld.cell? ⟨w.heap.size,1,none⟩=some (.int .i64 ty):=fun n' => (HF2.out.below n'.bel HF2.out.lt).cell 1
 have HTY:Hid (∀ n':BelW w2,Calls Tryz.prog 139 #[.int .i64 3] n'.wld fun e w' => e=.returned (.int .i64 1)∧Below n'.wld.heap.size n'.wld w'):=fun n' => type17 3 n'.wld (by decide)
 refine wp_region_below_lit (by kernel_rfl) (by kernel_rfl) ?_
 repeat (first | go_big_quiet_skip | (go_big_quiet_want;go_big_quiet_op;first | go_big_quiet_on | (apply Exists.intro;refine ⟨fun nq => ?_,?_⟩;(go_at_call 139;exact below_of (HTY.out _));go_big_quiet_on)))
 refine wpQuiet_nil ?_
 intro wq hnq
 obtain ⟨nq,rfl⟩:=hnq
 have hq:=nq.bel
 generalize nq.wld=wq at hq ⊢
 clear nq
 have hf3:=HF2.out.below hq HF2.out.lt
 have f1:=hf3.cell 1
 have f2:=hf3.cell 2
 have f3:=hf3.cell 3
 have hlf:=hf3.lt
 simp at f1 f2 f3
 have HB3:=Lib.hid (bb HB2.out hq)
 have hltb:b < wq.heap.size:=Nat.lt_of_lt_of_le hlt HB3.out.size
 clear hf3 hq n1 HTY HF2 HB2
 go_wp2_with fail
 go_ret
 exact SetIn.bad (Tch.below HB3.out) HQ.out (by decide)
theorem set18_4z (B:Nat) (wc:World) (b:Nat) (m:Mp) (dv tv rv:Value) (i:Nat) (t:Nat) (ty:Int) (n:Nat) (s:List UInt8) (fA:Option Addr) (fn fc:Nat) (w:World) (hi:i < 22) (hu:nmUse i=4) (hin:SetIn B wc w b m dv tv rv) (hty:ty=1) (hz:s=[]) :
 Calls Tryz.prog 83 #[.pointer (some ⟨b,0,none⟩),.string (txt (nmAt i)),.agg #[.int .u64 (t:Int),.int .i64 ty,.int .u64 (n:Int),.string (txt s),.slice fA fn fc]] w (SetEnd B w b m i rv (setc 4 ty n s)):=by
 have hq:(setc 4 ty n s).2=17:=by unfold setc;simp [hty,hz]
 have HQ:=Lib.hid hq
 have hyb:(ty == 1)=true:=by rw [beq_iff_eq];exact hty
 have hsb:(txt s).toList.isEmpty=true:=by rw [eq0_str];simpa using hz
 clear hq hty hz
 have hp:∀ b,plc b i=.iface (ptrT 4) (.pointer (some ⟨b,cellIx i,none⟩)):=fun b => by rw [plc,hu]
 have HPL:=Lib.hid (fun x => place_any b x i hi)
 simp only [hp] at HPL
 have HUS:Hid (∀ x,Calls Tryz.prog 138 #[.iface (ptrT 4) (.pointer (some ⟨b,cellIx i,none⟩))] x fun e w' => e=.returned (.tuple #[.int .i64 4,.bool true])∧Below x.heap.size x w'):=fun x => use18_4 (.pointer (some ⟨b,cellIx i,none⟩)) x
 have HFM:=Lib.hid (BlkAt.made w 47 #[.int .u64 (t:Int),.int .i64 ty,.int .u64 (n:Int),.string (txt s),.slice fA fn fc])
 have HBF:=Lib.hid (ba (a:=w) b0 (.cells #[.int .u64 (t:Int),.int .i64 ty,.int .u64 (n:Int),.string (txt s),.slice fA fn fc] 47))
 have HIN:=Lib.hid hin
 obtain ⟨N,hN⟩:∃ N,N=txt (nmAt i):=⟨_,rfl⟩
 rw [← hN] at HPL ⊢
 have hlt:=hin.at_.lt
 obtain ⟨ci,hci⟩:∃ ci,ci=cellIx i:=⟨_,rfl⟩
 rw [← hci] at HPL HUS
 have HCI:=Lib.hid hci
 clear hp hN hin hci
 have y4:=as_yes 4
 have n0:=as_no40
 have n1:=as_no41
 have n2:=as_no42
 have n3:=as_no43
 simp only [ptrT] at *
 go_enter Tryz.func83,Tryz.ntmps83
 go_wp2_with fail
 generalize w.alloc (.cells #[.int .u64 (t:Int),.int .i64 ty,.int .u64 (n:Int),.string (txt s),.slice fA fn fc] 47)=wf at HFM HBF ⊢
 refine (HPL.out _).mono ?_
 rintro e w1 ⟨rfl,hb1⟩
 have HF1:=Lib.hid (HFM.out.below hb1 HFM.out.lt)
 have HB1:=Lib.hid (bb HBF.out hb1)
 clear hb1 HPL HFM HBF
 go_wp2_with fail
 refine (HUS.out _).mono ?_
 rintro e w2 ⟨rfl,hb2⟩
 have HF2:=Lib.hid (HF1.out.below hb2 HF1.out.lt)
 have HB2:=Lib.hid (bb HB1.out hb2)
 clear hb2 HUS HF1 HB1
 go_wp2_with fail
 have n1:∀ n':BelW w2,n'.wld.cell? ⟨w.heap.size,1,none⟩=some (.int .i64 ty):=fun n' => (HF2.out.below n'.bel HF2.out.lt).cell 1
 have HTY:Hid (∀ n':BelW w2,Calls Tryz.prog 139 #[.int .i64 4] n'.wld fun e w' => e=.returned (.int .i64 1)∧Below n'.wld.heap.size n'.wld w'):=fun n' => type17 4 n'.wld (by decide)
 refine wp_region_below_lit (by kernel_rfl) (by kernel_rfl) ?_
 repeat (first | go_big_quiet_skip | (go_big_quiet_want;go_big_quiet_op;first | go_big_quiet_on | (apply Exists.intro;refine ⟨fun nq => ?_,?_⟩;(go_at_call 139;exact below_of (HTY.out _));go_big_quiet_on)))
 refine wpQuiet_nil ?_
 intro wq hnq
 obtain ⟨nq,rfl⟩:=hnq
 have hq:=nq.bel
 generalize nq.wld=wq at hq ⊢
 clear nq
 have hf3:=HF2.out.below hq HF2.out.lt
 have f1:=hf3.cell 1
 have f2:=hf3.cell 2
 have f3:=hf3.cell 3
 have hlf:=hf3.lt
 simp at f1 f2 f3
 have HB3:=Lib.hid (bb HB2.out hq)
 have hltb:b < wq.heap.size:=Nat.lt_of_lt_of_le hlt HB3.out.size
 clear hf3 hq n1 HTY HF2 HB2
 go_wp2_with fail
 go_ret
 exact SetIn.bad (Tch.below HB3.out) HQ.out (by decide)
theorem set18_5z (B:Nat) (wc:World) (b:Nat) (m:Mp) (dv tv rv:Value) (i:Nat) (t:Nat) (ty:Int) (n:Nat) (s:List UInt8) (fA:Option Addr) (fn fc:Nat) (w:World) (hi:i < 22) (hu:nmUse i=5) (hin:SetIn B wc w b m dv tv rv) (hty:ty=1) (hz:s=[]) :
 Calls Tryz.prog 83 #[.pointer (some ⟨b,0,none⟩),.string (txt (nmAt i)),.agg #[.int .u64 (t:Int),.int .i64 ty,.int .u64 (n:Int),.string (txt s),.slice fA fn fc]] w (SetEnd B w b m i rv (setc 5 ty n s)):=by
 have hq:(setc 5 ty n s).2=17:=by unfold setc;simp [hty,hz]
 have HQ:=Lib.hid hq
 have hyb:(ty == 1)=true:=by rw [beq_iff_eq];exact hty
 have hsb:(txt s).toList.isEmpty=true:=by rw [eq0_str];simpa using hz
 clear hq hty hz
 have hp:∀ b,plc b i=.iface (ptrT 5) (.pointer (some ⟨b,cellIx i,none⟩)):=fun b => by rw [plc,hu]
 have HPL:=Lib.hid (fun x => place_any b x i hi)
 simp only [hp] at HPL
 have HUS:Hid (∀ x,Calls Tryz.prog 138 #[.iface (ptrT 5) (.pointer (some ⟨b,cellIx i,none⟩))] x fun e w' => e=.returned (.tuple #[.int .i64 5,.bool true])∧Below x.heap.size x w'):=fun x => use18_5 (.pointer (some ⟨b,cellIx i,none⟩)) x
 have HFM:=Lib.hid (BlkAt.made w 47 #[.int .u64 (t:Int),.int .i64 ty,.int .u64 (n:Int),.string (txt s),.slice fA fn fc])
 have HBF:=Lib.hid (ba (a:=w) b0 (.cells #[.int .u64 (t:Int),.int .i64 ty,.int .u64 (n:Int),.string (txt s),.slice fA fn fc] 47))
 have HIN:=Lib.hid hin
 obtain ⟨N,hN⟩:∃ N,N=txt (nmAt i):=⟨_,rfl⟩
 rw [← hN] at HPL ⊢
 have hlt:=hin.at_.lt
 obtain ⟨ci,hci⟩:∃ ci,ci=cellIx i:=⟨_,rfl⟩
 rw [← hci] at HPL HUS
 have HCI:=Lib.hid hci
 clear hp hN hin hci
 have y5:=as_yes 5
 have n0:=as_no50
 have n1:=as_no51
 have n2:=as_no52
 have n3:=as_no53
 have n4:=as_no54
 simp only [ptrT] at *
 go_enter Tryz.func83,Tryz.ntmps83
 go_wp2_with fail
 generalize w.alloc (.cells #[.int .u64 (t:Int),.int .i64 ty,.int .u64 (n:Int),.string (txt s),.slice fA fn fc] 47)=wf at HFM HBF ⊢
 refine (HPL.out _).mono ?_
 rintro e w1 ⟨rfl,hb1⟩
 have HF1:=Lib.hid (HFM.out.below hb1 HFM.out.lt)
 have HB1:=Lib.hid (bb HBF.out hb1)
 clear hb1 HPL HFM HBF
 go_wp2_with fail
 refine (HUS.out _).mono ?_
 rintro e w2 ⟨rfl,hb2⟩
 have HF2:=Lib.hid (HF1.out.below hb2 HF1.out.lt)
 have HB2:=Lib.hid (bb HB1.out hb2)
 clear hb2 HUS HF1 HB1
 go_wp2_with fail
 have n1:∀ n':BelW w2,n'.wld.cell? ⟨w.heap.size,1,none⟩=some (.int .i64 ty):=fun n' => (HF2.out.below n'.bel HF2.out.lt).cell 1
 have HTY:Hid (∀ n':BelW w2,Calls Tryz.prog 139 #[.int .i64 5] n'.wld fun e w' => e=.returned (.int .i64 1)∧Below n'.wld.heap.size n'.wld w'):=fun n' => type17 5 n'.wld (by decide)
 refine wp_region_below_lit (by kernel_rfl) (by kernel_rfl) ?_
 repeat (first | go_big_quiet_skip | (go_big_quiet_want;go_big_quiet_op;first | go_big_quiet_on | (apply Exists.intro;refine ⟨fun nq => ?_,?_⟩;(go_at_call 139;exact below_of (HTY.out _));go_big_quiet_on)))
 refine wpQuiet_nil ?_
 intro wq hnq
 obtain ⟨nq,rfl⟩:=hnq
 have hq:=nq.bel
 generalize nq.wld=wq at hq ⊢
 clear nq
 have hf3:=HF2.out.below hq HF2.out.lt
 have f1:=hf3.cell 1
 have f2:=hf3.cell 2
 have f3:=hf3.cell 3
 have hlf:=hf3.lt
 simp at f1 f2 f3
 have HB3:=Lib.hid (bb HB2.out hq)
 have hltb:b < wq.heap.size:=Nat.lt_of_lt_of_le hlt HB3.out.size
 clear hf3 hq n1 HTY HF2 HB2
 go_wp2_with fail
 go_ret
 exact SetIn.bad (Tch.below HB3.out) HQ.out (by decide)
theorem set18_0g (B:Nat) (wc:World) (b:Nat) (m:Mp) (dv tv rv:Value) (i:Nat) (t:Nat) (ty:Int) (n:Nat) (s:List UInt8) (fA:Option Addr) (fn fc:Nat) (w:World) (hi:i < 22) (hu:nmUse i=0) (hin:SetIn B wc w b m dv tv rv) (hty:ty=0) (hn:n≠0) :
 Calls Tryz.prog 83 #[.pointer (some ⟨b,0,none⟩),.string (txt (nmAt i)),.agg #[.int .u64 (t:Int),.int .i64 ty,.int .u64 (n:Int),.string (txt s),.slice fA fn fc]] w (SetEnd B w b m i rv (setc 0 ty n s)):=by
 have hq:setc 0 ty n s=(.num n,0):=by unfold setc;simp [hty,hn]
 have HQ:=Lib.hid hq
 have hnb:((n:Int) == 0)=false:=by rw [beq_eq_false_iff_ne];omega
 have hyb:(ty == 0)=true:=by rw [beq_iff_eq];exact hty
 have hy1:(ty == 1)=false:=by rw [beq_eq_false_iff_ne];omega
 clear hq hty hn
 have hp:∀ b,plc b i=.iface (ptrT 0) (.pointer (some ⟨b,cellIx i,none⟩)):=fun b => by rw [plc,hu]
 have HPL:=Lib.hid (fun x => place_any b x i hi)
 simp only [hp] at HPL
 have HUS:Hid (∀ x,Calls Tryz.prog 138 #[.iface (ptrT 0) (.pointer (some ⟨b,cellIx i,none⟩))] x fun e w' => e=.returned (.tuple #[.int .i64 0,.bool true])∧Below x.heap.size x w'):=fun x => use18_0 (.pointer (some ⟨b,cellIx i,none⟩)) x
 have HFM:=Lib.hid (BlkAt.made w 47 #[.int .u64 (t:Int),.int .i64 ty,.int .u64 (n:Int),.string (txt s),.slice fA fn fc])
 have HBF:=Lib.hid (ba (a:=w) b0 (.cells #[.int .u64 (t:Int),.int .i64 ty,.int .u64 (n:Int),.string (txt s),.slice fA fn fc] 47))
 have HIN:=Lib.hid hin
 obtain ⟨N,hN⟩:∃ N,N=txt (nmAt i):=⟨_,rfl⟩
 rw [← hN] at HPL ⊢
 have hlt:=hin.at_.lt
 obtain ⟨ci,hci⟩:∃ ci,ci=cellIx i:=⟨_,rfl⟩
 rw [← hci] at HPL HUS
 have HCI:=Lib.hid hci
 clear hp hN hin hci
 have y0:=as_yes 0
 simp only [ptrT] at *
 go_enter Tryz.func83,Tryz.ntmps83
 go_wp2_with fail
 generalize w.alloc (.cells #[.int .u64 (t:Int),.int .i64 ty,.int .u64 (n:Int),.string (txt s),.slice fA fn fc] 47)=wf at HFM HBF ⊢
 refine (HPL.out _).mono ?_
 rintro e w1 ⟨rfl,hb1⟩
 have HF1:=Lib.hid (HFM.out.below hb1 HFM.out.lt)
 have HB1:=Lib.hid (bb HBF.out hb1)
 clear hb1 HPL HFM HBF
 go_wp2_with fail
 refine (HUS.out _).mono ?_
 rintro e w2 ⟨rfl,hb2⟩
 have HF2:=Lib.hid (HF1.out.below hb2 HF1.out.lt)
 have HB2:=Lib.hid (bb HB1.out hb2)
 clear hb2 HUS HF1 HB1
 go_wp2_with fail
 have n1:∀ n':BelW w2,n'.wld.cell? ⟨w.heap.size,1,none⟩=some (.int .i64 ty):=fun n' => (HF2.out.below n'.bel HF2.out.lt).cell 1
 have HTY:Hid (∀ n':BelW w2,Calls Tryz.prog 139 #[.int .i64 0] n'.wld fun e w' => e=.returned (.int .i64 0)∧Below n'.wld.heap.size n'.wld w'):=fun n' => type17 0 n'.wld (by decide)
 refine wp_region_below_lit (by kernel_rfl) (by kernel_rfl) ?_
 repeat (first | go_big_quiet_skip | (go_big_quiet_want;go_big_quiet_op;first | go_big_quiet_on | (apply Exists.intro;refine ⟨fun nq => ?_,?_⟩;(go_at_call 139;exact below_of (HTY.out _));go_big_quiet_on)))
 refine wpQuiet_nil ?_
 intro wq hnq
 obtain ⟨nq,rfl⟩:=hnq
 have hq:=nq.bel
 generalize nq.wld=wq at hq ⊢
 clear nq
 have hf3:=HF2.out.below hq HF2.out.lt
 have f1:=hf3.cell 1
 have f2:=hf3.cell 2
 have f3:=hf3.cell 3
 have hlf:=hf3.lt
 simp at f1 f2 f3
 have HB3:=Lib.hid (bb HB2.out hq)
 have hltb:b < wq.heap.size:=Nat.lt_of_lt_of_le hlt HB3.out.size
 clear hf3 hq n1 HTY HF2 HB2
 have hin3:=HIN.out.below HB3.out
 have hcc:=hin3.at_.cell hi
 have hff:=hin3.at_.free (cellIx i)
 rw [← HCI.out] at hcc hff
 clear hin3
 go_wp2_with fail
 go_ret
 exact HIN.out.store hi HB3.out (.num n) dv tv hu.symm (.inr rfl) (.inr rfl) (fun _ h => by cases h) (fun _ h => by cases h) HQ.out _ rfl HCI.out
theorem set18_1b (B:Nat) (wc:World) (b:Nat) (m:Mp) (dv tv rv:Value) (i:Nat) (t:Nat) (ty:Int) (n:Nat) (s:List UInt8) (fA:Option Addr) (fn fc:Nat) (w:World) (hi:i < 22) (hu:nmUse i=1) (hin:SetIn B wc w b m dv tv rv) (hty:ty=0) (hn:n≠0) (hn1:n≠1) :
 Calls Tryz.prog 83 #[.pointer (some ⟨b,0,none⟩),.string (txt (nmAt i)),.agg #[.int .u64 (t:Int),.int .i64 ty,.int .u64 (n:Int),.string (txt s),.slice fA fn fc]] w (SetEnd B w b m i rv (setc 1 ty n s)):=by
 have hq:(setc 1 ty n s).2=18:=by unfold setc;simp [hty,hn,hn1]
 have HQ:=Lib.hid hq
 have hnb:((n:Int) == 0)=false:=by rw [beq_eq_false_iff_ne];omega
 have hnc:((n:Int) == 1)=false:=by rw [beq_eq_false_iff_ne];omega
 have hyb:(ty == 0)=true:=by rw [beq_iff_eq];exact hty
 have hy1:(ty == 1)=false:=by rw [beq_eq_false_iff_ne];omega
 clear hq hty hn hn1
 have hp:∀ b,plc b i=.iface (ptrT 1) (.pointer (some ⟨b,cellIx i,none⟩)):=fun b => by rw [plc,hu]
 have HPL:=Lib.hid (fun x => place_any b x i hi)
 simp only [hp] at HPL
 have HUS:Hid (∀ x,Calls Tryz.prog 138 #[.iface (ptrT 1) (.pointer (some ⟨b,cellIx i,none⟩))] x fun e w' => e=.returned (.tuple #[.int .i64 1,.bool true])∧Below x.heap.size x w'):=fun x => use18_1 (.pointer (some ⟨b,cellIx i,none⟩)) x
 have HFM:=Lib.hid (BlkAt.made w 47 #[.int .u64 (t:Int),.int .i64 ty,.int .u64 (n:Int),.string (txt s),.slice fA fn fc])
 have HBF:=Lib.hid (ba (a:=w) b0 (.cells #[.int .u64 (t:Int),.int .i64 ty,.int .u64 (n:Int),.string (txt s),.slice fA fn fc] 47))
 have HIN:=Lib.hid hin
 obtain ⟨N,hN⟩:∃ N,N=txt (nmAt i):=⟨_,rfl⟩
 rw [← hN] at HPL ⊢
 have hlt:=hin.at_.lt
 obtain ⟨ci,hci⟩:∃ ci,ci=cellIx i:=⟨_,rfl⟩
 rw [← hci] at HPL HUS
 have HCI:=Lib.hid hci
 clear hp hN hin hci
 have y1:=as_yes 1
 have n0:=as_no10
 simp only [ptrT] at *
 go_enter Tryz.func83,Tryz.ntmps83
 go_wp2_with fail
 generalize w.alloc (.cells #[.int .u64 (t:Int),.int .i64 ty,.int .u64 (n:Int),.string (txt s),.slice fA fn fc] 47)=wf at HFM HBF ⊢
 refine (HPL.out _).mono ?_
 rintro e w1 ⟨rfl,hb1⟩
 have HF1:=Lib.hid (HFM.out.below hb1 HFM.out.lt)
 have HB1:=Lib.hid (bb HBF.out hb1)
 clear hb1 HPL HFM HBF
 go_wp2_with fail
 refine (HUS.out _).mono ?_
 rintro e w2 ⟨rfl,hb2⟩
 have HF2:=Lib.hid (HF1.out.below hb2 HF1.out.lt)
 have HB2:=Lib.hid (bb HB1.out hb2)
 clear hb2 HUS HF1 HB1
 go_wp2_with fail
 have n1:∀ n':BelW w2,n'.wld.cell? ⟨w.heap.size,1,none⟩=some (.int .i64 ty):=fun n' => (HF2.out.below n'.bel HF2.out.lt).cell 1
 have HTY:Hid (∀ n':BelW w2,Calls Tryz.prog 139 #[.int .i64 1] n'.wld fun e w' => e=.returned (.int .i64 0)∧Below n'.wld.heap.size n'.wld w'):=fun n' => type17 1 n'.wld (by decide)
 refine wp_region_below_lit (by kernel_rfl) (by kernel_rfl) ?_
 repeat (first | go_big_quiet_skip | (go_big_quiet_want;go_big_quiet_op;first | go_big_quiet_on | (apply Exists.intro;refine ⟨fun nq => ?_,?_⟩;(go_at_call 139;exact below_of (HTY.out _));go_big_quiet_on)))
 refine wpQuiet_nil ?_
 intro wq hnq
 obtain ⟨nq,rfl⟩:=hnq
 have hq:=nq.bel
 generalize nq.wld=wq at hq ⊢
 clear nq
 have hf3:=HF2.out.below hq HF2.out.lt
 have f1:=hf3.cell 1
 have f2:=hf3.cell 2
 have f3:=hf3.cell 3
 have hlf:=hf3.lt
 simp at f1 f2 f3
 have HB3:=Lib.hid (bb HB2.out hq)
 have hltb:b < wq.heap.size:=Nat.lt_of_lt_of_le hlt HB3.out.size
 clear hf3 hq n1 HTY HF2 HB2
 go_wp2_with fail
 go_ret
 exact SetIn.bad (Tch.below HB3.out) HQ.out (by decide)
theorem set18_1g (B:Nat) (wc:World) (b:Nat) (m:Mp) (dv tv rv:Value) (i:Nat) (t:Nat) (ty:Int) (n:Nat) (s:List UInt8) (fA:Option Addr) (fn fc:Nat) (w:World) (hi:i < 22) (hu:nmUse i=1) (hin:SetIn B wc w b m dv tv rv) (hty:ty=0) (hn:n=1) :
 Calls Tryz.prog 83 #[.pointer (some ⟨b,0,none⟩),.string (txt (nmAt i)),.agg #[.int .u64 (t:Int),.int .i64 ty,.int .u64 (n:Int),.string (txt s),.slice fA fn fc]] w (SetEnd B w b m i rv (setc 1 ty n s)):=by
 have hq:setc 1 ty n s=(.flag true,0):=by unfold setc;simp [hty,hn]
 have HQ:=Lib.hid hq
 have hnb:((n:Int) == 0)=false:=by rw [beq_eq_false_iff_ne];omega
 have hnc:((n:Int) == 1)=true:=by rw [beq_iff_eq];omega
 have hyb:(ty == 0)=true:=by rw [beq_iff_eq];exact hty
 have hy1:(ty == 1)=false:=by rw [beq_eq_false_iff_ne];omega
 clear hq hty hn
 have hp:∀ b,plc b i=.iface (ptrT 1) (.pointer (some ⟨b,cellIx i,none⟩)):=fun b => by rw [plc,hu]
 have HPL:=Lib.hid (fun x => place_any b x i hi)
 simp only [hp] at HPL
 have HUS:Hid (∀ x,Calls Tryz.prog 138 #[.iface (ptrT 1) (.pointer (some ⟨b,cellIx i,none⟩))] x fun e w' => e=.returned (.tuple #[.int .i64 1,.bool true])∧Below x.heap.size x w'):=fun x => use18_1 (.pointer (some ⟨b,cellIx i,none⟩)) x
 have HFM:=Lib.hid (BlkAt.made w 47 #[.int .u64 (t:Int),.int .i64 ty,.int .u64 (n:Int),.string (txt s),.slice fA fn fc])
 have HBF:=Lib.hid (ba (a:=w) b0 (.cells #[.int .u64 (t:Int),.int .i64 ty,.int .u64 (n:Int),.string (txt s),.slice fA fn fc] 47))
 have HIN:=Lib.hid hin
 obtain ⟨N,hN⟩:∃ N,N=txt (nmAt i):=⟨_,rfl⟩
 rw [← hN] at HPL ⊢
 have hlt:=hin.at_.lt
 obtain ⟨ci,hci⟩:∃ ci,ci=cellIx i:=⟨_,rfl⟩
 rw [← hci] at HPL HUS
 have HCI:=Lib.hid hci
 clear hp hN hin hci
 have y1:=as_yes 1
 have n0:=as_no10
 simp only [ptrT] at *
 go_enter Tryz.func83,Tryz.ntmps83
 go_wp2_with fail
 generalize w.alloc (.cells #[.int .u64 (t:Int),.int .i64 ty,.int .u64 (n:Int),.string (txt s),.slice fA fn fc] 47)=wf at HFM HBF ⊢
 refine (HPL.out _).mono ?_
 rintro e w1 ⟨rfl,hb1⟩
 have HF1:=Lib.hid (HFM.out.below hb1 HFM.out.lt)
 have HB1:=Lib.hid (bb HBF.out hb1)
 clear hb1 HPL HFM HBF
 go_wp2_with fail
 refine (HUS.out _).mono ?_
 rintro e w2 ⟨rfl,hb2⟩
 have HF2:=Lib.hid (HF1.out.below hb2 HF1.out.lt)
 have HB2:=Lib.hid (bb HB1.out hb2)
 clear hb2 HUS HF1 HB1
 go_wp2_with fail
 have n1:∀ n':BelW w2,n'.wld.cell? ⟨w.heap.size,1,none⟩=some (.int .i64 ty):=fun n' => (HF2.out.below n'.bel HF2.out.lt).cell 1
 have HTY:Hid (∀ n':BelW w2,Calls Tryz.prog 139 #[.int .i64 1] n'.wld fun e w' => e=.returned (.int .i64 0)∧Below n'.wld.heap.size n'.wld w'):=fun n' => type17 1 n'.wld (by decide)
 refine wp_region_below_lit (by kernel_rfl) (by kernel_rfl) ?_
 repeat (first | go_big_quiet_skip | (go_big_quiet_want;go_big_quiet_op;first | go_big_quiet_on | (apply Exists.intro;refine ⟨fun nq => ?_,?_⟩;(go_at_call 139;exact below_of (HTY.out _));go_big_quiet_on)))
 refine wpQuiet_nil ?_
 intro wq hnq
 obtain ⟨nq,rfl⟩:=hnq
 have hq:=nq.bel
 generalize nq.wld=wq at hq ⊢
 clear nq
 have hf3:=HF2.out.below hq HF2.out.lt
 have f1:=hf3.cell 1
 have f2:=hf3.cell 2
 have f3:=hf3.cell 3
 have hlf:=hf3.lt
 simp at f1 f2 f3
 have HB3:=Lib.hid (bb HB2.out hq)
 have hltb:b < wq.heap.size:=Nat.lt_of_lt_of_le hlt HB3.out.size
 clear hf3 hq n1 HTY HF2 HB2
 have hin3:=HIN.out.below HB3.out
 have hcc:=hin3.at_.cell hi
 have hff:=hin3.at_.free (cellIx i)
 rw [← HCI.out] at hcc hff
 clear hin3
 go_wp2_with fail
 go_ret
 exact HIN.out.store hi HB3.out (.flag true) dv tv hu.symm (.inr rfl) (.inr rfl) (fun _ h => by cases h) (fun _ h => by cases h) HQ.out _ rfl HCI.out
theorem set18_2g (B:Nat) (wc:World) (b:Nat) (m:Mp) (dv tv rv:Value) (i:Nat) (t:Nat) (ty:Int) (n:Nat) (s:List UInt8) (fA:Option Addr) (fn fc:Nat) (w:World) (hi:i < 22) (hu:nmUse i=2) (hin:SetIn B wc w b m dv tv rv) (hty:ty=0) (hn:n≠0) (h64:In64 n) :
 Calls Tryz.prog 83 #[.pointer (some ⟨b,0,none⟩),.string (txt (nmAt i)),.agg #[.int .u64 (t:Int),.int .i64 ty,.int .u64 (n:Int),.string (txt s),.slice fA fn fc]] w (SetEnd B w b m i rv (setc 2 ty n s)):=by
 have hq:setc 2 ty n s=(.sgn (zback n),0):=by unfold setc;simp [hty,hn]
 have HQ:=Lib.hid hq
 have hnb:((n:Int) == 0)=false:=by rw [beq_eq_false_iff_ne];omega
 have HZB:=Lib.hid (fun x => back_any n x h64)
 have hyb:(ty == 0)=true:=by rw [beq_iff_eq];exact hty
 have hy1:(ty == 1)=false:=by rw [beq_eq_false_iff_ne];omega
 clear hq h64 hty hn
 have hp:∀ b,plc b i=.iface (ptrT 2) (.pointer (some ⟨b,cellIx i,none⟩)):=fun b => by rw [plc,hu]
 have HPL:=Lib.hid (fun x => place_any b x i hi)
 simp only [hp] at HPL
 have HUS:Hid (∀ x,Calls Tryz.prog 138 #[.iface (ptrT 2) (.pointer (some ⟨b,cellIx i,none⟩))] x fun e w' => e=.returned (.tuple #[.int .i64 2,.bool true])∧Below x.heap.size x w'):=fun x => use18_2 (.pointer (some ⟨b,cellIx i,none⟩)) x
 have HFM:=Lib.hid (BlkAt.made w 47 #[.int .u64 (t:Int),.int .i64 ty,.int .u64 (n:Int),.string (txt s),.slice fA fn fc])
 have HBF:=Lib.hid (ba (a:=w) b0 (.cells #[.int .u64 (t:Int),.int .i64 ty,.int .u64 (n:Int),.string (txt s),.slice fA fn fc] 47))
 have HIN:=Lib.hid hin
 obtain ⟨N,hN⟩:∃ N,N=txt (nmAt i):=⟨_,rfl⟩
 rw [← hN] at HPL ⊢
 have hlt:=hin.at_.lt
 obtain ⟨ci,hci⟩:∃ ci,ci=cellIx i:=⟨_,rfl⟩
 rw [← hci] at HPL HUS
 have HCI:=Lib.hid hci
 clear hp hN hin hci
 have y2:=as_yes 2
 have n0:=as_no20
 have n1:=as_no21
 simp only [ptrT] at *
 go_enter Tryz.func83,Tryz.ntmps83
 go_wp2_with fail
 generalize w.alloc (.cells #[.int .u64 (t:Int),.int .i64 ty,.int .u64 (n:Int),.string (txt s),.slice fA fn fc] 47)=wf at HFM HBF ⊢
 refine (HPL.out _).mono ?_
 rintro e w1 ⟨rfl,hb1⟩
 have HF1:=Lib.hid (HFM.out.below hb1 HFM.out.lt)
 have HB1:=Lib.hid (bb HBF.out hb1)
 clear hb1 HPL HFM HBF
 go_wp2_with fail
 refine (HUS.out _).mono ?_
 rintro e w2 ⟨rfl,hb2⟩
 have HF2:=Lib.hid (HF1.out.below hb2 HF1.out.lt)
 have HB2:=Lib.hid (bb HB1.out hb2)
 clear hb2 HUS HF1 HB1
 go_wp2_with fail
 have n1:∀ n':BelW w2,n'.wld.cell? ⟨w.heap.size,1,none⟩=some (.int .i64 ty):=fun n' => (HF2.out.below n'.bel HF2.out.lt).cell 1
 have HTY:Hid (∀ n':BelW w2,Calls Tryz.prog 139 #[.int .i64 2] n'.wld fun e w' => e=.returned (.int .i64 0)∧Below n'.wld.heap.size n'.wld w'):=fun n' => type17 2 n'.wld (by decide)
 refine wp_region_below_lit (by kernel_rfl) (by kernel_rfl) ?_
 repeat (first | go_big_quiet_skip | (go_big_quiet_want;go_big_quiet_op;first | go_big_quiet_on | (apply Exists.intro;refine ⟨fun nq => ?_,?_⟩;(go_at_call 139;exact below_of (HTY.out _));go_big_quiet_on)))
 refine wpQuiet_nil ?_
 intro wq hnq
 obtain ⟨nq,rfl⟩:=hnq
 have hq:=nq.bel
 generalize nq.wld=wq at hq ⊢
 clear nq
 have hf3:=HF2.out.below hq HF2.out.lt
 have f1:=hf3.cell 1
 have f2:=hf3.cell 2
 have f3:=hf3.cell 3
 have hlf:=hf3.lt
 simp at f1 f2 f3
 have HB3:=Lib.hid (bb HB2.out hq)
 have hltb:b < wq.heap.size:=Nat.lt_of_lt_of_le hlt HB3.out.size
 clear hf3 hq n1 HTY HF2 HB2
 go_wp2_with fail
 refine (HZB.out _).mono ?_
 rintro e w4 ⟨rfl,hb4⟩
 have HB4:=Lib.hid (bb HB3.out hb4)
 clear hb4 HZB
 have hin3:=HIN.out.below HB4.out
 have hcc:=hin3.at_.cell hi
 have hff:=hin3.at_.free (cellIx i)
 rw [← HCI.out] at hcc hff
 clear hin3
 have hlt4:b < w4.heap.size:=Nat.lt_of_lt_of_le hlt HB4.out.size
 generalize zback n=Z at *
 go_wp2_with fail
 go_ret
 exact HIN.out.store hi HB4.out (.sgn Z) dv tv hu.symm (.inr rfl) (.inr rfl) (fun _ h => by cases h) (fun _ h => by cases h) HQ.out _ rfl HCI.out
theorem set18_3g (B:Nat) (wc:World) (b:Nat) (m:Mp) (dv tv rv:Value) (i:Nat) (t:Nat) (ty:Int) (n:Nat) (s:List UInt8) (fA:Option Addr) (fn fc:Nat) (w:World) (hi:i < 22) (hu:nmUse i=3) (hin:SetIn B wc w b m dv tv rv) (hty:ty=1) (hs:s≠[]) (hsl:s.length≤9223372036854775807) (hT:Tabs w) :
 Calls Tryz.prog 83 #[.pointer (some ⟨b,0,none⟩),.string (txt (nmAt i)),.agg #[.int .u64 (t:Int),.int .i64 ty,.int .u64 (n:Int),.string (txt s),.slice fA fn fc]] w (SetEnd B w b m i rv (setc 3 ty n s)):=by
 have hq:setc 3 ty n s=if uchk s 0 256≠0 then (.num 0,uchk s 0 256) else (.word s,0):=by unfold setc;simp [hty,hs]
 have HQ:=Lib.hid hq
 have HT:=Lib.hid hT
 have hsb:(txt s).toList.isEmpty=false:=by rw [eq0_str];simpa using hs
 have HU:Hid (∀ x,Below w.heap.size w x→Calls Tryz.prog 141 #[.string (txt s),.int .i64 0,.int .i64 256] x fun e w' => e=.returned (.int .i64 (uchk s 0 256))∧Below x.heap.size x w'):=fun x hx => by
  have:=ucheck_any (txt s) 0 256 x (by simpa [txt,ByteArray.size] using hsl) (HT.out.below hx)
  simpa [txt] using this
 have hyb:(ty == 1)=true:=by rw [beq_iff_eq];exact hty
 have hy0:(ty == 0)=false:=by rw [beq_eq_false_iff_ne];omega
 clear hq hT hsl hty hs
 have hp:∀ b,plc b i=.iface (ptrT 3) (.pointer (some ⟨b,cellIx i,none⟩)):=fun b => by rw [plc,hu]
 have HPL:=Lib.hid (fun x => place_any b x i hi)
 simp only [hp] at HPL
 have HUS:Hid (∀ x,Calls Tryz.prog 138 #[.iface (ptrT 3) (.pointer (some ⟨b,cellIx i,none⟩))] x fun e w' => e=.returned (.tuple #[.int .i64 3,.bool true])∧Below x.heap.size x w'):=fun x => use18_3 (.pointer (some ⟨b,cellIx i,none⟩)) x
 have HFM:=Lib.hid (BlkAt.made w 47 #[.int .u64 (t:Int),.int .i64 ty,.int .u64 (n:Int),.string (txt s),.slice fA fn fc])
 have HBF:=Lib.hid (ba (a:=w) b0 (.cells #[.int .u64 (t:Int),.int .i64 ty,.int .u64 (n:Int),.string (txt s),.slice fA fn fc] 47))
 have HIN:=Lib.hid hin
 obtain ⟨N,hN⟩:∃ N,N=txt (nmAt i):=⟨_,rfl⟩
 rw [← hN] at HPL ⊢
 have hlt:=hin.at_.lt
 obtain ⟨ci,hci⟩:∃ ci,ci=cellIx i:=⟨_,rfl⟩
 rw [← hci] at HPL HUS
 have HCI:=Lib.hid hci
 clear hp hN hin hci
 have y3:=as_yes 3
 have n0:=as_no30
 have n1:=as_no31
 have n2:=as_no32
 simp only [ptrT] at *
 go_enter Tryz.func83,Tryz.ntmps83
 go_wp2_with fail
 generalize w.alloc (.cells #[.int .u64 (t:Int),.int .i64 ty,.int .u64 (n:Int),.string (txt s),.slice fA fn fc] 47)=wf at HFM HBF ⊢
 refine (HPL.out _).mono ?_
 rintro e w1 ⟨rfl,hb1⟩
 have HF1:=Lib.hid (HFM.out.below hb1 HFM.out.lt)
 have HB1:=Lib.hid (bb HBF.out hb1)
 clear hb1 HPL HFM HBF
 go_wp2_with fail
 refine (HUS.out _).mono ?_
 rintro e w2 ⟨rfl,hb2⟩
 have HF2:=Lib.hid (HF1.out.below hb2 HF1.out.lt)
 have HB2:=Lib.hid (bb HB1.out hb2)
 clear hb2 HUS HF1 HB1
 go_wp2_with fail
 have n1:∀ n':BelW w2,n'.wld.cell? ⟨w.heap.size,1,none⟩=some (.int .i64 ty):=fun n' => (HF2.out.below n'.bel HF2.out.lt).cell 1
 have HTY:Hid (∀ n':BelW w2,Calls Tryz.prog 139 #[.int .i64 3] n'.wld fun e w' => e=.returned (.int .i64 1)∧Below n'.wld.heap.size n'.wld w'):=fun n' => type17 3 n'.wld (by decide)
 refine wp_region_below_lit (by kernel_rfl) (by kernel_rfl) ?_
 repeat (first | go_big_quiet_skip | (go_big_quiet_want;go_big_quiet_op;first | go_big_quiet_on | (apply Exists.intro;refine ⟨fun nq => ?_,?_⟩;(go_at_call 139;exact below_of (HTY.out _));go_big_quiet_on)))
 refine wpQuiet_nil ?_
 intro wq hnq
 obtain ⟨nq,rfl⟩:=hnq
 have hq:=nq.bel
 generalize nq.wld=wq at hq ⊢
 clear nq
 have hf3:=HF2.out.below hq HF2.out.lt
 have f1:=hf3.cell 1
 have f2:=hf3.cell 2
 have f3:=hf3.cell 3
 have hlf:=hf3.lt
 simp at f1 f2 f3
 have HB3:=Lib.hid (bb HB2.out hq)
 have hltb:b < wq.heap.size:=Nat.lt_of_lt_of_le hlt HB3.out.size
 clear hf3 hq n1 HTY HF2 HB2
 generalize uchk s 0 256=K at *
 go_wp2_with fail
 refine (HU.out _ HB3.out).mono ?_
 rintro e w4 ⟨rfl,hb4⟩
 have hf4:w4.cell? ⟨w.heap.size,3,none⟩=some (.string (txt s)):=(hb4.cell (p:=⟨w.heap.size,3,none⟩) hlf).trans f3
 have hlf4:w.heap.size < w4.heap.size:=Nat.lt_of_lt_of_le hlf hb4.size
 have HB4:=Lib.hid (bb HB3.out hb4)
 clear hb4 HU f1 f2 f3 hlf
 have hin3:=HIN.out.below HB4.out
 have hcc:=hin3.at_.cell hi
 have hff:=hin3.at_.free (cellIx i)
 rw [← HCI.out] at hcc hff
 clear hin3
 have hlt4:b < w4.heap.size:=Nat.lt_of_lt_of_le hlt HB4.out.size
 go_wp2_with fail
 go_ret
 have hq:=HQ.out
 by_cases hK:K=0
 · subst hK
   rw [if_neg (by simp)] at hq
   exact HIN.out.store hi HB4.out (.word s) dv tv hu.symm (.inr rfl) (.inr rfl) (fun _ h => by cases h) (fun _ h => by cases h) hq _ rfl HCI.out
 · rw [if_pos hK] at hq
   exact SetIn.bad (((show Tch (fun j => j=b) w w4 from Tch.below HB4.out)).put (p:=⟨b,ci,none⟩) (fun _ => rfl) _) (by rw [hq]) hK
theorem set18_4g (B:Nat) (wc:World) (b:Nat) (m:Mp) (dv tv rv:Value) (i:Nat) (t:Nat) (ty:Int) (n:Nat) (s:List UInt8) (fA:Option Addr) (fn fc:Nat) (w:World) (hi:i < 22) (hu:nmUse i=4) (hin:SetIn B wc w b m dv tv rv) (hty:ty=1) (hs:s≠[]) (hsl:s.length≤9223372036854775807) (hT:Tabs w) :
 Calls Tryz.prog 83 #[.pointer (some ⟨b,0,none⟩),.string (txt (nmAt i)),.agg #[.int .u64 (t:Int),.int .i64 ty,.int .u64 (n:Int),.string (txt s),.slice fA fn fc]] w (SetEnd B w b m i rv (setc 4 ty n s)):=by
 have hq:setc 4 ty n s=if (dparse echk s).2≠0 then (.num 0,(dparse echk s).2) else (.of (dparse echk s).1,0):=by unfold setc;simp [hty,hs]
 have HQ:=Lib.hid hq
 have HT:=Lib.hid hT
 have hsb:(txt s).toList.isEmpty=false:=by rw [eq0_str];simpa using hs
 have HU:Hid (∀ x,Below w.heap.size w x→Calls Tryz.prog 142 #[.string (txt s)] x fun e w' => ∃ v,e=.returned (.tuple #[v,.int .i64 (dparse echk s).2])∧SlN x.heap.size w' v (dparse echk s).1∧Below x.heap.size x w'):=fun x hx => by
  exact dparse_any (txt s) x (HT.out.below hx) (by simpa [txt,ByteArray.size] using hsl)
 have hyb:(ty == 1)=true:=by rw [beq_iff_eq];exact hty
 have hy0:(ty == 0)=false:=by rw [beq_eq_false_iff_ne];omega
 clear hq hT hsl hty hs
 have hp:∀ b,plc b i=.iface (ptrT 4) (.pointer (some ⟨b,cellIx i,none⟩)):=fun b => by rw [plc,hu]
 have HPL:=Lib.hid (fun x => place_any b x i hi)
 simp only [hp] at HPL
 have HUS:Hid (∀ x,Calls Tryz.prog 138 #[.iface (ptrT 4) (.pointer (some ⟨b,cellIx i,none⟩))] x fun e w' => e=.returned (.tuple #[.int .i64 4,.bool true])∧Below x.heap.size x w'):=fun x => use18_4 (.pointer (some ⟨b,cellIx i,none⟩)) x
 have HFM:=Lib.hid (BlkAt.made w 47 #[.int .u64 (t:Int),.int .i64 ty,.int .u64 (n:Int),.string (txt s),.slice fA fn fc])
 have HBF:=Lib.hid (ba (a:=w) b0 (.cells #[.int .u64 (t:Int),.int .i64 ty,.int .u64 (n:Int),.string (txt s),.slice fA fn fc] 47))
 have HIN:=Lib.hid hin
 obtain ⟨N,hN⟩:∃ N,N=txt (nmAt i):=⟨_,rfl⟩
 rw [← hN] at HPL ⊢
 have hlt:=hin.at_.lt
 obtain ⟨ci,hci⟩:∃ ci,ci=cellIx i:=⟨_,rfl⟩
 rw [← hci] at HPL HUS
 have HCI:=Lib.hid hci
 clear hp hN hin hci
 have y4:=as_yes 4
 have n0:=as_no40
 have n1:=as_no41
 have n2:=as_no42
 have n3:=as_no43
 simp only [ptrT] at *
 go_enter Tryz.func83,Tryz.ntmps83
 go_wp2_with fail
 generalize w.alloc (.cells #[.int .u64 (t:Int),.int .i64 ty,.int .u64 (n:Int),.string (txt s),.slice fA fn fc] 47)=wf at HFM HBF ⊢
 refine (HPL.out _).mono ?_
 rintro e w1 ⟨rfl,hb1⟩
 have HF1:=Lib.hid (HFM.out.below hb1 HFM.out.lt)
 have HB1:=Lib.hid (bb HBF.out hb1)
 clear hb1 HPL HFM HBF
 go_wp2_with fail
 refine (HUS.out _).mono ?_
 rintro e w2 ⟨rfl,hb2⟩
 have HF2:=Lib.hid (HF1.out.below hb2 HF1.out.lt)
 have HB2:=Lib.hid (bb HB1.out hb2)
 clear hb2 HUS HF1 HB1
 go_wp2_with fail
 have n1:∀ n':BelW w2,n'.wld.cell? ⟨w.heap.size,1,none⟩=some (.int .i64 ty):=fun n' => (HF2.out.below n'.bel HF2.out.lt).cell 1
 have HTY:Hid (∀ n':BelW w2,Calls Tryz.prog 139 #[.int .i64 4] n'.wld fun e w' => e=.returned (.int .i64 1)∧Below n'.wld.heap.size n'.wld w'):=fun n' => type17 4 n'.wld (by decide)
 refine wp_region_below_lit (by kernel_rfl) (by kernel_rfl) ?_
 repeat (first | go_big_quiet_skip | (go_big_quiet_want;go_big_quiet_op;first | go_big_quiet_on | (apply Exists.intro;refine ⟨fun nq => ?_,?_⟩;(go_at_call 139;exact below_of (HTY.out _));go_big_quiet_on)))
 refine wpQuiet_nil ?_
 intro wq hnq
 obtain ⟨nq,rfl⟩:=hnq
 have hq:=nq.bel
 generalize nq.wld=wq at hq ⊢
 clear nq
 have hf3:=HF2.out.below hq HF2.out.lt
 have f1:=hf3.cell 1
 have f2:=hf3.cell 2
 have f3:=hf3.cell 3
 have hlf:=hf3.lt
 simp at f1 f2 f3
 have HB3:=Lib.hid (bb HB2.out hq)
 have hltb:b < wq.heap.size:=Nat.lt_of_lt_of_le hlt HB3.out.size
 clear hf3 hq n1 HTY HF2 HB2
 generalize (dparse echk s).2=K at *
 generalize (dparse echk s).1=D at *
 go_wp2_with fail
 refine (HU.out _ HB3.out).mono ?_
 rintro e w4 ⟨v4,rfl,⟨A4,c4,rfl,hrd4,hc4,hfr4⟩,hb4⟩
 have HSN:Hid (SlN wq.heap.size w4 (.slice A4 D.length c4) D):=⟨A4,c4,rfl,hrd4,hc4,hfr4⟩
 have HB4:=Lib.hid (bb HB3.out hb4)
 clear hb4 HU f1 f2 f3 hlf hrd4 hc4 hfr4
 have hin3:=HIN.out.below HB4.out
 have hcc:=hin3.at_.cell hi
 have hff:=hin3.at_.free (cellIx i)
 rw [← HCI.out] at hcc hff
 clear hin3
 have hlt4:b < w4.heap.size:=Nat.lt_of_lt_of_le hlt HB4.out.size
 generalize hDL:D.length=DL at *
 go_wp2_with fail
 go_ret
 have hq:=HQ.out
 by_cases hK:K=0
 · subst hK
   rw [if_neg (by simp)] at hq
   refine HIN.out.store hi HB4.out (.of D) (.slice A4 DL c4) tv hu.symm (.inl hu) (.inr rfl) (fun d h => ?_) (fun _ h => by cases h) hq _ rfl HCI.out
   injection h with h
   subst h
   obtain ⟨A',c',g1,g2,g3,g4⟩:=HSN.out
   exact ⟨A',c',g1,g2,g3,fun b off e => Nat.le_trans HB3.out.size (g4 b off e)⟩
 · rw [if_pos hK] at hq
   exact SetIn.bad (((show Tch (fun j => j=b) w w4 from Tch.below HB4.out)).put (p:=⟨b,ci,none⟩) (fun _ => rfl) _) (by rw [hq]) hK
theorem set18_5g (B:Nat) (wc:World) (b:Nat) (m:Mp) (dv tv rv:Value) (i:Nat) (t:Nat) (ty:Int) (n:Nat) (s:List UInt8) (fA:Option Addr) (fn fc:Nat) (w:World) (hi:i < 22) (hu:nmUse i=5) (hin:SetIn B wc w b m dv tv rv) (hty:ty=1) (hs:s≠[]) (hsl:s.length≤1000000) (hT:Tabs w) :
 Calls Tryz.prog 83 #[.pointer (some ⟨b,0,none⟩),.string (txt (nmAt i)),.agg #[.int .u64 (t:Int),.int .i64 ty,.int .u64 (n:Int),.string (txt s),.slice fA fn fc]] w (SetEnd B w b m i rv (setc 5 ty n s)):=by
 have hq:setc 5 ty n s=if (pkget echk s).2≠0 then (.num 0,(pkget echk s).2) else if (pkget echk s).1=[] then (.num 0,17) else (.rows (pkget echk s).1,0):=by unfold setc;simp [hty,hs]
 have HQ:=Lib.hid hq
 have HT:=Lib.hid hT
 have hsb:(txt s).toList.isEmpty=false:=by rw [eq0_str];simpa using hs
 have HU:Hid (∀ x,Below w.heap.size w x→Calls Tryz.prog 143 #[.string (txt s)] x fun e w' => ∃ v,e=.returned (.tuple #[v,.int .i64 (pkget echk s).2])∧TbN x.heap.size w' v (pkget echk s).1∧Below x.heap.size x w'):=fun x hx => by
  exact pget_any (txt s) x (HT.out.below hx) (by simpa [txt,ByteArray.size] using hsl)
 have hyb:(ty == 1)=true:=by rw [beq_iff_eq];exact hty
 have hy0:(ty == 0)=false:=by rw [beq_eq_false_iff_ne];omega
 clear hq hT hsl hty hs
 have hp:∀ b,plc b i=.iface (ptrT 5) (.pointer (some ⟨b,cellIx i,none⟩)):=fun b => by rw [plc,hu]
 have HPL:=Lib.hid (fun x => place_any b x i hi)
 simp only [hp] at HPL
 have HUS:Hid (∀ x,Calls Tryz.prog 138 #[.iface (ptrT 5) (.pointer (some ⟨b,cellIx i,none⟩))] x fun e w' => e=.returned (.tuple #[.int .i64 5,.bool true])∧Below x.heap.size x w'):=fun x => use18_5 (.pointer (some ⟨b,cellIx i,none⟩)) x
 have HFM:=Lib.hid (BlkAt.made w 47 #[.int .u64 (t:Int),.int .i64 ty,.int .u64 (n:Int),.string (txt s),.slice fA fn fc])
 have HBF:=Lib.hid (ba (a:=w) b0 (.cells #[.int .u64 (t:Int),.int .i64 ty,.int .u64 (n:Int),.string (txt s),.slice fA fn fc] 47))
 have HIN:=Lib.hid hin
 obtain ⟨N,hN⟩:∃ N,N=txt (nmAt i):=⟨_,rfl⟩
 rw [← hN] at HPL ⊢
 have hlt:=hin.at_.lt
 obtain ⟨ci,hci⟩:∃ ci,ci=cellIx i:=⟨_,rfl⟩
 rw [← hci] at HPL HUS
 have HCI:=Lib.hid hci
 clear hp hN hin hci
 have y5:=as_yes 5
 have n0:=as_no50
 have n1:=as_no51
 have n2:=as_no52
 have n3:=as_no53
 have n4:=as_no54
 simp only [ptrT] at *
 go_enter Tryz.func83,Tryz.ntmps83
 go_wp2_with fail
 generalize w.alloc (.cells #[.int .u64 (t:Int),.int .i64 ty,.int .u64 (n:Int),.string (txt s),.slice fA fn fc] 47)=wf at HFM HBF ⊢
 refine (HPL.out _).mono ?_
 rintro e w1 ⟨rfl,hb1⟩
 have HF1:=Lib.hid (HFM.out.below hb1 HFM.out.lt)
 have HB1:=Lib.hid (bb HBF.out hb1)
 clear hb1 HPL HFM HBF
 go_wp2_with fail
 refine (HUS.out _).mono ?_
 rintro e w2 ⟨rfl,hb2⟩
 have HF2:=Lib.hid (HF1.out.below hb2 HF1.out.lt)
 have HB2:=Lib.hid (bb HB1.out hb2)
 clear hb2 HUS HF1 HB1
 go_wp2_with fail
 have n1:∀ n':BelW w2,n'.wld.cell? ⟨w.heap.size,1,none⟩=some (.int .i64 ty):=fun n' => (HF2.out.below n'.bel HF2.out.lt).cell 1
 have HTY:Hid (∀ n':BelW w2,Calls Tryz.prog 139 #[.int .i64 5] n'.wld fun e w' => e=.returned (.int .i64 1)∧Below n'.wld.heap.size n'.wld w'):=fun n' => type17 5 n'.wld (by decide)
 refine wp_region_below_lit (by kernel_rfl) (by kernel_rfl) ?_
 repeat (first | go_big_quiet_skip | (go_big_quiet_want;go_big_quiet_op;first | go_big_quiet_on | (apply Exists.intro;refine ⟨fun nq => ?_,?_⟩;(go_at_call 139;exact below_of (HTY.out _));go_big_quiet_on)))
 refine wpQuiet_nil ?_
 intro wq hnq
 obtain ⟨nq,rfl⟩:=hnq
 have hq:=nq.bel
 generalize nq.wld=wq at hq ⊢
 clear nq
 have hf3:=HF2.out.below hq HF2.out.lt
 have f1:=hf3.cell 1
 have f2:=hf3.cell 2
 have f3:=hf3.cell 3
 have hlf:=hf3.lt
 simp at f1 f2 f3
 have HB3:=Lib.hid (bb HB2.out hq)
 have hltb:b < wq.heap.size:=Nat.lt_of_lt_of_le hlt HB3.out.size
 clear hf3 hq n1 HTY HF2 HB2
 generalize (pkget echk s).2=K at *
 generalize (pkget echk s).1=D at *
 go_wp2_with fail
 refine (HU.out _ HB3.out).mono ?_
 rintro e w4 ⟨v4,rfl,htn4,hb4⟩
 have HSN:=Lib.hid htn4
 obtain ⟨l4,A4,c4,rfl,hD4,_,_,_,_⟩:=htn4
 have hDl:l4.length=D.length:=by rw [hD4,List.length_map]
 have HB4:=Lib.hid (bb HB3.out hb4)
 clear hb4 HU f1 f2 f3 hlf hD4
 have hin3:=HIN.out.below HB4.out
 have hcc:=hin3.at_.cell hi
 have hff:=hin3.at_.free (cellIx i)
 rw [← HCI.out] at hcc hff
 clear hin3
 have hlt4:b < w4.heap.size:=Nat.lt_of_lt_of_le hlt HB4.out.size
 have hD0:D=[]↔l4.length=0:=by rw [hDl];exact List.length_eq_zero_iff.symm
 have HD0:=Lib.hid hD0
 clear hDl hD0
 generalize l4.length=DL at *
 by_cases hK:K=0
 · subst hK
   by_cases h0:DL=0
   · subst h0
     go_wp2_with fail
     go_ret
     have hq:=HQ.out
     rw [if_neg (by simp),if_pos (HD0.out.2 (by simp))] at hq
     exact SetIn.bad (((show Tch (fun j => j=b) w w4 from Tch.below HB4.out)).put (p:=⟨b,ci,none⟩) (fun _ => rfl) _) (by rw [hq]) (by decide)
   · have h0b:((DL:Int) == 0)=false:=by rw [beq_eq_false_iff_ne];omega
     go_wp2_with fail
     go_ret
     have hq:=HQ.out
     rw [if_neg (by simp),if_neg (fun h => h0 (HD0.out.1 h))] at hq
     refine HIN.out.store hi HB4.out (.rows D) dv (.slice A4 DL c4) hu.symm (.inr rfl) (.inl hu) (fun _ h => by cases h) (fun d h => ?_) hq _ rfl HCI.out
     injection h with h
     subst h
     exact HSN.out.mono HB3.out.size
 · have hKb:(K == 0)=false:=by rw [beq_eq_false_iff_ne];exact hK
   go_wp2_with fail
   go_ret
   have hq:=HQ.out
   rw [if_pos hK] at hq
   exact SetIn.bad (((show Tch (fun j => j=b) w w4 from Tch.below HB4.out)).put (p:=⟨b,ci,none⟩) (fun _ => rfl) _) (by rw [hq]) hK
theorem set_any (B:Nat) (wc:World) (b:Nat) (m:Mp) (dv tv rv:Value) (i:Nat) (t:Nat) (ty:Int) (n:Nat) (s:List UInt8) (fA:Option Addr) (fn fc:Nat) (w:World) (hi:i < 22) (hin:SetIn B wc w b m dv tv rv) (h64:In64 n) (hsl:s.length≤1000000) (hT:Tabs w) :
 Calls Tryz.prog 83 #[.pointer (some ⟨b,0,none⟩),.string (txt (nmAt i)),.agg #[.int .u64 (t:Int),.int .i64 ty,.int .u64 (n:Int),.string (txt s),.slice fA fn fc]] w (SetEnd B w b m i rv (setc (nmUse i) ty n s)):=by
 have h5:nmUse i=0∨nmUse i=1∨nmUse i=2∨nmUse i=3∨nmUse i=4∨nmUse i=5:=by
  revert i
  intro i hi
  revert i
  refine cases22 ?_ ?_ ?_ ?_ ?_ ?_ ?_ ?_ ?_ ?_ ?_ ?_ ?_ ?_ ?_ ?_ ?_ ?_ ?_ ?_ ?_ ?_ <;> simp [nmUse]
 rcases h5 with hu | hu | hu | hu | hu | hu <;> rw [hu]
 · by_cases hty:ty=0
   · by_cases hn:n=0
     · exact set18_0z B wc b m dv tv rv i t ty n s fA fn fc w hi hu hin hty hn
     · exact set18_0g B wc b m dv tv rv i t ty n s fA fn fc w hi hu hin hty hn
   · exact set18_0a B wc b m dv tv rv i t ty n s fA fn fc w hi hu hin hty
 · by_cases hty:ty=0
   · by_cases hn:n=0
     · exact set18_1z B wc b m dv tv rv i t ty n s fA fn fc w hi hu hin hty hn
     · by_cases hn1:n=1
       · exact set18_1g B wc b m dv tv rv i t ty n s fA fn fc w hi hu hin hty hn1
       · exact set18_1b B wc b m dv tv rv i t ty n s fA fn fc w hi hu hin hty hn hn1
   · exact set18_1a B wc b m dv tv rv i t ty n s fA fn fc w hi hu hin hty
 · by_cases hty:ty=0
   · by_cases hn:n=0
     · exact set18_2z B wc b m dv tv rv i t ty n s fA fn fc w hi hu hin hty hn
     · exact set18_2g B wc b m dv tv rv i t ty n s fA fn fc w hi hu hin hty hn h64
   · exact set18_2a B wc b m dv tv rv i t ty n s fA fn fc w hi hu hin hty
 · by_cases hty:ty=1
   · by_cases hs:s=[]
     · exact set18_3z B wc b m dv tv rv i t ty n s fA fn fc w hi hu hin hty hs
     · exact set18_3g B wc b m dv tv rv i t ty n s fA fn fc w hi hu hin hty hs (by omega) hT
   · exact set18_3a B wc b m dv tv rv i t ty n s fA fn fc w hi hu hin hty
 · by_cases hty:ty=1
   · by_cases hs:s=[]
     · exact set18_4z B wc b m dv tv rv i t ty n s fA fn fc w hi hu hin hty hs
     · exact set18_4g B wc b m dv tv rv i t ty n s fA fn fc w hi hu hin hty hs (by omega) hT
   · exact set18_4a B wc b m dv tv rv i t ty n s fA fn fc w hi hu hin hty
 · by_cases hty:ty=1
   · by_cases hs:s=[]
     · exact set18_5z B wc b m dv tv rv i t ty n s fA fn fc w hi hu hin hty hs
     · exact set18_5g B wc b m dv tv rv i t ty n s fA fn fc w hi hu hin hty hs hsl hT
   · exact set18_5a B wc b m dv tv rv i t ty n s fA fn fc w hi hu hin hty
end Go.Proofs.YtgidfnhfgiehjaaGreatDoor
end
