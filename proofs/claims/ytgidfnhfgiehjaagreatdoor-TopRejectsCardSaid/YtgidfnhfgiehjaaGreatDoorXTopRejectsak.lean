/-
  Texts of the proof, joined: Wire3 RefWire WireLaw Pick3 MapB Pick4 PickP2 Read. Conditions: as each names.
-/
import Derived.Test.YtgidfnhfgiehjaaGreatDoorXTopRejectsaj
import Derived.OwnWalk
import Derived.Test.YtgidfnhfgiehjaaGreatDoorXTopRejectsah
import Derived.Test.YtgidfnhfgiehjaaGreatDoorXTopRejectsag
import Derived.Maps.OwnSet

section
namespace Go.Proofs.YtgidfnhfgiehjaaGreatDoor
open Go.RowKit Go.PM
set_option maxRecDepth 100000
set_option maxHeartbeats 1500000
attribute [local go_sem ↓] Go.wp_at_zero Go.wp_at_succ
def fput (f:Fs):List UInt8 × Nat:=if fcheck f 0 0≠0 then ([],fcheck f 0 0) else if 65536 < (ftx f).length then ([],4) else (ftx f,0)
def fszB (f:Fs):Nat:=if fcheck f 0 0≠0 then 0 else (ftx f).length
theorem wput_of (v:Value) (f:Fs) (I:Nat→Prop) (w:World) (hr:SlV w I v f) (hk:f.All FKd) (h60:f.count≤1000000) (hL:(ftx f).length≤1000000000000) :
 Calls Tryz.prog 14 #[v] w fun e w' => e=.returned (.tuple #[.string (txt (fput f).1),.int .i64 ((fput f).2:Int)])∧Below w.heap.size w w':=by
 have hb1:Below w.heap.size w w:=b0
 have HC:=Lib.hid (check_of v f I w hr hk h60)
 have hiff:=fcheck_iff f 0 0 hk (by omega)
 obtain ⟨A,c,rfl,_⟩:=id hr
 have HS:Hid (fcheck f 0 0=0→∀ x:World,Below w.heap.size w x→Calls Tryz.prog 47 #[.slice A f.len c] x fun e w' => e=.returned (.int .i64 ((ftx f).length:Int))∧Below x.heap.size x w'):=fun h x hx => wsize_any f.count A c f I 0 0 x (Nat.le_refl _) (hr.below hx) (hiff.1 h) h60 hL
 have HW:Hid (fcheck f 0 0=0→(ftx f).length≤65536→∀ (x:World) (v0:Value),Below w.heap.size w x→Buf x 5 v0 []→(∀ g,foot v0=some g→w.heap.size≤g)→Calls Tryz.prog 48 #[v0,.slice A f.len c] x (WriteEnd x v0 (ftx f))):=fun h hl x v0 hx hb hf => by
  have:=write_any f.count v0 [] A c f (fun k => I k∧k < w.heap.size) 0 0 x (Nat.le_refl _) hb (hr.lt.below hx) (fun g hg e => by have:=hf g e;omega) (hiff.1 h) h60 (by simp;omega)
  rwa [List.nil_append] at this
 unfold fput
 clear hiff hr hk
 generalize fcheck f 0 0=E at *
 by_cases hE:E=0
 · subst hE
   rw [if_neg (by simp)]
   have HS2:=Lib.hid (HS.out rfl)
   have HW2:=Lib.hid (HW.out rfl)
   generalize hF:ftx f=F at *
   clear hF
   by_cases hbig:65536 < F.length
   · rw [if_pos hbig]
     generalize F.length=LI at *
     go_enter Tryz.func14,Tryz.ntmps14
     go_wp2_with fail
     refine (HC.out).mono ?_
     rintro e w1 ⟨rfl,hb2⟩
     replace hb1:=bb hb1 hb2
     clear hb2
     go_wp2_with fail
     refine (HS2.out _ hb1).mono ?_
     rintro e w2 ⟨rfl,hb2⟩
     replace hb1:=bb hb1 hb2
     clear hb2
     go_wp2
     go_ret2
     exact ⟨rfl,hb1⟩
   · rw [if_neg hbig]
     have HW3:=Lib.hid (HW2.out (by omega))
     generalize hLI:F.length=LI at *
     clear hLI
     obtain ⟨i0,hi0,hz0,hz1,hz2⟩:=info_parts info_u8
     have hdd:decide ((65536:Int) < (LI:Int))=false:=by simp;omega
     have hby:i0.bytes * LI≤281474976710656:=by rw [hz2];omega
     have hm:LI≤maxLen:=by unfold maxLen;omega
     have HBY:=Lib.hid hby
     have HMM:=Lib.hid hm
     have hl:LI≤65536:=by omega
     clear hby hm hbig
     go_enter Tryz.func14,Tryz.ntmps14
     go_wp2_with fail
     refine (HC.out).mono ?_
     rintro e w1 ⟨rfl,hb2⟩
     replace hb1:=bb hb1 hb2
     clear hb2
     go_wp2_with fail
     refine (HS2.out _ hb1).mono ?_
     rintro e w2 ⟨rfl,hb2⟩
     replace hb1:=bb hb1 hb2
     clear hb2
     go_wp2_with (refine wpList_make_own _ rfl _ _ _ rfl w2.heap.size 5 i0 (.int .u8 0) 1 Tryz.underlying42 hi0 hz0 hz1 .i64 .i64 _ LI rfl rfl rfl HBY.out HMM.out (Nat.le_refl _) ?_;intro w3 hown hgr;have hbuf:=Buf.ofOwn (l:=[]) (n:=0) hown;have HBF:=Lib.hid hbuf;have hb3:=below_of_grown hgr;have HB3:=Lib.hid (bb hb1 hb3);clear hown hgr hbuf hb3)
     refine (HW3.out _ _ HB3.out HBF.out.1 (fun g hg => Nat.le_trans hb1.size (HBF.out.2 g hg))).mono ?_
     rintro e w4 ⟨v4,rfl,hbs⟩
     have hb4:Below w.heap.size w w4:=HB3.out.trans (hbs.2.1.toBelowB HB3.out.size fun g hg e => by have:=HBF.out.2 g e;have:=hb1.size;omega)
     have hcv:=hbs.1.back (P:=Tryz.prog) 42 9 Tryz.underlying42 Tryz.underlying5 Tryz.underlying9
     clear hbs
     go_wp2
     go_ret2
     exact ⟨rfl,hb4⟩
 · rw [if_pos hE]
   have hei:((E:Int) != 0)=true:=by rw [bne_iff_ne];omega
   go_enter Tryz.func14,Tryz.ntmps14
   go_wp2_with fail
   refine (HC.out).mono ?_
   rintro e w1 ⟨rfl,hb2⟩
   replace hb1:=bb hb1 hb2
   clear hb2
   go_wp2
   go_ret2
   exact ⟨rfl,hb1⟩
end Go.Proofs.YtgidfnhfgiehjaaGreatDoor
end

section
namespace Go.Proofs.YtgidfnhfgiehjaaGreatDoor
open Go.RowKit Go.PM
set_option maxRecDepth 100000
set_option maxHeartbeats 1500000
attribute [local go_sem ↓] Go.wp_at_zero Go.wp_at_succ
end Go.Proofs.YtgidfnhfgiehjaaGreatDoor
end

section
namespace Go.Proofs.YtgidfnhfgiehjaaGreatDoor
open Go.RowKit Go.PM
set_option maxRecDepth 100000
set_option maxHeartbeats 1500000
theorem oftext_any (t:Nat) (s:ByteArray) (w:World) :
 Calls Tryz.prog 89 #[.int .u64 (t:Int),.string s] w fun e w' => e=.returned (.agg #[.int .u64 (t:Int),.int .i64 1,.int .u64 0,.string s,.slice none 0 0])∧Below w.heap.size w w':=by
 go_enter Tryz.func89,Tryz.ntmps89
 go_wp2
 exact bodyPost_ret (v:=.agg #[.int .u64 (t:Int),.int .i64 1,.int .u64 0,.string s,.slice none 0 0]) (by simp [results,Tryz.results89,go_sem];try rfl) rfl ⟨rfl,ba b0 _⟩
def exam9:Fs:=fnum 1 300 (.cons 2 1 0 ⟨#[97,98]⟩ .nil .nil)
theorem exam9_tx:ftx exam9=[4,172,2,9,2,97,98]:=by
 have e1:vput (4 * 1+Int.toNat 0)=[4]:=vput_small (by decide)
 have e2:vput 300=[172,2]:=by rw [vput_big (by decide),vput_small (by decide)];rfl
 have e3:vput (4 * 2+Int.toNat 1)=[9]:=vput_small (by decide)
 have e4:vput (ByteArray.mk #[97,98]).size=[2]:=vput_small (by decide)
 show vput (4 * 1+Int.toNat 0)++(vput 300++(vput (4 * 2+Int.toNat 1)++((vput (ByteArray.mk #[97,98]).size++[97,98])++[])))=_
 rw [e1,e2,e3,e4]
 rfl
theorem exam9_put:txt (fput exam9).1=⟨#[4,172,2,9,2,97,98]⟩∧(fput exam9).2=0:=by
 have h1:fcheck exam9 0 0=0:=by decide
 unfold fput
 rw [h1,if_neg (by simp),exam9_tx,if_neg (by decide)]
 exact ⟨rfl,rfl⟩
theorem awake09 (w:World) (hT:Tabs w) :
 Calls Tryz.prog 314 #[] w fun e w' => e=.returned (.bool true)∧Below w.heap.size w w':=by
 have hb1:Below w.heap.size w w:=b0
 have HA:Hid (∀ x:World,Below w.heap.size w x→Calls Tryz.prog 315 #[] x fun e w' => e=.returned (.bool true)∧Below x.heap.size x w'):=fun x hx => awakeE08 x (hT.below hx)
 have H1:Hid (∀ W:World,Calls Tryz.prog 14 #[.slice (some ⟨W.heap.size,0,none⟩) 2 2] (W.alloc (.cells #[.int .u64 1,.int .i64 0,.int .u64 300,.string ByteArray.empty,.slice none 0 0,.int .u64 2,.int .i64 1,.int .u64 0,.string ⟨#[97,98]⟩,.slice none 0 0] 47)) fun e w' => e=.returned (.tuple #[.string ⟨#[4,172,2,9,2,97,98]⟩,.int .i64 0])∧Below W.heap.size W w'):=fun W => by
  have hs:SlV (W.alloc (.cells #[.int .u64 1,.int .i64 0,.int .u64 300,.string ByteArray.empty,.slice none 0 0,.int .u64 2,.int .i64 1,.int .u64 0,.string ⟨#[97,98]⟩,.slice none 0 0] 47)) (fun _ => True) (.slice (some ⟨W.heap.size,0,none⟩) 2 2) exam9 :=
   slv_blk (f:=exam9) (BlkAt.made W _ _) ⟨rfl,rfl,rfl,rfl,SlV.nil _ _ _ _,rfl,rfl,rfl,rfl,SlV.nil _ _ _ _,trivial⟩ trivial (Nat.le_refl 2)
  have:=wput_of _ exam9 _ _ hs ⟨⟨by unfold In64;omega,by unfold InI64;omega,by unfold In64;omega,by decide⟩,trivial,⟨by unfold In64;omega,by unfold InI64;omega,by unfold In64;omega,by decide⟩,trivial,trivial⟩ (by decide) (by rw [exam9_tx];decide)
  rw [exam9_put.1,exam9_put.2] at this
  exact this.mono fun e w' h => ⟨h.1,bb (ba b0 _) h.2⟩
 clear hT
 go_enter Tryz.func314,Tryz.ntmps314
 go_wp2_with fail
 refine (ofnum_any 1 300 _).mono ?_
 rintro e w2 ⟨rfl,hb2⟩
 replace hb1:=bb hb1 hb2
 clear hb2
 go_wp2_with fail
 refine (oftext_any 2 ⟨#[97,98]⟩ _).mono ?_
 rintro e w3 ⟨rfl,hb2⟩
 replace hb1:=bb hb1 hb2
 clear hb2
 go_wp2_with fail
 refine (H1.out _).mono ?_
 rintro e w4 ⟨rfl,hb2⟩
 replace hb1:=bb hb1 hb2
 clear hb2
 go_wp2_with fail
 refine (HA.out _ hb1).mono ?_
 rintro e w5 ⟨rfl,hb2⟩
 replace hb1:=bb hb1 hb2
 clear hb2
 go_wp2
 go_ret
 exact ⟨rfl,hb1⟩
theorem awakeE09 (w:World) (hT:Tabs w):Calls Tryz.prog 311 #[] w fun e w' => e=.returned (.bool true)∧Below w.heap.size w w':=by
 have H:=Lib.hid (awake09 w hT)
 clear hT
 go_enter Tryz.func311,Tryz.ntmps311
 go_wp2_with fail
 refine H.out.mono ?_
 rintro e w' ⟨rfl,hb⟩
 go_wp2
 go_ret
 exact ⟨rfl,hb⟩
theorem ftx_le:∀ {f:Fs},f.All FOk→f.count≤1000000→(ftx f).length≤330 * f.count
 | .nil,_,_ => by simp [ftx]
 | .cons t y n s i r,hk,h60 => by
   simp only [Fs.count] at h60
   have hi:=ftx_le (f:=i) hk.2.1 (by omega)
   have hr:=ftx_le (f:=r) hk.2.2 (by omega)
   obtain ⟨h1,h2,h3,h4⟩:=hk.1
   have e1:vsz (4 * t+y.toNat)≤10:=vsz_le 9 _ (by have:(128:Nat) ^ (9+1)=1180591620717411303424:=by decide
                                                  unfold In64 at h1;omega)
   have e2:=vsz_le10 h3
   have e3:vsz s.size≤10:=vsz_le10 (by show s.size < 18446744073709551616;omega)
   have e4:vsz (ftx i).length≤10:=vsz_le10 (by show (ftx i).length < 18446744073709551616;omega)
   simp only [ftx,Fs.count,List.length_append,vput_length]
   by_cases y0:y=0
   · rw [if_pos y0,vput_length];omega
   · rw [if_neg y0]
     by_cases y1:y=1
     · rw [if_pos y1,List.length_append,vput_length,len_list];omega
     · rw [if_neg y1,List.length_append,vput_length];omega
end Go.Proofs.YtgidfnhfgiehjaaGreatDoor
end

section
namespace Go.Proofs.YtgidfnhfgiehjaaGreatDoor
open Go.RowKit Go.PM
set_option maxRecDepth 100000
set_option maxHeartbeats 2000000
attribute [local go_sem ↓] Go.wp_at_zero Go.wp_at_succ
theorem info_pu64:(Tryz.prog.info? 22).map (fun i => (i.zero,i.size,i.bytes))=some (some (.int .u64 0),1,8):=by kernel_rfl
def ftags (f:Fs):List Nat:=f.toL.map Fl.tag
theorem ftags_len (f:Fs):(ftags f).length=f.len:=by rw [ftags,List.length_map,toL_len]
theorem slv_tag {w:World} {I:Nat→Prop} {A:Option Addr} {c:Nat} {f:Fs} (h:SlV w I (.slice A f.len c) f) (k:Nat) (hk:k < f.len) :
 ∃ b o,A=some ⟨b,o,none⟩∧b < w.heap.size∧w.cell? ⟨b,o+k * 5,none⟩=some (.int .u64 ((f.toL[k]'(by rw [toL_len];exact hk)).tag:Int)):=by
 obtain ⟨A',c',hv,hc,hor⟩:=h
 injection hv with e1 e2 e3
 subst e1 e3
 rcases hor with h0 | ⟨b,o,rfl,hI,hb,hat⟩
 · omega
 · obtain ⟨t,y,n,s,i,hd,_⟩:=f.drop_cons k hk
   have h1:=hat.drop k
   rw [hd] at h1
   have h2:=toL_drop hd
   rw [List.getElem?_eq_getElem (by rw [toL_len];exact hk)] at h2
   injection h2 with h2
   rw [h2]
   exact ⟨b,o,rfl,hb,h1.1⟩
theorem tags_any (A:Option Addr) (c:Nat) (f:Fs) (I:Nat→Prop) (w:World) (hr:SlV w I (.slice A f.len c) f) (hl:f.len≤1000000) :
 Calls Tryz.prog 312 #[.slice A f.len c] w fun e w' => ∃ (A':Option Addr) (c':Nat),e=.returned (.slice A' f.len c')∧PM.Rd w' A' (u64s (ftags f))∧f.len≤c'∧Below w.heap.size w w':=by
 obtain ⟨i0,hi0,hz0,hz1,hz2⟩:=info_parts info_pu64
 have HR:=Lib.hid hr
 have hcc:f.len≤c:=by obtain ⟨A',c',hv,hc,_⟩:=hr;injection hv with e1 e2 e3;omega
 have H0:Hid (w.ownsRow w.heap.size 22 1 (.slice none 0 0) 0 (u64s ((ftags f).take 0))):=World.ownsRow_nil _ _ _ _
 clear hr
 go_enter Tryz.func312,Tryz.ntmps312
 go_wp2_with fail
 go_loopg [3,7] f.len (fun gk vv ki wr => ∃ k:Nat,k≤f.len∧f.len - k≤gk∧ki=.int .i64 (k:Int)∧Hid (wr.ownsRow w.heap.size 22 1 vv k (u64s ((ftags f).take k)))∧Below w.heap.size w wr)
 case atStart => exact ⟨0,Nat.zero_le _,by omega,rfl,H0,b0⟩
 case round =>
  obtain ⟨k,hkl,hgk,rfl,HO,hb⟩:=hrel
  have HB:=Lib.hid hb
  by_cases hlt:k < f.len
  · obtain ⟨b,o,rfl,hbl,hcell⟩:=slv_tag (HR.out.below hb) k hlt
    have hkt:k < f.toL.length:=by rw [toL_len];exact hlt
    have HTK:Hid (u64s ((ftags f).take (k+1))=u64s ((ftags f).take k)++[.int .u64 ((f.toL[k]'hkt).tag:Int)]):=by
     show _=_
     rw [← List.take_append_getElem (show k < (ftags f).length by rw [ftags_len];exact hlt)]
     simp [u64s,ftags]
    generalize (f.toL[k]'hkt).tag=t at *
    have hwz:=hb.size
    clear hb hkt
    go_wp2_with (at_builtin;go_must (refine wpList_append_own _ rfl _ _ 97 rfl w.heap.size 22 i0 (.int .u64 0) 1 8 Tryz.underlying97 hi0 hz0 hz1 hz2 rfl (by decide) _ _ _ rfl (HO.out.alloc _) ⟨wr.heap.size,0,none⟩ 1 1 [.int .u64 (t:Int)] rfl rfl (one_new _ _ _) (one_cell_int _ _) (by unfold maxLen;omega) (by omega) (by simp;omega) ?_);intro v1 w2 hown2 hg2 _)
    go_roundg (f.len - (k+1))
    case measure => omega
    case rel =>
     refine ⟨k+1,by omega,Nat.le_refl _,by go_num,?_,below_append (ba HB.out _) (HO.out.alloc _) hg2⟩
     show World.ownsRow _ _ _ _ _ _ _
     rw [HTK.out]
     exact hown2
  · obtain rfl:k=f.len:=by omega
    have ho:=HO.out
    rw [List.take_of_length_le (by rw [ftags_len];exact Nat.le_refl _)] at ho
    obtain ⟨A2,c2,rfl,hrd,hn,_⟩:=PM.Rd.own ho
    have HE:=Lib.hid (And.intro hrd hn)
    clear ho hrd hn hb HO
    go_wp2_with fail
    go_ret
    exact ⟨A2,c2,rfl,HE.out.1,HE.out.2,HB.out⟩
theorem exam10:fmerge [fnum 1 0 (fnum 3 0 .nil),fnum 2 0 .nil]=(fnum 1 0 (fnum 2 0 (fnum 3 0 .nil)),0):=rfl
theorem exam10_kd:∀ f ∈ [fnum 1 0 (fnum 3 0 .nil),fnum 2 0 .nil],f.All FKd:=by
 intro f hf
 simp only [List.mem_cons,List.not_mem_nil,or_false] at hf
 rcases hf with rfl | rfl
 · exact ⟨⟨by unfold In64;omega,by unfold InI64;omega,by unfold In64;omega,by decide⟩,trivial,⟨by unfold In64;omega,by unfold InI64;omega,by unfold In64;omega,by decide⟩,trivial,trivial⟩
 · exact ⟨⟨by unfold In64;omega,by unfold InI64;omega,by unfold In64;omega,by decide⟩,trivial,trivial⟩
theorem awake10 (w:World) (hT:Tabs w) :
 Calls Tryz.prog 307 #[] w fun e w' => e=.returned (.bool true)∧Below w.heap.size w w':=by
 have hb1:Below w.heap.size w w:=b0
 have HA:Hid (∀ x:World,Below w.heap.size w x→Calls Tryz.prog 311 #[] x fun e w' => e=.returned (.bool true)∧Below x.heap.size x w'):=fun x hx => awakeE09 x (hT.below hx)
 clear hT
 go_enter Tryz.func307,Tryz.ntmps307
 go_wp2_with fail
 refine (ofnum_any 1 0 _).mono ?_
 rintro e w2 ⟨rfl,hb2⟩
 replace hb1:=bb hb1 hb2
 clear hb2
 go_wp2_with fail
 refine (ofnum_any 3 0 _).mono ?_
 rintro e w3 ⟨rfl,hb2⟩
 replace hb1:=bb hb1 hb2
 clear hb2
 go_wp2_with fail
 refine (ofnum_any 2 0 _).mono ?_
 rintro e w4 ⟨rfl,hb4⟩
 have hx1:=(((BlkAt.made w3 47 #[.int .u64 1,.int .i64 0,.int .u64 0,.string ByteArray.empty,.slice none 0 0,.int .u64 3,.int .i64 0,.int .u64 0,.string ByteArray.empty,.slice none 0 0]).below hb4 (by simp)).more (.cells #[.int .u64 2,.int .i64 0,.int .u64 0,.string ByteArray.empty,.slice none 0 0] 47)).more (.cells #[.slice (some ⟨w3.heap.size,0,none⟩) 2 2,.slice (some ⟨w4.heap.size,0,none⟩) 1 1] 33)
 have hx2:=(BlkAt.made w4 47 #[.int .u64 2,.int .i64 0,.int .u64 0,.string ByteArray.empty,.slice none 0 0]).more (.cells #[.slice (some ⟨w3.heap.size,0,none⟩) 2 2,.slice (some ⟨w4.heap.size,0,none⟩) 1 1] 33)
 have hx3:=BlkAt.made (w4.alloc (.cells #[.int .u64 2,.int .i64 0,.int .u64 0,.string ByteArray.empty,.slice none 0 0] 47)) 33 #[.slice (some ⟨w3.heap.size,0,none⟩) 2 2,.slice (some ⟨w4.heap.size,0,none⟩) 1 1]
 rw [World.size_alloc] at hx3
 have hs1:SlV ((w4.alloc (.cells #[.int .u64 2,.int .i64 0,.int .u64 0,.string ByteArray.empty,.slice none 0 0] 47)).alloc (.cells #[.slice (some ⟨w3.heap.size,0,none⟩) 2 2,.slice (some ⟨w4.heap.size,0,none⟩) 1 1] 33)) (fun _ => True) (.slice (some ⟨w3.heap.size,0,none⟩) 2 2) (fnum 1 0 (fnum 3 0 .nil)):=slv_blk (f:=(fnum 1 0 (fnum 3 0 .nil))) hx1 ⟨rfl,rfl,rfl,rfl,SlV.nil _ _ _ _,rfl,rfl,rfl,rfl,SlV.nil _ _ _ _,trivial⟩ trivial (Nat.le_refl 2)
 have hs2:SlV ((w4.alloc (.cells #[.int .u64 2,.int .i64 0,.int .u64 0,.string ByteArray.empty,.slice none 0 0] 47)).alloc (.cells #[.slice (some ⟨w3.heap.size,0,none⟩) 2 2,.slice (some ⟨w4.heap.size,0,none⟩) 1 1] 33)) (fun _ => True) (.slice (some ⟨w4.heap.size,0,none⟩) 1 1) (fnum 2 0 .nil):=slv_blk (f:=(fnum 2 0 .nil)) hx2 ⟨rfl,rfl,rfl,rfl,SlV.nil _ _ _ _,trivial⟩ trivial (Nat.le_refl 1)
 have hm:=merge_any (some ⟨w4.heap.size+1,0,none⟩) 2 [(fnum 1 0 (fnum 3 0 .nil)),(fnum 2 0 .nil)] [.slice (some ⟨w3.heap.size,0,none⟩) 2 2,.slice (some ⟨w4.heap.size,0,none⟩) 1 1] (fun _ => True) ((w4.alloc (.cells #[.int .u64 2,.int .i64 0,.int .u64 0,.string ByteArray.empty,.slice none 0 0] 47)).alloc (.cells #[.slice (some ⟨w3.heap.size,0,none⟩) 2 2,.slice (some ⟨w4.heap.size,0,none⟩) 1 1] 33))
  (.inr ⟨_,0,rfl,hx3.lt,fun j u hj => by rw [Nat.zero_add,hx3.cell j,← Array.getElem?_toList];exact hj⟩) ⟨hs1,hs2,trivial⟩
  exam10_kd (by decide) (by decide)
 rw [exam10] at hm
 have HM:Hid (Calls Tryz.prog 45 #[.slice (some ⟨w4.heap.size+1,0,none⟩) 2 2] ((w4.alloc (.cells #[.int .u64 2,.int .i64 0,.int .u64 0,.string ByteArray.empty,.slice none 0 0] 47)).alloc (.cells #[.slice (some ⟨w3.heap.size,0,none⟩) 2 2,.slice (some ⟨w4.heap.size,0,none⟩) 1 1] 33)) fun e w' => ∃ (A:Option Addr) (c:Nat),e=.returned (.tuple #[.slice A 3 c,.int .i64 0])∧SlV w' (fun _ => True) (.slice A 3 c) (fnum 1 0 (fnum 2 0 (fnum 3 0 .nil)))∧Below w4.heap.size w4 w'):=hm.mono fun e w' h => by
  obtain ⟨A,c,he,hs,hb⟩:=h
  exact ⟨A,c,he,hs.imp fun _ _ => trivial,bb (ba (ba b0 _) _) hb⟩
 replace hb1:=bb hb1 (bb (ba b0 _) hb4)
 clear hx1 hx2 hx3 hs1 hs2 hm hb4
 go_wp2_with fail
 refine HM.out.mono ?_
 rintro e w5 ⟨A5,c5,rfl,hs5,hb5⟩
 replace hb1:=bb hb1 hb5
 have HS5:=Lib.hid hs5
 clear HM hs5 hb5
 go_wp2_with fail
 refine (HA.out _ hb1).mono ?_
 rintro e w6 ⟨rfl,hb6⟩
 replace hb1:=bb hb1 hb6
 have HTG:Hid (Calls Tryz.prog 312 #[.slice A5 3 c5] w6 fun e w' => ∃ (A':Option Addr) (c':Nat),e=.returned (.slice A' 3 c')∧PM.Rd w' A' (u64s [1,2,3])∧3≤c'∧Below w6.heap.size w6 w'):=tags_any A5 c5 (fnum 1 0 (fnum 2 0 (fnum 3 0 .nil))) _ w6 (HS5.out.below hb6) (by decide)
 clear hb6
 go_wp2_with fail
 refine HTG.out.mono ?_
 rintro e w7 ⟨A7,c7,rfl,hr7,hc7,hb7⟩
 replace hb1:=bb hb1 hb7
 have hx7:=BlkAt.made w7 22 #[.int .u64 1,.int .u64 2,.int .u64 3]
 have HEQ:Hid (Calls Tryz.prog 239 #[.slice A7 3 c7,.slice (some ⟨w7.heap.size,0,none⟩) 3 3] (w7.alloc (.cells #[.int .u64 1,.int .u64 2,.int .u64 3] 22)) fun e w' => e=.returned (.bool true)∧Below w7.heap.size w7 w') :=
  (equ64 A7 (some ⟨w7.heap.size,0,none⟩) c7 3 [1,2,3] (w7.alloc (.cells #[.int .u64 1,.int .u64 2,.int .u64 3] 22)) (hr7.below (ba b0 _)) (.inr ⟨_,0,rfl,hx7.lt,fun j u hj => by rw [Nat.zero_add,hx7.cell j,← Array.getElem?_toList];exact hj⟩) (by decide)).mono fun e w' h => ⟨h.1,bb (ba b0 _) h.2⟩
 clear hr7 hb7 hx7 HTG
 go_wp2_with fail
 refine HEQ.out.mono ?_
 rintro e w8 ⟨rfl,hb8⟩
 replace hb1:=bb hb1 hb8
 clear hb8
 go_wp2
 go_ret
 exact ⟨rfl,hb1⟩
theorem awakeE10 (w:World) (hT:Tabs w):Calls Tryz.prog 297 #[] w fun e w' => e=.returned (.bool true)∧Below w.heap.size w w':=by
 have H:=Lib.hid (awake10 w hT)
 clear hT
 go_enter Tryz.func297,Tryz.ntmps297
 go_wp2_with fail
 refine H.out.mono ?_
 rintro e w' ⟨rfl,hb⟩
 go_wp2
 go_ret
 exact ⟨rfl,hb⟩
end Go.Proofs.YtgidfnhfgiehjaaGreatDoor
end

section
namespace Go.PM
open Go.Maps (Keyed)
section
variable {H:Type}
theorem plain_bool_inv {P:Program} {e:TypeId} (he:P.underlying e=some .bool) {v:Value} {z:DataW H × List MemPlace} (h:plainElem P e v=some z):∃ x,v=.bool x∧z=(.lit (.bool x),[]):=by
 unfold plainElem at h
 rw [he] at h
 cases v <;> simp at h
 obtain rfl:=h
 exact ⟨_,rfl,rfl⟩
theorem lookup_own_bool {P:Program} {k t e:TypeId} {w:World} {b n:Nat} {D:DataW H} (h:w.ownsMap P k (plainElem P e) b n D) (K:Keyed P k) (ht:P.underlying t=some (.map k e)) (he:P.underlying e=some .bool)
 (hz:(zeroValue e).run P w=.ok (.bool false) w) {key:Value} {kl:Lit} (hkey:keyOf P k key=some kl) :
 ∃ c,(Instr.lookup t (.map (some b)) key false).run P w=.ok (.bool c) w∧D.atKey kl (.lit (.bool false))=.lit (.bool c):=by
 obtain ⟨v,ps,hrun,hv⟩:=h.lookup K ht hz (plainElem_bool he false) hkey
 obtain ⟨c,rfl,hc⟩:=plain_bool_inv he hv
 simp only [Prod.mk.injEq] at hc
 exact ⟨c,hrun,hc.1⟩
theorem wpList_lookup_own_bool {P:Program} (w:World) {ops:Array Oper} {rest:List Oper} {o:Oper} {a:Act} {Q:Exit→Act→World→Prop}
 (hg:o.guard=none) (m x:Operand) (t:TypeId) (hop:o.op=Op.lookup t m x false)
 (k e:TypeId) (K:Keyed P k) (ht:P.underlying t=some (.map k e)) (he:P.underlying e=some .bool) (hz:(zeroValue e).run P w=.ok (.bool false) w) (b n:Nat) (D:DataW H)
 (hm:a.eval m=.map (some b)) (hown:w.ownsMap P k (plainElem P e) b n D) (key:Value) (kl:Lit) (hx:a.eval x=key) (hkey:keyOf P k key=some kl)
 (hK:∀ c:Bool,D.atKey kl (.lit (.bool false))=.lit (.bool c)→wpList P ops Q rest (a.put o.dst (.bool c)) w) :
 wpList P ops Q (o :: rest) a w:=by
 refine wpList_plain hg fun K' hK' => ?_
 obtain ⟨c,hrun,hat⟩:=lookup_own_bool hown K ht he hz hkey
 unfold Oper.wp
 simp [execOp,hop,hm,hx,hrun,Result.andThen]
 exact hK' _ _ (hK c hat)
def tagPut (D:DataW H) (t:Nat):DataW H:=D.put (.int .u64 (t:Int)) (.lit (.bool true))
def tagMap (l:List Nat):DataW H:=l.foldl tagPut (.map [])
theorem tagMap_snoc (l:List Nat) (t:Nat):(tagMap (l++[t]):DataW H)=(tagMap l:DataW H).put (.int .u64 (t:Int)) (.lit (.bool true)):=by
 rw [tagMap,List.foldl_append]
 rfl
theorem tagFold_at (x:Nat):∀ (l:List Nat) (D:DataW H),Maps.IsMap D→∀ c:Bool,D.atKey (.int .u64 (x:Int)) (.lit (.bool false))=.lit (.bool c) →
 (l.foldl tagPut D).atKey (.int .u64 (x:Int)) (.lit (.bool false))=.lit (.bool (c || decide (x ∈ l)))
 | [],D,_,c,h => by simpa using h
 | t :: l,D,hD,c,h => by
   rw [List.foldl_cons]
   by_cases he:x=t
   · subst he
     have h1:(tagPut D x).atKey (.int .u64 (x:Int)) (.lit (.bool false))=.lit (.bool true):=Maps.atKey_put_same hD (by trivial) _ _
     rw [tagFold_at x l (tagPut D x) (hD.put _ _) true h1]
     simp
   · have h1:(tagPut D t).atKey (.int .u64 (x:Int)) (.lit (.bool false))=.lit (.bool c):=by
      rw [tagPut,Maps.atKey_put_other (by simp;omega)]
      exact h
     rw [tagFold_at x l (tagPut D t) (hD.put _ _) c h1]
     simp [he]
theorem tagMap_at (l:List Nat) (x:Nat):(tagMap l:DataW H).atKey (.int .u64 (x:Int)) (.lit (.bool false))=.lit (.bool (decide (x ∈ l))):=by
 have h:=tagFold_at (H:=H) x l (.map []) ⟨[],rfl⟩ false rfl
 simpa [tagMap] using h
end
end Go.PM
end

section
namespace Go.Proofs.YtgidfnhfgiehjaaGreatDoor
open Go.RowKit Go.PM
set_option maxRecDepth 100000
set_option maxHeartbeats 2000000
attribute [local go_sem ↓] Go.wp_at_zero Go.wp_at_succ
def fpick (tags:List Nat) (yes:Bool):Fs→Fs
 | .nil => .nil
 | .cons t y n s i r => if decide (t ∈ tags)=yes then .cons t y n s i (fpick tags yes r) else fpick tags yes r
theorem fpick_app (tags:List Nat) (yes:Bool) (g:Fs):∀ f:Fs,fpick tags yes (f.app g)=(fpick tags yes f).app (fpick tags yes g)
 | .nil => rfl
 | .cons t y n s i r => by
   rw [Fs.app,fpick,fpick,fpick_app tags yes g r]
   split <;> rfl
theorem fpick_count (tags:List Nat) (yes:Bool):∀ f:Fs,(fpick tags yes f).count≤f.count
 | .nil => Nat.le_refl _
 | .cons t y n s i r => by
   have:=fpick_count tags yes r
   rw [fpick]
   split <;> simp only [Fs.count] <;> omega
theorem fpick_len (tags:List Nat) (yes:Bool):∀ f:Fs,(fpick tags yes f).len≤f.len
 | .nil => Nat.le_refl _
 | .cons t y n s i r => by
   have:=fpick_len tags yes r
   rw [fpick]
   split <;> simp only [Fs.len] <;> omega
theorem run_makeMap_hint (w:World) (k:IntKind) (n:Int):(Instr.makeMap 154 (some (.int k n))).run Tryz.prog w=.ok (.map (some w.heap.size)) (w.alloc (.map #[] 0)):=by
 simp [Instr.makeMap,run_underlying Tryz.underlying154,asInt,asIntOf,Result.andThen]
theorem key_u64:Maps.Keyed Tryz.prog 22:=Maps.int_keyed Tryz.underlying22
theorem zero_bool (w:World):(zeroValue 4).run Tryz.prog w=.ok (.bool false) w:=rfl
def TgMap (w:World) (m k:Nat) (tags:List Nat):Prop:=w.ownsMap (H:=Unit) Tryz.prog 22 (plainElem Tryz.prog 4) m k (tagMap tags)
def SpAt (w:World) (tags:List Nat) (F:Fs) (v1 v2:Value) (wr:World):Prop :=
 ∃ (A B:Option Addr) (c d:Nat) (xs ys:List Value),v1=.slice A (fpick tags true F).len c∧v2=.slice B (fpick tags false F).len d ∧
  wr.ownsRow w.heap.size 47 5 v1 (fpick tags true F).len xs∧wr.ownsRow w.heap.size 47 5 v2 (fpick tags false F).len ys ∧
  Cls wr (fun q => q < w.heap.size) xs (fpick tags true F)∧Cls wr (fun q => q < w.heap.size) ys (fpick tags false F)∧(∀ g,v1.ownBlock=some g→v2.ownBlock≠some g) ∧
  v1.ownBlock≠some w.heap.size∧v2.ownBlock≠some w.heap.size∧TgMap wr w.heap.size tags.length tags∧Below w.heap.size w wr
theorem fapp_cls (t ty e:TypeId) (i:TypeInfo) (ht:Tryz.prog.underlying t=some (.slice e)) (hi:Tryz.prog.info? e=some i) (hz:i.zero=some zfield) (hsz:i.size=5) (hby:i.bytes=64) {w:World}
 {base:Nat} {A:Option Addr} {c b d:Nat} {f g:Fs} {xs ys:List Value} (hown:w.ownsRow base e 5 (.slice A f.len c) f.len xs) {J:Nat→Prop} (hc:Cls w J xs f) (hJ:∀ k,J k→(Value.slice A f.len c).ownBlock≠some k)
 (hy:Cls w J ys g) (hy2:∀ j u,ys[j]? = some u→w.cell? ((⟨b,0,none⟩:Addr).add j)=some u) (h0:0 < g.len) (h60:f.len+g.len≤2000000) (hb:base≤w.heap.size) :
 ∃ (A':Option Addr) (c':Nat) (w':World) (xs':List Value),(Builtin.append_ #[t,t] ty #[.slice A f.len c,.slice (some ⟨b,0,none⟩) g.len d]).run Tryz.prog w=.ok (.slice A' (f.app g).len c') w'∧w'.ownsRow base e 5 (.slice A' (f.app g).len c') (f.app g).len xs' ∧
  Cls w' J xs' (f.app g)∧w.grownBy w' (Value.slice A f.len c).ownBlock∧((Value.slice A' (f.app g).len c').ownBlock=(Value.slice A f.len c).ownBlock∨(Value.slice A' (f.app g).len c').ownBlock=some w.heap.size):=by
 have hyl:=hy.length
 obtain ⟨g',cap,w',hr,h2,h3,h4,h5⟩:=run_append_lies (P:=Tryz.prog) w t ty base e i zfield 5 64 ht hi hz hsz hby rfl (by decide) _ f.len xs hown ⟨b,0,none⟩ g.len d ys (by omega) hy2 (cls_one hy) (by omega) (by unfold maxLen;omega) (by omega) hb w.heap.size rfl
 have hcl:=((hc.lt.app hy.lt).tch (S:=fun k => (Value.slice A f.len c).ownBlock=some k) (Tch.grown h3 fun k hk _ => hk) fun k hk => hJ k hk.1).imp fun k hk => hk.1
 rw [Fs.app_len]
 refine ⟨some ⟨g',0,none⟩,cap,w',_,hr,h2,hcl,h3,?_⟩
 rcases h4 with h4 | h4
 · exact .inl h4.symm
 · right;rw [h4];rfl
theorem sp_step {w wr W w':World} {m:Nat} {tags:List Nat} {A A':Option Addr} {c c':Nat} {f1 f1' f2:Fs} {v2:Value} {xs ys:List Value} (hb:Below w.heap.size w wr) (hW:Below wr.heap.size wr W) (hm:m < wr.heap.size)
 (hown1:wr.ownsRow w.heap.size 47 5 (.slice A f1.len c) f1.len xs) (hown2:wr.ownsRow w.heap.size 47 5 v2 f2.len ys) (hcl2:Cls wr (fun q => q < w.heap.size) ys f2) (hne:∀ g,(Value.slice A f1.len c).ownBlock=some g→v2.ownBlock≠some g)
 (hn1:(Value.slice A f1.len c).ownBlock≠some m) (hmap:TgMap wr m tags.length tags) (hg:W.grownBy w' (Value.slice A f1.len c).ownBlock)
 (hat:(Value.slice A' f1'.len c').ownBlock=(Value.slice A f1.len c).ownBlock∨(Value.slice A' f1'.len c').ownBlock=some W.heap.size) :
 w'.ownsRow w.heap.size 47 5 v2 f2.len ys∧Cls w' (fun q => q < w.heap.size) ys f2∧(∀ g,(Value.slice A' f1'.len c').ownBlock=some g→v2.ownBlock≠some g)∧(Value.slice A' f1'.len c').ownBlock≠some m∧TgMap w' m tags.length tags∧Below w.heap.size w w':=by
 have hwz:=hW.size
 have hbW:Below w.heap.size w W:=hb.trans (hW.mono hb.size)
 have hge:∀ g,(Value.slice A f1.len c).ownBlock=some g→w.heap.size≤g:=fun g h => (hown1.lt g h).1
 have hmW:TgMap W m tags.length tags:=by
  obtain ⟨es,clock,h1,h2⟩:=hmap
  exact ⟨es,clock,(hW.block m hm).trans h1,h2⟩
 refine ⟨?_,?_,?_,?_,?_,?_⟩
 · refine World.ownsRow.kept (own_below hown2 hW) hg ?_
   cases h:v2.ownBlock with
   | none => exact .inl rfl
   | some g => exact .inr fun e => hne g e.symm h
 · exact (hcl2.below hW).tch (Tch.grown (S:=fun k => (Value.slice A f1.len c).ownBlock=some k) hg fun k hk _ => hk) fun k hk h => by have:=hge k h;omega
 · intro g h1 h2
   rcases hat with h | h
   · exact hne g (h ▸ h1) h2
   · have:=(hown2.lt g h2).2
     rw [h] at h1
     injection h1 with h1
     omega
 · rcases hat with h | h
   · rw [h];exact hn1
   · rw [h]
     intro h1
     injection h1 with h1
     omega
 · exact World.ownsMap.kept hmW hg fun h => hn1 h.symm
 · exact hbW.trans (Tch.grown (S:=fun k => (Value.slice A f1.len c).ownBlock=some k) hg (fun k hk _ => hk) |>.toBelowB hbW.size fun k hk h => by have:=hge k h;omega)
theorem own_slT {w:World} {base:Nat} {e:TypeId} {v:Value} {xs:List Value} {f:Fs} {J:Nat→Prop} (h:w.ownsRow base e 5 v f.len xs) (hc:Cls w J xs f):SlV w (fun _ => True) v f:=by
 rcases h.2 with ⟨rfl,h0⟩ | ⟨g,cap,cur,rfl,hb,hg,hn,_⟩
 · have:=Fs.len_zero h0
   subst this
   exact SlV.nil _ _ _ _
 · refine ⟨some ⟨g,0,none⟩,cap,rfl,hn,.inr ⟨g,0,rfl,trivial,(Array.getElem?_eq_some_iff.1 hg).1,(hc.imp fun _ _ => trivial).at_ fun j u hj => ?_⟩⟩
   have:=h.cells (g:=g) rfl j u hj
   rwa [add_at,← Nat.zero_add j] at this
theorem clone_new {w:World} {f:Fs} {e:Ending} {w':World} (h:FCloneEnd w f e w'):∃ (A:Option Addr) (c:Nat),e=.returned (.slice A f.len c)∧SlV w' (w.heap.size≤·) (.slice A f.len c) f∧Below w.heap.size w w':=by
 obtain ⟨A,c,g0,xs,rfl,hcc,hown,hcls,hg0,howng,hb⟩:=h
 obtain ⟨A9,c9,hv9,hs9⟩:=own_slv hown (hcls.imp (J:=fun q => w.heap.size≤q) fun q hq => by have:=hq.1;omega) fun q hq => hq
 injection hv9 with h1 h2 h3
 subst h1 h3
 exact ⟨A,c,rfl,hs9,hb⟩
def SplitEnd (w:World) (tags:List Nat) (f:Fs) (e:Ending) (w':World):Prop :=
 ∃ (A B:Option Addr) (c d:Nat),e=.returned (.tuple #[.slice A (fpick tags true f).len c,.slice B (fpick tags false f).len d])∧SlV w' (w.heap.size≤·) (.slice A (fpick tags true f).len c) (fpick tags true f) ∧
  SlV w' (w.heap.size≤·) (.slice B (fpick tags false f).len d) (fpick tags false f)∧Below w.heap.size w w'
theorem split_any (A:Option Addr) (c:Nat) (f:Fs) (B:Option Addr) (d:Nat) (tags:List Nat) (I:Nat→Prop) (w:World) (hr:SlV w I (.slice A f.len c) f) (ht:Rd w B (u64s tags)) (hl:f.count≤1000000) (htl:tags.length≤1000000)
 (h64:∀ t ∈ tags,t < 18446744073709551616) (hf:f.All FKd) :
 Calls Tryz.prog 40 #[.slice A f.len c,.slice B tags.length d] w (SplitEnd w tags f):=by
 have HR:=Lib.hid hr.lt
 have HT:=Lib.hid ht
 have H64:=Lib.hid h64
 have HF:=Lib.hid hf
 have hfl:=Nat.le_trans f.len_count hl
 have HL:=Lib.hid hl
 have hcc:f.len≤c:=by obtain ⟨A',c',hv,hc,_⟩:=hr;injection hv with e1 e2 e3;omega
 have hmm:=run_makeMap_hint
 obtain ⟨i0,hi0,hz0,hz1,hz2⟩:=info_parts info_field
 have H0:Hid (TgMap (w.alloc (.map #[] 0)) w.heap.size 0 (tags.take 0)):=World.ownsMap_made _ _ _ _
 clear hr ht h64 hf
 go_enter Tryz.func40,Tryz.ntmps40
 go_wp2_with fail
 go_loopg [15] tags.length (fun gk ki wr => ∃ k:Nat,k≤tags.length∧tags.length - k≤gk∧ki=.int .i64 (k:Int)∧Hid (TgMap wr w.heap.size k (tags.take k))∧Below w.heap.size w wr)
 case atStart => exact ⟨0,Nat.zero_le _,by omega,rfl,H0,ba b0 _⟩
 case round =>
  obtain ⟨k,hkl,hgk,rfl,HM,hb⟩:=hrel
  have HB:=Lib.hid hb
  by_cases hlt:k < tags.length
  · obtain ⟨b,off,rfl,hbl,hcell⟩:=(HT.out.below hb).at_ (k:=k) (by rw [u64s,List.length_map];exact hlt)
    have HTK:Hid (tagMap (H:=Unit) (tags.take (k+1))=(tagMap (tags.take k)).put (.int .u64 (tags[k]:Int)) (.lit (.bool true))):=by
     show _=_
     rw [← List.take_append_getElem hlt,tagMap_snoc]
    have hwf:(Lit.int .u64 (tags[k]:Int)).wf=true:=by
     have:=H64.out _ (List.getElem_mem hlt)
     simp only [Lit.wf,show IntKind.u64.min=0 from rfl,show IntKind.u64.max=18446744073709551615 from rfl,Bool.and_eq_true,decide_eq_true_eq]
     omega
    simp only [u64s,List.getElem_map] at hcell
    generalize tags[k]=t at *
    clear hb
    go_wp2_with (at_mapUpdate;refine wpList_mapUpdate_own (H:=Unit) _ rfl _ _ _ 154 rfl 22 4 key_u64 Tryz.underlying154 _ _ _ _ rfl HM.out (by unfold maxLen;omega) _ _ _ rfl rfl (Maps.keyOf_int_mk Tryz.underlying22 hwf) _ _ (plainElem_bool Tryz.underlying4 true) ?_;intro w1 hown1 hgrow1)
    go_roundg (tags.length - (k+1))
    case measure => omega
    case rel =>
     refine ⟨k+1,by omega,Nat.le_refl _,by go_num,?_,bg HB.out hgrow1 (Nat.le_refl _)⟩
     show TgMap _ _ _ _
     unfold TgMap
     rw [HTK.out]
     exact hown1
  · obtain rfl:k=tags.length:=by omega
    rw [List.take_of_length_le (Nat.le_refl _)] at HM
    have H1:Hid (SpAt w tags (f.take 0) (.slice none 0 0) (.slice none 0 0) wr):=by
     have e:f.take 0=.nil:=by cases f <;> rfl
     rw [e]
     exact ⟨none,none,0,0,[],[],rfl,rfl,World.ownsRow_nil _ _ _ _,World.ownsRow_nil _ _ _ _,trivial,trivial,(fun g h => by cases h),(by simp [Value.ownBlock]),(by simp [Value.ownBlock]),HM.out,hb⟩
    clear hb HM HB
    go_wp2_with fail
    go_loopg [4,5,24] f.len (fun gk v1 v2 ki wr => ∃ k:Nat,k≤f.len∧f.len - k≤gk∧ki=.int .i64 (k:Int)∧Hid (SpAt w tags (f.take k) v1 v2 wr))
    case atStart => exact ⟨0,Nat.zero_le _,by omega,rfl,H1⟩
    case round =>
     obtain ⟨k,hkl,hgk,rfl,HS⟩:=hrel
     obtain ⟨A1,B1,c1,d1,xs,ys,rfl,rfl,hown1,hown2,hcl1,hcl2,hne,hn1,hn2,hmap,hb⟩:=HS.out
     by_cases hlt:k < f.len
     · obtain ⟨t,y,n,s,i,hdc,htk⟩:=f.drop_cons k hlt
       obtain ⟨A0,c0,hv,hc0,hor⟩:=HR.out.below hb
       injection hv with hv1 hv2 hv3
       subst hv1 hv3
       rcases hor with h0 | ⟨b,o,rfl,hIb,hbl,hat⟩
       · omega
       have hak:=hat.drop k
       rw [hdc] at hak
       obtain ⟨d0,d1',d2,d3,⟨Ai,ci,d4,hci,hin⟩,_⟩:=hak
       have HSI:Hid (SlV wr (fun q => q < w.heap.size) (.slice Ai i.len ci) i):=SlV.imp (I:=fun k => I k∧k < w.heap.size) ⟨Ai,ci,rfl,hci,hin⟩ fun q hq => hq.2
       have HWF:Hid ((Lit.int .u64 (t:Int)).wf=true):=by
        have h1:=HF.out.drop k
        rw [hdc] at h1
        have h2:t < 18446744073709551616:=h1.1.1
        show _=true
        simp only [Lit.wf,show IntKind.u64.min=0 from rfl,show IntKind.u64.max=18446744073709551615 from rfl,Bool.and_eq_true,decide_eq_true_eq]
        omega
       have hpk:∀ yes,fpick tags yes (f.take (k+1))=(fpick tags yes (f.take k)).app (if decide (t ∈ tags)=yes then .cons t y n s i .nil else .nil):=fun yes => by
        rw [htk,fpick_app,fpick,fpick]
       have hsw:=hb.size
       have hbo:=ba (a:=wr) b0 (.cells #[.int .u64 (t:Int),.int .i64 y,.int .u64 (n:Int),.string s,.slice Ai i.len ci] 47)
       have hy2:=World.news_of_block (cs:=#[.int .u64 (t:Int),.int .i64 y,.int .u64 (n:Int),.string s,.slice Ai i.len ci]) (t:=47) (fr:=(0,0)) (heap_alloc_new wr (.cells #[.int .u64 (t:Int),.int .i64 y,.int .u64 (n:Int),.string s,.slice Ai i.len ci] 47))
       have hy:Cls (wr.alloc (.cells #[.int .u64 (t:Int),.int .i64 y,.int .u64 (n:Int),.string s,.slice Ai i.len ci] 47)) (fun q => q < w.heap.size) [.int .u64 (t:Int),.int .i64 y,.int .u64 (n:Int),.string s,.slice Ai i.len ci] (.cons t y n s i .nil) :=
        ⟨rfl,rfl,rfl,rfl,SlV.below (f:=i) HSI.out hbo,trivial⟩
       have hl1:=Nat.le_trans (fpick_len tags true (f.take k)) (Nat.le_trans (show (f.take k).len≤f.len by rw [f.take_len k hkl];exact hkl) hfl)
       have hl2:=Nat.le_trans (fpick_len tags false (f.take k)) (Nat.le_trans (show (f.take k).len≤f.len by rw [f.take_len k hkl];exact hkl) hfl)
       have hm0:w.heap.size < wr.heap.size:=hmap.lt
       have HAT:(tagMap (H:=Unit) tags).atKey (.int .u64 (t:Int)) (.lit (.bool false))=.lit (.bool (decide (t ∈ tags))):=tagMap_at tags t
       generalize hF1:fpick tags true (f.take k)=F1 at *
       generalize hF2:fpick tags false (f.take k)=F2 at *
       have hT:=hpk true
       have hFa:=hpk false
       rw [hF1] at hT
       rw [hF2] at hFa
       by_cases hin:t ∈ tags
       · simp only [hin,decide_true,reduceIte,Bool.true_eq_false,Fs.app_nil] at hT hFa HAT
         obtain ⟨A2,c2,w3,xs2,hrun,hown3,hcls3,hgr,hat3⟩:=fapp_cls 33 33 47 i0 Tryz.underlying33 hi0 hz0 hz1 hz2 (d:=1) (own_below hown1 hbo) (hcl1.below hbo) (fun q hq h => by have:=(hown1.lt q h).1;omega) hy hy2 (by simp [Fs.len]) (by simp only [Fs.len];omega) (Nat.le_trans hsw hbo.size)
         obtain ⟨k2,kc2,kne,kn1,kmap,kb⟩:=sp_step hb hbo hm0 hown1 hown2 hcl2 hne hn1 hmap hgr hat3
         have HN:Hid (SpAt w tags (f.take (k+1)) (.slice A2 (F1.app (.cons t y n s i .nil)).len c2) (.slice B1 F2.len d1) w3):=by
          unfold SpAt
          rw [hT,hFa]
          refine ⟨A2,B1,c2,d1,xs2,ys,rfl,rfl,hown3,k2,hcls3,kc2,kne,kn1,?_,kmap,kb⟩
          exact hn2
         have HRUN:=Lib.hid hrun
         have HMAP:=Lib.hid hmap
         have hlen1:(Fs.cons t y n s i .nil).len=1:=rfl
         rw [hlen1] at HRUN
         clear hown1 hown2 hcl1 hcl2 hne hn1 hn2 hmap hb hrun hown3 hcls3 hgr hat3 k2 kc2 kne kn1 kmap kb hy hy2 hbo hT hFa hpk hat hin HS
         go_wp2_with (first | (at_lookup;refine wpList_lookup_own_bool (H:=Unit) _ rfl _ _ 154 rfl 22 4 key_u64 Tryz.underlying154 Tryz.underlying4 (zero_bool _) _ _ _ rfl HMAP.out _ _ rfl (Maps.keyOf_int_mk Tryz.underlying22 HWF.out) ?_;intro cc hcc2;rw [HAT] at hcc2;injection hcc2 with hcc2;injection hcc2 with hcc2;subst hcc2) | (at_builtin;(refine wpList_append_run rfl _ _ _ _ rfl _ _ _ rfl rfl HRUN.out ?_)))
         go_roundg (f.len - (k+1))
         case measure => omega
         case rel => exact ⟨k+1,by omega,Nat.le_refl _,by go_num,HN⟩
       · simp only [hin,decide_false,reduceIte,Bool.false_eq_true,Fs.app_nil] at hT hFa HAT
         obtain ⟨A2,c2,w3,xs2,hrun,hown3,hcls3,hgr,hat3⟩:=fapp_cls 33 33 47 i0 Tryz.underlying33 hi0 hz0 hz1 hz2 (d:=1) (own_below hown2 hbo) (hcl2.below hbo) (fun q hq h => by have:=(hown2.lt q h).1;omega) hy hy2 (by simp [Fs.len]) (by simp only [Fs.len];omega) (Nat.le_trans hsw hbo.size)
         obtain ⟨k2,kc2,kne,kn1,kmap,kb⟩:=sp_step hb hbo hm0 hown2 hown1 hcl1 (fun g h1 h2 => hne g h2 h1) hn2 hmap hgr hat3
         have HN:Hid (SpAt w tags (f.take (k+1)) (.slice A1 F1.len c1) (.slice A2 (F2.app (.cons t y n s i .nil)).len c2) w3):=by
          unfold SpAt
          rw [hT,hFa]
          exact ⟨A1,A2,c1,c2,xs,xs2,rfl,rfl,k2,hown3,kc2,hcls3,fun g h1 h2 => kne g h2 h1,hn1,kn1,kmap,kb⟩
         have HRUN:=Lib.hid hrun
         have HMAP:=Lib.hid hmap
         have hlen1:(Fs.cons t y n s i .nil).len=1:=rfl
         rw [hlen1] at HRUN
         clear hown1 hown2 hcl1 hcl2 hne hn1 hn2 hmap hb hrun hown3 hcls3 hgr hat3 k2 kc2 kne kn1 kmap kb hy hy2 hbo hT hFa hpk hat hin HS
         go_wp2_with (first | (at_lookup;refine wpList_lookup_own_bool (H:=Unit) _ rfl _ _ 154 rfl 22 4 key_u64 Tryz.underlying154 Tryz.underlying4 (zero_bool _) _ _ _ rfl HMAP.out _ _ rfl (Maps.keyOf_int_mk Tryz.underlying22 HWF.out) ?_;intro cc hcc2;rw [HAT] at hcc2;injection hcc2 with hcc2;injection hcc2 with hcc2;subst hcc2) | (at_builtin;(refine wpList_append_run rfl _ _ _ _ rfl _ _ _ rfl rfl HRUN.out ?_)))
         go_roundg (f.len - (k+1))
         case measure => omega
         case rel => exact ⟨k+1,by omega,Nat.le_refl _,by go_num,HN⟩
     · obtain rfl:k=f.len:=by omega
       rw [Fs.take_all f _ (Nat.le_refl _)] at hown1 hown2 hcl1 hcl2 ⊢
       have h1:=Nat.le_trans (fpick_count tags true f) HL.out
       have h2:=Nat.le_trans (fpick_count tags false f) HL.out
       have hs1:=own_slT hown1 hcl1
       have hs2:=own_slT hown2 hcl2
       have HC1:Hid (Calls Tryz.prog 49 #[.slice A1 (fpick tags true f).len c1] wr (FCloneEnd wr (fpick tags true f))):=clone_of _ _ _ _ hs1 h1
       have HC2:Hid (∀ x:World,Below wr.heap.size wr x→Calls Tryz.prog 49 #[.slice B1 (fpick tags false f).len d1] x (FCloneEnd x (fpick tags false f))):=fun x hx => clone_of _ _ _ _ (hs2.below hx) h2
       have HE:Hid (∀ (A B:Option Addr) (c d:Nat) (w':World),SlV w' (w.heap.size≤·) (.slice A (fpick tags true f).len c) (fpick tags true f)→SlV w' (w.heap.size≤·) (.slice B (fpick tags false f).len d) (fpick tags false f)→Below w.heap.size w w' →
        SplitEnd w tags f (.returned (.tuple #[.slice A (fpick tags true f).len c,.slice B (fpick tags false f).len d])) w'):=fun A B c d w' a b cc => ⟨A,B,c,d,rfl,a,b,cc⟩
       have HB:=Lib.hid hb
       clear hown1 hown2 hcl1 hcl2 hne hn1 hn2 hmap hb hs1 hs2 HS
       generalize fpick tags true f=F1 at *
       generalize fpick tags false f=F2 at *
       go_wp2_with fail
       refine HC1.out.mono ?_
       intro e w3 h3
       obtain ⟨A3,c3,rfl,hs3,hb3⟩:=clone_new h3
       have HS3:=Lib.hid hs3
       have HB3:=Lib.hid hb3
       clear h3 hs3 hb3
       go_wp2_with fail
       refine (HC2.out _ HB3.out).mono ?_
       intro e w4 h4
       obtain ⟨A4,c4,rfl,hs4,hb4⟩:=clone_new h4
       have HS4:Hid (SplitEnd w tags f (.returned (.tuple #[.slice A3 F1.len c3,.slice A4 F2.len c4])) w4):=by
        have hw:=HB.out.size
        have hw3:=HB3.out.size
        refine HE.out _ _ _ _ _ ((HS3.out.below hb4).imp fun q hq => ?_) (hs4.imp fun q hq => ?_) (bb (bb HB.out HB3.out) hb4)
        · exact Nat.le_trans hw hq
        · exact Nat.le_trans (Nat.le_trans hw hw3) hq
       clear h4 hs4 hb4
       go_wp2_with fail
       go_ret2
       exact HS4.out
end Go.Proofs.YtgidfnhfgiehjaaGreatDoor
end

section
namespace Go.Proofs.YtgidfnhfgiehjaaGreatDoor
open Go.RowKit Go.PM
theorem fpick_all {P:Nat→Int→Nat→ByteArray→Prop} (tags:List Nat) (yes:Bool):∀ {f:Fs},f.All P→(fpick tags yes f).All P
 | .nil,_ => trivial
 | .cons t y n s i r,h => by
   rw [fpick]
   split
   · exact ⟨h.1,h.2.1,fpick_all tags yes h.2.2⟩
   · exact fpick_all tags yes h.2.2
theorem fpick_checkP (tags:List Nat) (yes:Bool):∀ {f:Fs} {a w:Nat},fcheckP f a w→fcheckP (fpick tags yes f) a w
 | .nil,_,_,_ => trivial
 | .cons t y n s i r,a,w,h => by
   rw [fpick]
   split
   · exact ⟨h.1,fpick_checkP tags yes h.2⟩
   · exact fcheckP_mono (by have:=h.1.1;omega) (fpick_checkP tags yes h.2)
theorem fpick_toL (tags:List Nat) (yes:Bool):∀ f:Fs,(fpick tags yes f).toL=f.toL.filter fun x => decide (x.tag ∈ tags) == yes
 | .nil => rfl
 | .cons t y n s i r => by
   rw [fpick,Fs.toL,List.filter_cons]
   by_cases h:decide (t ∈ tags)=yes
   · rw [if_pos h,Fs.toL,fpick_toL tags yes r,if_pos (by simpa using h)]
   · rw [if_neg h,fpick_toL tags yes r,if_neg (by simpa using h)]
theorem check_rise:∀ {f:Fs} {a w:Nat},fcheckP f a w→f.toL.Pairwise (fun x y => x.tag < y.tag)∧∀ x ∈ f.toL,a < x.tag
 | .nil,_,_,_ => ⟨List.Pairwise.nil,fun x hx => by cases hx⟩
 | .cons t y n s i r,a,w,h => by
   obtain ⟨h1,h2⟩:=check_rise h.2
   have h3:=h.1.1
   rw [Fs.toL]
   refine ⟨List.pairwise_cons.2 ⟨fun x hx => h2 x hx,h1⟩,fun x hx => ?_⟩
   rcases List.mem_cons.1 hx with rfl | hx
   · exact h3
   · exact Nat.lt_trans h3 (h2 x hx)
theorem fmerge_two {p q:Fs} (hp:fcheck p 0 0=0) (hq:fcheck q 0 0=0):fmerge [p,q]=fmrg (p.app q):=by
 have e:fbad [p,q]=0:=by
  rw [fbad,if_neg (by simpa using hp),fbad,if_neg (by simpa using hq)]
  rfl
 unfold fmerge
 rw [e,if_neg (by simp),fcat,fcat,fcat,Fs.app_nil]
end Go.Proofs.YtgidfnhfgiehjaaGreatDoor
end

section
namespace Go.PM
open Go.RowKit
def lft (s:ByteArray) (k:Nat):List UInt8:=s.data.toList.drop k
theorem lft_length (s:ByteArray) (k:Nat):(lft s k).length=s.size - k:=by unfold lft;rw [List.length_drop,len_list]
theorem lft_drop (s:ByteArray) (k m:Nat):(lft s k).drop m=lft s (k+m):=by unfold lft;rw [List.drop_drop]
theorem lft_take (s:ByteArray) (k m:Nat):(s.extract k (k+m)).data.toList=(lft s k).take m:=by unfold lft;rw [ext_list];congr 1;omega
end Go.PM
namespace Go.Proofs.YtgidfnhfgiehjaaGreatDoor
open Go.RowKit Go.PM
set_option maxRecDepth 100000
set_option maxHeartbeats 1500000
attribute [local go_sem ↓] Go.wp_at_zero Go.wp_at_succ
def Rdr (w:World) (rb cb d a:Nat):Prop:=BlkAt w rb 151 #[.pointer (some ⟨cb,0,none⟩),.int .i64 (d:Int),.int .u64 (a:Int)]
def FBx (w:World) (fb t:Nat) (y:Int) (n:Nat) (x:ByteArray) (v:Value):Prop:=BlkAt w fb 47 #[.int .u64 (t:Int),.int .i64 y,.int .u64 (n:Int),.string x,v]
theorem Rdr.grown {w w':World} {rb cb d a:Nat} {s:ByteArray} {k:Nat} (h:Rdr w rb cb d a) (hc:Cur w cb s k) (hg:w.grownBy w' (some cb)):Rdr w' rb cb d a:=BlkAt.step h hg (by intro e;injection e with e;exact absurd e (BlkAt.apart h hc.1 (by decide)))
theorem FBx.grown {w w':World} {fb cb t n:Nat} {y:Int} {x:ByteArray} {v:Value} {s:ByteArray} {k:Nat} (h:FBx w fb t y n x v) (hc:Cur w cb s k) (hg:w.grownBy w' (some cb)):FBx w' fb t y n x v:=BlkAt.step h hg (by intro e;injection e with e;exact absurd e (BlkAt.apart h hc.1 (by decide)))
def S2 (cb fb:Nat) (j:Nat):Prop:=j=cb∨j=fb
def NumEnd (w:World) (rb cb fb d a t:Nat) (y:Int) (x:ByteArray) (v:Value) (s:ByteArray) (k:Nat) (e:Ending) (w':World):Prop :=
 e=.returned (.int .i64 ((vget (lft s k)).2.2:Int))∧Cur w' cb s (k+(vget (lft s k)).2.1)∧FBx w' fb t y (vget (lft s k)).1 x v∧Rdr w' rb cb d a∧Tch (S2 cb fb) w w'
theorem num_any (rb cb fb d a t n:Nat) (y:Int) (x:ByteArray) (v:Value) (s:ByteArray) (k:Nat) (w:World) (hr:Rdr w rb cb d a) (hc:Cur w cb s k) (hf:FBx w fb t y n x v) :
 Calls Tryz.prog 175 #[.pointer (some ⟨rb,0,none⟩),.pointer (some ⟨fb,0,none⟩)] w (NumEnd w rb cb fb d a t y x v s k):=by
 have HR:=Lib.hid hr
 have HC:=Lib.hid hc
 have HF:=Lib.hid hf
 have r0:=hr.cell 0
 simp at r0
 clear hr hc hf
 go_enter Tryz.func175,Tryz.ntmps175
 go_wp2_with fail
 refine (next_any cb s k _ HC.out).mono ?_
 rintro e w1 ⟨rfl,hc1,hg⟩
 have hr1:=HR.out.grown HC.out hg
 have hf1:=HF.out.grown HC.out hg
 have r0:=hr1.cell 0
 have r1:=hr1.cell 1
 have r2:=hr1.cell 2
 have x0:=hf1.cell 0
 have x1:=hf1.cell 1
 have x2:=hf1.cell 2
 have x3:=hf1.cell 3
 have x4:=hf1.cell 4
 have y2:=hf1.free 2
 have y3:=hf1.free 3
 have y4:=hf1.free 4
 simp at r0 r1 r2 x0 x1 x2 x3 x4
 have HR1:=Lib.hid hr1
 have HF1:=Lib.hid hf1
 have HC1:=Lib.hid hc1
 have HG:=Lib.hid hg
 have HE:Hid (NumEnd w rb cb fb d a t y x v s k (.returned (.int .i64 ((vget (lft s k)).2.2:Int))) (w1.setCell ⟨fb,2,none⟩ (.int .u64 ((vget (lft s k)).1:Int)))):=by
  have hne1:rb≠fb:=BlkAt.apart hr1 hf1 (by decide)
  have hne2:cb≠fb:=BlkAt.apart hc1.1 hf1 (by decide)
  refine ⟨rfl,⟨hc1.1.far (p:=⟨fb,2,none⟩) hne2 _,hc1.2⟩,?_,BlkAt.far (p:=⟨fb,2,none⟩) hr1 hne1 _,?_⟩
  · have:=BlkAt.put hf1 2 (.int .u64 ((vget (lft s k)).1:Int))
    exact this
  · exact (Tch.grown (S:=S2 cb fb) hg (fun g e _ => by injection e with e;exact .inl e.symm)).put (p:=⟨fb,2,none⟩) (fun _ => .inr rfl) _
 unfold lft at HE
 generalize (vget (s.data.toList.drop k)).1=V at *
 generalize (vget (s.data.toList.drop k)).2.2=G at *
 clear hr1 hf1 hc1 hg
 go_wp2_with fail
 go_ret
 exact HE.out
def TextEnd (w:World) (rb cb fb d a t:Nat) (y:Int) (n:Nat) (v:Value) (s:ByteArray) (k:Nat) (e:Ending) (w':World):Prop :=
 ∃ (g k':Nat),e=.returned (.int .i64 (g:Int))∧Tch (S2 cb fb) w w'∧Cur w' cb s k' ∧
  (if (vget (lft s k)).2.2≠0 then g=(vget (lft s k)).2.2 else if s.size - (k+(vget (lft s k)).2.1) < (vget (lft s k)).1 then g=1
   else g=0∧k'=k+(vget (lft s k)).2.1+(vget (lft s k)).1∧Rdr w' rb cb d a∧FBx w' fb t y n (txt ((lft s (k+(vget (lft s k)).2.1)).take (vget (lft s k)).1)) v)
theorem text_any (rb cb fb d a t n:Nat) (y:Int) (x:ByteArray) (v:Value) (s:ByteArray) (k:Nat) (w:World) (hr:Rdr w rb cb d a) (hc:Cur w cb s k) (hf:FBx w fb t y n x v) :
 Calls Tryz.prog 176 #[.pointer (some ⟨rb,0,none⟩),.pointer (some ⟨fb,0,none⟩)] w (TextEnd w rb cb fb d a t y n v s k):=by
 have HR:=Lib.hid hr
 have HC:=Lib.hid hc
 have HF:=Lib.hid hf
 have r0:=hr.cell 0
 simp at r0
 clear hr hc hf
 go_enter Tryz.func176,Tryz.ntmps176
 go_wp2_with fail
 refine (next_any cb s k _ HC.out).mono ?_
 rintro e w1 ⟨rfl,hc1,hg⟩
 have hr1:=HR.out.grown HC.out hg
 have hf1:=HF.out.grown HC.out hg
 have ht1:Tch (S2 cb fb) w w1:=Tch.grown hg (fun g e _ => by injection e with e;exact .inl e.symm)
 rw [show s.data.toList.drop k=lft s k from rfl] at hc1 ⊢
 have r0:=hr1.cell 0
 have r1:=hr1.cell 1
 have r2:=hr1.cell 2
 have x0:=hf1.cell 0
 have x1:=hf1.cell 1
 have x2:=hf1.cell 2
 have x3:=hf1.cell 3
 have x4:=hf1.cell 4
 have y2:=hf1.free 2
 have y3:=hf1.free 3
 have y4:=hf1.free 4
 simp at r0 r1 r2 x0 x1 x2 x3 x4
 by_cases hv:(vget (lft s k)).2.2=0
 · obtain ⟨v1,v2,v3,v4,v5⟩:=vget_ok hv
   rw [lft_length] at v2
   have hz:=hc1.2.2
   by_cases hbig:s.size - (k+(vget (lft s k)).2.1) < (vget (lft s k)).1
   · have HE:Hid (∀ w',Below w1.heap.size w1 w'→TextEnd w rb cb fb d a t y n v s k (.returned (.int .i64 1)) w'):=fun w' hb => ⟨1,_,rfl,ht1.bel hb,⟨hc1.1.below hb hc1.1.lt,hc1.2⟩,by rw [if_neg (by omega),if_pos hbig]⟩
     have htk:=cur_take_no cb s _ ((vget (lft s k)).1:Int) w1 hc1 (by omega) (by omega)
     have HTK:=Lib.hid htk
     rw [hv]
     clear htk hv v1 v2 v3 v4 v5 hr1 hf1 hc1 hg ht1 hbig hz
     generalize (vget (lft s k)).1=V at *
     generalize (vget (lft s k)).2.1=M at *
     go_wp2_with fail
     refine HTK.out.mono ?_
     rintro e w2 ⟨rfl,hb2⟩
     go_wp2_with fail
     go_ret
     exact HE.out _ hb2
   · have htk:=cur_take_yes cb s _ ((vget (lft s k)).1:Int) w1 hc1 (by omega) (by omega)
     rw [Int.toNat_natCast,show s.extract (k+(vget (lft s k)).2.1) (k+(vget (lft s k)).2.1+(vget (lft s k)).1)=txt ((lft s (k+(vget (lft s k)).2.1)).take (vget (lft s k)).1) from txt_eq (lft_take s _ _)] at htk
     have HTK:=Lib.hid htk
     have HE:Hid (∀ w2,Cur w2 cb s (k+(vget (lft s k)).2.1+(vget (lft s k)).1)→w1.grownBy w2 (some cb)→TextEnd w rb cb fb d a t y n v s k (.returned (.int .i64 0)) (w2.setCell ⟨fb,3,none⟩ (.string (txt ((lft s (k+(vget (lft s k)).2.1)).take (vget (lft s k)).1))))):=fun w2 hc2 hg2 => by
      have hr2:=hr1.grown hc1 hg2
      have hf2:=hf1.grown hc1 hg2
      have hne1:rb≠fb:=BlkAt.apart hr2 hf2 (by decide)
      have hne2:cb≠fb:=BlkAt.apart hc2.1 hf2 (by decide)
      have ht2:Tch (S2 cb fb) w w2:=ht1.trans (Tch.grown (S:=S2 cb fb) hg2 (fun g e _ => by injection e with e;exact .inl e.symm)) fun _ _ h => h
      refine ⟨0,_,rfl,ht2.put (p:=⟨fb,3,none⟩) (fun _ => .inr rfl) _,⟨hc2.1.far (p:=⟨fb,3,none⟩) hne2 _,hc2.2⟩,?_⟩
      rw [if_neg (by omega),if_neg hbig]
      exact ⟨rfl,rfl,BlkAt.far (p:=⟨fb,3,none⟩) hr2 hne1 _,BlkAt.put hf2 3 _⟩
     have HX:Hid (∀ w2,w1.grownBy w2 (some cb)→w2.cell? ⟨fb,3,none⟩=some (.string x)∧w2.frozen? ⟨fb,3,none⟩=false):=fun w2 hg2 => by
      have hf2:=hf1.grown hc1 hg2
      have e3:=hf2.cell 3
      simp at e3
      exact ⟨e3,hf2.free 3⟩
     rw [hv]
     clear htk hv v1 v2 v3 v4 v5 hr1 hf1 hc1 hg ht1 hbig hz
     generalize txt ((lft s (k+(vget (lft s k)).2.1)).take (vget (lft s k)).1)=Z at *
     generalize (vget (lft s k)).1=V at *
     generalize (vget (lft s k)).2.1=M at *
     go_wp2_with fail
     refine HTK.out.mono ?_
     rintro e w2 ⟨rfl,hc2,hg2⟩
     obtain ⟨z3,z4⟩:=HX.out w2 hg2
     have HE2:=Lib.hid (HE.out w2 hc2 hg2)
     clear hc2 hg2
     go_wp2_with fail
     go_ret
     exact HE2.out
 · have HE:Hid (TextEnd w rb cb fb d a t y n v s k (.returned (.int .i64 ((vget (lft s k)).2.2:Int))) w1):=⟨_,_,rfl,ht1,hc1,by rw [if_pos hv]⟩
   generalize (vget (lft s k)).2.2=G at *
   generalize (vget (lft s k)).1=V at *
   have hgi:((G:Int) != 0)=true:=by rw [bne_iff_ne];omega
   clear hr1 hf1 hc1 hg ht1 hv
   go_wp2_with fail
   go_ret
   exact HE.out
end Go.Proofs.YtgidfnhfgiehjaaGreatDoor
end
