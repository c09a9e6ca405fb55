/-
  Texts of the proof, joined: Utf RefUtf RefUtf2 UtfLaw FldLaw Pick2 Wire Wire2. Conditions: as each names.
-/
import Derived.Test.YtgidfnhfgiehjaaGreatDoorXTopRejectsai
import Derived.Test.YtgidfnhfgiehjaaGreatDoorXTopRejectsaf
import Derived.Lib.Bits
import Derived.Test.YtgidfnhfgiehjaaGreatDoorXTopRejectsag

section
namespace Go.Proofs.YtgidfnhfgiehjaaGreatDoor
open Go.RowKit Go.PM
set_option maxRecDepth 100000
set_option maxHeartbeats 1000000
def Tabs (w:World):Prop:=Lib.Utf8Tabs (Tryz.lays196_ren.g 3) (Tryz.lays196_ren.g 4) w
theorem Tabs.below {w w':World} (h:Tabs w) (hb:Below w.heap.size w w'):Tabs w':=by
 refine ⟨fun c hc => ?_,fun i hi => ?_⟩
 · have:=h.1 c hc
   exact (hb.cell (p:=⟨_,c,none⟩) (World.block_lt_of_cell? w _ this)).trans this
 · have h1:=(h.2 i hi).1
   have h2:=(h.2 i hi).2
   exact ⟨(hb.cell (p:=⟨_,2 * i,none⟩) (World.block_lt_of_cell? w _ h1)).trans h1,(hb.cell (p:=⟨_,2 * i+1,none⟩) (World.block_lt_of_cell? w _ h2)).trans h2⟩
theorem good_any (s:ByteArray) (w:World) (hs:s.size≤9223372036854775807) (hT:Tabs w) :
 Calls Tryz.prog 178 #[.string s] w fun e w' => e=.returned (.bool (ugood s.data.toList))∧Below w.heap.size w w':=by
 have HV:Hid (Calls Tryz.prog 216 #[.string s] w fun e w' => e=.returned (.bool (ugood s.data.toList))∧Below w.heap.size w w'):=by
  show Calls _ _ _ _ _
  have:=Any.utf8_ValidString Tryz.lays196 s w hs hT
  rw [valid_good] at this
  exact this
 generalize ugood s.data.toList=g at HV ⊢
 clear hT
 go_enter Tryz.func178,Tryz.ntmps178
 go_wp2_with fail
 refine HV.out.mono ?_
 rintro e w1 ⟨rfl,hb⟩
 go_wp2
 go_ret
 exact ⟨rfl,hb⟩
def uchk (l:List UInt8) (least most:Int):Int:=if (l.length:Int) < least∨most < l.length then 13 else if ugood l then 0 else 11
theorem ucheck_any (s:ByteArray) (least most:Int) (w:World) (hs:s.size≤9223372036854775807) (hT:Tabs w) :
 Calls Tryz.prog 141 #[.string s,.int .i64 least,.int .i64 most] w fun e w' => e=.returned (.int .i64 (uchk s.data.toList least most))∧Below w.heap.size w w':=by
 unfold uchk
 rw [len_list]
 have HG:Hid (Calls Tryz.prog 178 #[.string s] w fun e w' => e=.returned (.bool (ugood s.data.toList))∧Below w.heap.size w w'):=good_any s w hs hT
 clear hT
 by_cases h1:(s.size:Int) < least
 · rw [if_pos (.inl h1)]
   go_enter Tryz.func141,Tryz.ntmps141
   go_wp2
   go_ret
   exact ⟨rfl,b0⟩
 · by_cases h2:most < (s.size:Int)
   · rw [if_pos (.inr h2)]
     go_enter Tryz.func141,Tryz.ntmps141
     go_wp2
     go_ret
     exact ⟨rfl,b0⟩
   · rw [if_neg (by omega)]
     cases hg:ugood s.data.toList with
     | true =>
       rw [hg] at HG
       clear hg
       go_enter Tryz.func141,Tryz.ntmps141
       go_wp2_with fail
       refine HG.out.mono ?_
       rintro e w1 ⟨rfl,hb⟩
       go_wp2
       go_ret
       exact ⟨rfl,hb⟩
     | false =>
       rw [hg] at HG
       clear hg
       go_enter Tryz.func141,Tryz.ntmps141
       go_wp2_with fail
       refine HG.out.mono ?_
       rintro e w1 ⟨rfl,hb⟩
       go_wp2
       go_ret
       exact ⟨rfl,hb⟩
/-! ### The document's answer -/
def ub:Nat→Nat
 | 1 => 31
 | 2 => 2047
 | 3 => 131071
 | _ => 8388607
theorem ub_step {k m d:Nat} (h1:1≤k) (h2:k < 4) (hm:m≤ub k) (hd:d < 64):64 * m+d≤ub (k+1):=by
 match k,h1,h2,hm with
 | 1,_,_,hm => simp [ub] at hm ⊢;omega
 | 2,_,_,hm => simp [ub] at hm ⊢;omega
 | 3,_,_,hm => simp [ub] at hm ⊢;omega
def Ua (l:List UInt8) (size n0 k m:Nat):Prop:=1≤k∧k≤size∧m≤ub k∧uacc m (size - k) (l.drop k)=uacc n0 (size - 1) (l.drop 1)
theorem Ua.next {l:List UInt8} {size n0 k m:Nat} (h:Ua l size n0 k m) (hs:size≤4) (hk:k < size) (hl:k < l.length) (hc:ucont l[k]=true):Ua l size n0 (k+1) (64 * m+(l[k].toNat - 128)):=by
 refine ⟨by omega,by omega,ub_step h.1 (by omega) h.2.2.1 ?_,?_⟩
 · unfold ucont at hc
   simp at hc
   omega
 · rw [← h.2.2.2,show size - k=(size - k - 1)+1 by omega,List.drop_eq_getElem_cons hl,uacc,if_pos hc,show size - (k+1)=size - k - 1 by omega]
theorem Ua.end_ {l:List UInt8} {size n0 m:Nat} (h:Ua l size n0 size m):uacc n0 (size - 1) (l.drop 1)=some m:=by
 rw [← h.2.2.2,Nat.sub_self]
 cases l.drop size <;> rfl
end Go.Proofs.YtgidfnhfgiehjaaGreatDoor
end

section
namespace Go.Proofs.YtgidfnhfgiehjaaGreatDoor
open Go.RowKit Go.PM
set_option maxRecDepth 100000
set_option maxHeartbeats 1000000
end Go.Proofs.YtgidfnhfgiehjaaGreatDoor
end

section
namespace Go.Proofs.YtgidfnhfgiehjaaGreatDoor
open Go.RowKit Go.PM
set_option maxRecDepth 100000
set_option maxHeartbeats 1000000
end Go.Proofs.YtgidfnhfgiehjaaGreatDoor
end

section
namespace Go.Proofs.YtgidfnhfgiehjaaGreatDoor
open Go.RowKit Go.PM
set_option maxRecDepth 100000
set_option maxHeartbeats 1000000
theorem good_no:ugood [192,128]=false:=ugood_zero (by decide) (by decide)
theorem good_yes:ugood [97,0,195,169]=true:=by
 rw [ugood_step (by decide)]
 show ugood [0,195,169]=true
 rw [ugood_step (by decide)]
 show ugood [195,169]=true
 rw [ugood_step (by decide)]
 exact ugood_nil
theorem awake07 (w:World) (hT:Tabs w) :
 Calls Tryz.prog 318 #[] w fun e w' => e=.returned (.bool true)∧Below w.heap.size w w':=by
 have HT:=Lib.hid hT
 clear hT
 go_enter Tryz.func318,Tryz.ntmps318
 go_wp2_with fail
 refine (awakeE06 _).mono ?_
 rintro e w1 ⟨rfl,hb1⟩
 have h1:=good_any ⟨#[192,128]⟩ w1 (by decide) (HT.out.below hb1)
 rw [show (ByteArray.mk #[192,128]).data.toList=[192,128] from rfl,good_no] at h1
 have H1:=Lib.hid h1
 clear h1
 go_wp2_with fail
 refine H1.out.mono ?_
 rintro e w2 ⟨rfl,hb2⟩
 replace hb2:=bb hb1 hb2
 have h2:=good_any ⟨#[97,0,195,169]⟩ w2 (by decide) (HT.out.below hb2)
 rw [show (ByteArray.mk #[97,0,195,169]).data.toList=[97,0,195,169] from rfl,good_yes] at h2
 have H2:=Lib.hid h2
 clear h2 H1
 go_wp2_with fail
 refine H2.out.mono ?_
 rintro e w3 ⟨rfl,hb3⟩
 replace hb3:=bb hb2 hb3
 go_wp2
 go_ret
 exact ⟨rfl,hb3⟩
theorem awakeE07 (w:World) (hT:Tabs w):Calls Tryz.prog 317 #[] w fun e w' => e=.returned (.bool true)∧Below w.heap.size w w':=by
 have H:=Lib.hid (awake07 w hT)
 clear hT
 go_enter Tryz.func317,Tryz.ntmps317
 go_wp2_with fail
 refine H.out.mono ?_
 rintro e w' ⟨rfl,hb⟩
 go_wp2
 go_ret
 exact ⟨rfl,hb⟩
end Go.Proofs.YtgidfnhfgiehjaaGreatDoor
end

section
namespace Go.PM
open Go.RowKit
theorem slv_blk {w:World} {I:Nat→Prop} {g:Nat} {t:TypeId} {cs:Array Value} {f:Fs} {c:Nat} (hb:BlkAt w g t cs) (hc:Cls w I cs.toList f) (hI:I g) (hl:f.len≤c):SlV w I (.slice (some ⟨g,0,none⟩) f.len c) f :=
 ⟨_,c,rfl,hl,.inr ⟨g,0,rfl,hI,hb.lt,hc.at_ (by intro j u hj;rw [Nat.zero_add,hb.cell j,← Array.getElem?_toList];exact hj)⟩⟩
theorem few_ok {l:List One} (h:few l=true):(∀ x ∈ l,x.text.size≤300)∧l.length≤60:=by
 unfold few at h
 rw [Bool.and_eq_true,List.all_eq_true] at h
 exact ⟨fun x hx => by simpa using h.1 x hx,by simpa using h.2⟩
def fnum (t n:Nat) (r:Fs):Fs:=.cons t 0 n ByteArray.empty .nil r
end Go.PM
namespace Go.Proofs.YtgidfnhfgiehjaaGreatDoor
open Go.RowKit Go.PM
set_option maxRecDepth 100000
set_option maxHeartbeats 4000000
theorem ofnum_any (t n:Nat) (w:World) :
 Calls Tryz.prog 87 #[.int .u64 (t:Int),.int .u64 (n:Int)] w fun e w' => e=.returned (.agg #[.int .u64 (t:Int),.int .i64 0,.int .u64 (n:Int),.string ByteArray.empty,.slice none 0 0])∧Below w.heap.size w w':=by
 go_enter Tryz.func87,Tryz.ntmps87
 go_wp2
 exact bodyPost_ret (v:=.agg #[.int .u64 (t:Int),.int .i64 0,.int .u64 (n:Int),.string ByteArray.empty,.slice none 0 0]) (by simp [results,Tryz.results87,go_sem];try rfl) rfl ⟨rfl,ba b0 _⟩
theorem two_nums (a b:Nat) (w:World):SlV (w.alloc (.cells #[.int .u64 (a:Int),.int .i64 0,.int .u64 0,.string ByteArray.empty,.slice none 0 0,.int .u64 (b:Int),.int .i64 0,.int .u64 0,.string ByteArray.empty,.slice none 0 0] 47)) (fun _ => True) (.slice (some ⟨w.heap.size,0,none⟩) 2 2) (fnum a 0 (fnum b 0 .nil)):=by
 have hb:=BlkAt.made w 47 #[.int .u64 (a:Int),.int .i64 0,.int .u64 0,.string ByteArray.empty,.slice none 0 0,.int .u64 (b:Int),.int .i64 0,.int .u64 0,.string ByteArray.empty,.slice none 0 0]
 exact slv_blk (f:=fnum a 0 (fnum b 0 .nil)) hb ⟨rfl,rfl,rfl,rfl,SlV.nil _ _ _ _,rfl,rfl,rfl,rfl,SlV.nil _ _ _ _,trivial⟩ trivial (Nat.le_refl 2)
theorem awake08 (w:World) (hT:Tabs w) :
 Calls Tryz.prog 316 #[] w fun e w' => e=.returned (.bool true)∧Below w.heap.size w w':=by
 have HT:=Lib.hid (awakeE07 w hT)
 have H1:Hid (∀ W:World,Calls Tryz.prog 46 #[.slice (some ⟨W.heap.size,0,none⟩) 2 2] (W.alloc (.cells #[.int .u64 2,.int .i64 0,.int .u64 0,.string ByteArray.empty,.slice none 0 0,.int .u64 1,.int .i64 0,.int .u64 0,.string ByteArray.empty,.slice none 0 0] 47)) fun e w' => e=.returned (.int .i64 7)∧Below (W.heap.size+1) (W.alloc (.cells #[.int .u64 2,.int .i64 0,.int .u64 0,.string ByteArray.empty,.slice none 0 0,.int .u64 1,.int .i64 0,.int .u64 0,.string ByteArray.empty,.slice none 0 0] 47)) w'):=fun W => by
  have:=check_of _ _ _ _ (two_nums 2 1 W) ⟨⟨by unfold In64;omega,by unfold InI64;omega,by unfold In64;omega,by decide⟩,trivial,⟨by unfold In64;omega,by unfold InI64;omega,by unfold In64;omega,by decide⟩,trivial,trivial⟩ (by decide)
  rw [show fcheck (fnum 2 0 (fnum 1 0 .nil)) 0 0=7 by decide] at this
  refine this.mono fun e w' h => ?_
  rw [World.size_alloc] at h
  exact h
 have H2:Hid (∀ W:World,Calls Tryz.prog 46 #[.slice (some ⟨W.heap.size,0,none⟩) 2 2] (W.alloc (.cells #[.int .u64 1,.int .i64 0,.int .u64 0,.string ByteArray.empty,.slice none 0 0,.int .u64 2,.int .i64 0,.int .u64 0,.string ByteArray.empty,.slice none 0 0] 47)) fun e w' => e=.returned (.int .i64 0)∧Below (W.heap.size+1) (W.alloc (.cells #[.int .u64 1,.int .i64 0,.int .u64 0,.string ByteArray.empty,.slice none 0 0,.int .u64 2,.int .i64 0,.int .u64 0,.string ByteArray.empty,.slice none 0 0] 47)) w'):=fun W => by
  have:=check_of _ _ _ _ (two_nums 1 2 W) ⟨⟨by unfold In64;omega,by unfold InI64;omega,by unfold In64;omega,by decide⟩,trivial,⟨by unfold In64;omega,by unfold InI64;omega,by unfold In64;omega,by decide⟩,trivial,trivial⟩ (by decide)
  rw [show fcheck (fnum 1 0 (fnum 2 0 .nil)) 0 0=0 by decide] at this
  refine this.mono fun e w' h => ?_
  rw [World.size_alloc] at h
  exact h
 have hb1:Below w.heap.size w w:=b0
 clear hT
 go_enter Tryz.func316,Tryz.ntmps316
 go_wp2_with fail
 refine (HT.out).mono ?_
 rintro e w1 ⟨rfl,hb2⟩
 replace hb1:=bb hb1 hb2
 clear hb2
 go_wp2_with fail
 refine (ofnum_any 2 0 _).mono ?_
 rintro e w2 ⟨rfl,hb2⟩
 replace hb1:=bb hb1 hb2
 clear hb2
 go_wp2_with fail
 refine (ofnum_any 1 0 _).mono ?_
 rintro e w3 ⟨rfl,hb2⟩
 replace hb1:=bb hb1 hb2
 clear hb2
 go_wp2_with fail
 refine (H1.out _).mono ?_
 rintro e w4 ⟨rfl,hb2⟩
 replace hb1:=bb hb1 (bb (ba b0 _) (by rw [World.size_alloc];exact hb2))
 clear hb2
 go_wp2_with fail
 refine (ofnum_any 1 0 _).mono ?_
 rintro e w5 ⟨rfl,hb2⟩
 replace hb1:=bb hb1 hb2
 clear hb2
 go_wp2_with fail
 refine (ofnum_any 2 0 _).mono ?_
 rintro e w6 ⟨rfl,hb2⟩
 replace hb1:=bb hb1 hb2
 clear hb2
 go_wp2_with fail
 refine (H2.out _).mono ?_
 rintro e w7 ⟨rfl,hb2⟩
 replace hb1:=bb hb1 (bb (ba b0 _) (by rw [World.size_alloc];exact hb2))
 clear hb2
 go_wp2
 go_ret
 exact ⟨rfl,hb1⟩
theorem awakeE08 (w:World) (hT:Tabs w):Calls Tryz.prog 315 #[] w fun e w' => e=.returned (.bool true)∧Below w.heap.size w w':=by
 have H:=Lib.hid (awake08 w hT)
 clear hT
 go_enter Tryz.func315,Tryz.ntmps315
 go_wp2_with fail
 refine H.out.mono ?_
 rintro e w' ⟨rfl,hb⟩
 go_wp2
 go_ret
 exact ⟨rfl,hb⟩
end Go.Proofs.YtgidfnhfgiehjaaGreatDoor
end

section
namespace Go.Proofs.YtgidfnhfgiehjaaGreatDoor
open Go.RowKit Go.PM Go.Sort
set_option maxRecDepth 100000
set_option maxHeartbeats 2000000
attribute [local go_sem ↓] Go.wp_at_zero Go.wp_at_succ
def LsV (w:World) (I:Nat→Prop):List Value→List Fs→Prop
 | [],[] => True
 | v :: vs,f :: fs => SlV w I v f∧LsV w I vs fs
 | _,_ => False
theorem LsV.len {w:World} {I:Nat→Prop}:∀ {vs:List Value} {fs:List Fs},LsV w I vs fs→vs.length=fs.length
 | [],[],_ => rfl
 | _ :: _,_ :: _,h => by rw [List.length_cons,List.length_cons,LsV.len h.2]
 | [],_ :: _,h => h.elim
 | _ :: _,[],h => h.elim
theorem LsV.at_ {w:World} {I:Nat→Prop}:∀ {vs:List Value} {fs:List Fs} (k:Nat) (hv:k < vs.length) (hf:k < fs.length),LsV w I vs fs→SlV w I vs[k] fs[k]
 | _ :: _,_ :: _,0,_,_,h => h.1
 | _ :: vs,_ :: fs,k+1,hv,hf,h => by simpa using LsV.at_ k (by simpa using hv) (by simpa using hf) h.2
 | [],_ :: _,_,_,_,h => h.elim
 | _ :: _,[],_,_,_,h => h.elim
 | [],[],_,hv,_,_ => by simp at hv
theorem LsV.map {w w':World} {I J:Nat→Prop} (hs:∀ v f,SlV w I v f→SlV w' J v f):∀ {vs:List Value} {fs:List Fs},LsV w I vs fs→LsV w' J vs fs
 | [],[],_ => trivial
 | _ :: _,_ :: _,h => ⟨hs _ _ h.1,LsV.map hs h.2⟩
 | [],_ :: _,h => h.elim
 | _ :: _,[],h => h.elim
theorem LsV.below {w w':World} {I:Nat→Prop} {vs:List Value} {fs:List Fs} (h:LsV w I vs fs) (hb:Below w.heap.size w w'):LsV w' I vs fs:=h.map fun _ _ k => k.below hb
theorem LsV.lt {w:World} {I:Nat→Prop} {vs:List Value} {fs:List Fs} (h:LsV w I vs fs):LsV w (fun k => I k∧k < w.heap.size) vs fs:=h.map fun _ _ k => k.lt
theorem fcat_snoc (g:Fs):∀ l:List Fs,fcat (l++[g])=(fcat l).app g
 | [] => by rw [List.nil_append,fcat,fcat,fcat,Fs.app_nil];rfl
 | f :: r => by rw [List.cons_append,fcat,fcat_snoc g r,fcat,Fs.app_assoc]
theorem fcat_app:∀ l m:List Fs,fcat (l++m)=(fcat l).app (fcat m)
 | [],m => rfl
 | f :: r,m => by rw [List.cons_append,fcat,fcat_app r m,fcat,Fs.app_assoc]
theorem fbad_cons (f:Fs) (r:List Fs):fbad (f :: r)=if fcheck f 0 0≠0 then fcheck f 0 0 else fbad r:=rfl
theorem fbad_snoc (g:Fs):∀ l:List Fs,fbad (l++[g])=if fbad l≠0 then fbad l else fcheck g 0 0
 | [] => by
   have e:fbad []=0:=rfl
   rw [List.nil_append,fbad_cons,e]
   by_cases h:fcheck g 0 0=0 <;> simp [h]
 | f :: r => by
   rw [List.cons_append,fbad_cons,fbad_cons,fbad_snoc g r]
   by_cases h:fcheck f 0 0=0 <;> simp [h]
theorem fbad_app (m:List Fs):∀ l:List Fs,fbad l≠0→fbad (l++m)=fbad l
 | [],h => absurd rfl h
 | f :: r,h => by
   rw [List.cons_append,fbad,fbad]
   by_cases hf:fcheck f 0 0=0
   · rw [fbad,if_neg (by simpa using hf)] at h
     rw [if_neg (by simpa using hf),if_neg (by simpa using hf),fbad_app m r h]
   · rw [if_pos hf,if_pos hf]
theorem fbad_at {l:List Fs} {k:Nat} (hk:k < l.length) (h0:fbad (l.take k)=0) (h1:fcheck l[k] 0 0≠0):fbad l=fcheck l[k] 0 0:=by
 have h2:fbad (l.take k++[l[k]])=fcheck l[k] 0 0:=by rw [fbad_snoc,if_neg (by simpa using h0)]
 rw [List.take_append_getElem] at h2
 have h3:=fbad_app (l.drop (k+1)) (l.take (k+1)) (by rw [h2];exact h1)
 rw [List.take_append_drop,h2] at h3
 exact h3
theorem fcat_count_le (l:List Fs) (k:Nat) (hk:k < l.length):(fcat (l.take k)).count+l[k].count≤(fcat l).count:=by
 have h:fcat l=((fcat (l.take k)).app l[k]).app (fcat (l.drop (k+1))):=by
  rw [← fcat_snoc,List.take_append_getElem,← fcat_app,List.take_append_drop]
 rw [h,Fs.app_count,Fs.app_count]
 omega
theorem fcat_all {P:Nat→Int→Nat→ByteArray→Prop}:∀ {l:List Fs},(∀ f ∈ l,f.All P)→(fcat l).All P
 | [],_ => trivial
 | f :: r,h => Fs.All.app (h f (by simp)) (fcat_all fun x hx => h x (by simp [hx]))
theorem toL_drop:∀ {f:Fs} {k:Nat} {t:Nat} {y:Int} {n:Nat} {s:ByteArray} {i r:Fs},f.drop k=.cons t y n s i r→f.toL[k]? = some ⟨t,y,n,s,i⟩
 | f,0,t,y,n,s,i,r,h => by
   have:f=.cons t y n s i r:=by cases f <;> exact h
   rw [this];rfl
 | .cons t' y' n' s' i' r',k+1,t,y,n,s,i,r,h => by
   rw [Fs.toL,List.getElem?_cons_succ]
   exact toL_drop h
 | .nil,_+1,_,_,_,_,_,_,h => by cases h
theorem fsat_tag {w:World} {I:Nat→Prop} {l:List Fl} {b:Nat} (h:FsAt w I (ofL l) b 0) (k:Nat) (hk:k < l.length):w.cell? ⟨b,0+k * 5,none⟩=some (.int .u64 (l[k].tag:Int)):=by
 have hkl:k < (ofL l).len:=by rw [ofL_len];exact hk
 obtain ⟨t,y,n,s,i,hd,_⟩:=(ofL l).drop_cons k hkl
 have h1:=h.drop k
 rw [hd] at h1
 have h2:=toL_drop hd
 rw [toL_ofL,List.getElem?_eq_getElem hk] at h2
 injection h2 with h2
 rw [h2]
 exact h1.1
def MgAt (w:World) (fs:List Fs) (k:Nat) (vv:Value) (wr:World):Prop :=
 ∃ (A:Option Addr) (c:Nat) (xs:List Value),vv=.slice A (fcat (fs.take k)).len c∧wr.ownsRow w.heap.size 47 5 (.slice A (fcat (fs.take k)).len c) (fcat (fs.take k)).len xs∧Cls wr (fun q => q < w.heap.size) xs (fcat (fs.take k))∧Below w.heap.size w wr∧fbad (fs.take k)=0
def MergeEnd (w:World) (r:Fs × Nat) (e:Ending) (w':World):Prop :=
 ∃ (A:Option Addr) (c:Nat),e=.returned (.tuple #[.slice A r.1.len c,.int .i64 (r.2:Int)])∧SlV w' (w.heap.size≤·) (.slice A r.1.len c) r.1∧Below w.heap.size w w'
theorem merge_any (A:Option Addr) (cap:Nat) (fs:List Fs) (vs:List Value) (I:Nat→Prop) (w:World) (hr:Rd w A vs) (hv:LsV w I vs fs) (hk:∀ f ∈ fs,f.All FKd) (hc:(fcat fs).count≤1000000) (hl:fs.length≤1000000) :
 Calls Tryz.prog 45 #[.slice A fs.length cap] w (MergeEnd w (fmerge fs)):=by
 have HR:=Lib.hid hr
 have HV:=Lib.hid hv.lt
 have hvl:=hv.len
 have HK:=Lib.hid hk
 have HC:=Lib.hid hc
 have HL:=Lib.hid hl
 obtain ⟨i0,hi0,hz0,hz1,hz2⟩:=info_parts info_field
 have H0:Hid (MgAt w fs 0 (.slice none 0 0) w):=by
  refine ⟨none,0,[],?_,?_,?_,b0,rfl⟩
  · rfl
  · exact World.ownsRow_nil _ _ _ _
  · exact trivial
 clear hr hv hk
 go_enter Tryz.func45,Tryz.ntmps45
 go_wp2_with fail
 go_loopg [4,11] fs.length (fun gk vv ki wr => ∃ k:Nat,k≤fs.length∧fs.length - k≤gk∧ki=.int .i64 (k:Int)∧Hid (MgAt w fs k vv wr))
 case atStart => exact ⟨0,Nat.zero_le _,by omega,rfl,H0⟩
 case round =>
  obtain ⟨k,hkl,hgk,rfl,HM⟩:=hrel
  obtain ⟨A1,c1,xs,rfl,hown,hcls,hb,hbad⟩:=HM.out
  by_cases hlt:k < fs.length
  · obtain ⟨b,off,rfl,hbl,hcell⟩:=(HR.out.below hb).at_ (k:=k) (by omega)
    have hsk:=HV.out.at_ k (by omega) hlt
    obtain ⟨B,cB,hveq,_⟩:=id hsk
    rw [hveq] at hcell hsk
    have HS:=Lib.hid hsk
    have HOWN:=Lib.hid hown
    have HCLS:=Lib.hid hcls
    have HB:=Lib.hid hb
    have HBAD:=Lib.hid hbad
    have hcnt:=fcat_count_le fs k hlt
    have HKK:=Lib.hid (HK.out _ (List.getElem_mem hlt))
    have HFB:Hid (fbad (fs.take (k+1))=fcheck fs[k] 0 0∧fcat (fs.take (k+1))=(fcat (fs.take k)).app fs[k]):=by
     refine ⟨?_,?_⟩
     · rw [← List.take_append_getElem hlt,fbad_snoc,if_neg (by simpa using hbad)]
     · rw [← List.take_append_getElem hlt,fcat_snoc]
    have HFE:Hid (fcheck fs[k] 0 0≠0→fmerge fs=(.nil,fcheck fs[k] 0 0)):=fun h => by
     have:=fbad_at hlt hbad h
     unfold fmerge
     rw [this,if_pos h]
    have hcC:=HC.out
    generalize fs[k]=g at *
    generalize fcat (fs.take k)=F at *
    have hgc:g.count≤1000000:=by omega
    have hFl:=F.len_count
    have hgl:=g.len_count
    clear hown hcls hb hbad hsk hveq
    have HCK:Hid (∀ x:World,Below wr.heap.size wr x→Calls Tryz.prog 46 #[.slice B g.len cB] x fun e w' => e=.returned (.int .i64 (fcheck g 0 0:Int))∧Below x.heap.size x w'):=fun x hx => check_of _ g _ x ((HS.out.below HB.out).below hx) HKK.out hgc
    go_wp2_with fail
    refine (HCK.out _ b0).mono ?_
    rintro e w2 ⟨rfl,hb2⟩
    have HB2:=Lib.hid hb2
    clear hb2
    by_cases hck:fcheck g 0 0=0
    · have hs2:SlV w2 (fun q => q < w.heap.size) (.slice B g.len cB) g:=((HS.out.below HB.out).below HB2.out).imp fun q hq => hq.2
      have hown2:=own_below HOWN.out HB2.out
      have hcls2:=HCLS.out.below HB2.out
      have hob:∀ q,q < w.heap.size→(Value.slice A1 F.len c1).ownBlock≠some q:=fun q hq hh => by have h1:=(HOWN.out.lt q hh).1;omega
      obtain ⟨A2,c2,w3,xs2,hrun,hown3,hcls3,hgr,_⟩:=fapp_run (P:=Tryz.prog) 33 33 47 i0 Tryz.underlying33 hi0 hz0 hz1 hz2 hown2 hcls2 hob hs2 hob (by omega) (Nat.le_trans HB.out.size HB2.out.size)
      have HRUN:=Lib.hid hrun
      have HN:Hid (MgAt w fs (k+1) (.slice A2 (F.app g).len c2) w3):=by
       have e1:=HFB.out.1
       have e2:=HFB.out.2
       unfold MgAt
       rw [e1,e2]
       refine ⟨A2,c2,xs2,rfl,hown3,hcls3.imp fun q hq => ?_,?_,hck⟩
       · rcases hq.1 with h | h <;> exact h
       · exact (HB.out.trans (HB2.out.mono HB.out.size)).trans (Tch.grown (S:=fun q => (Value.slice A1 F.len c1).ownBlock=some q) hgr (fun q hq _ => hq) |>.toBelowB (Nat.le_trans HB.out.size HB2.out.size) fun q hq hh => by have h1:=(HOWN.out.lt q hh).1;omega)
      have HCK0:=Lib.hid hck
      rw [hck]
      clear hs2 hown2 hcls2 hob hrun hown3 hcls3 hgr hck
      go_wp2_with (at_builtin;(refine wpList_append_run rfl _ _ _ _ rfl _ _ _ rfl rfl HRUN.out ?_))
      go_roundg (fs.length - (k+1))
      case measure => omega
      case rel => exact ⟨k+1,by omega,Nat.le_refl _,by go_num,HN⟩
    · have HE:Hid (∀ w',Below w2.heap.size w2 w'→MergeEnd w (fmerge fs) (.returned (.tuple #[.slice none 0 0,.int .i64 (fcheck g 0 0:Int)])) w'):=fun w' hb => by
       rw [HFE.out hck]
       exact ⟨none,0,rfl,SlV.nil _ _ _ _,bb (bb HB.out HB2.out) hb⟩
      generalize fcheck g 0 0=G at *
      have hgi:((G:Int) != 0)=true:=by rw [bne_iff_ne];omega
      clear hck HFB HFE
      go_wp2_with fail
      go_ret2
      exact HE.out _ b0
  · obtain rfl:k=fs.length:=by omega
    rw [List.take_of_length_le (Nat.le_refl _)] at hown hcls hbad ⊢
    have HFM:Hid (fmerge fs=fmrg (fcat fs)):=by unfold fmerge;rw [hbad];rfl
    have hFl:=Nat.le_trans (fcat fs).len_count HC.out
    have hkdd:=fcat_all HK.out
    have HB:=Lib.hid hb
    have HOWN:=Lib.hid hown
    have HCLS:=Lib.hid hcls
    generalize fcat fs=F at *
    by_cases hz:F.len=0
    · have hF0:=Fs.len_zero hz
      have HSN:Hid (∀ x:World,Calls Tryz.prog 91 #[.slice A1 0 c1,.func (.func 92) #[] #[]] x fun e w' => e=.returned (.tuple #[])∧w'=x):=fun x => AnyF.slices_SortFunc_none Tryz.sortFld A1 c1 (.func (.func 92) #[] #[]) x
      have HCL:Hid (∀ x:World,Calls Tryz.prog 49 #[.slice A1 0 c1] x (FCloneEnd x .nil)):=fun x => clone_of _ .nil (fun _ => True) x (SlV.nil _ _ _ _) (by decide)
      have HE:Hid (∀ (A:Option Addr) (c:Nat) (w':World),Below w.heap.size w w'→MergeEnd w (fmerge fs) (.returned (.tuple #[.slice A 0 c,.int .i64 0])) w'):=fun A c w' hb => by
       have e:fmrg .nil=(.nil,0):=rfl
       rw [HFM.out,hF0,e]
       exact ⟨A,c,rfl,SlV.nil _ _ _ _,hb⟩
      clear hown hcls hb hbad HM HOWN HCLS HFM hkdd hF0
      rw [hz]
      go_wp2_with fail
      refine (HSN.out _).mono ?_
      rintro e w2 ⟨rfl,rfl⟩
      go_wp2_with fail
      go_loopg [8] 0 (fun gk2 vi w3 => vi=.int .i64 1∧w3=w2)
      case atStart => exact ⟨rfl,rfl⟩
      case round =>
       obtain ⟨rfl,rfl⟩:=hrel
       go_wp2_with fail
       refine (HCL.out _).mono ?_
       rintro e w4 ⟨A4,c4,g4,xs4,rfl,_,_,_,_,_,hb4⟩
       have HE4:=Lib.hid (HE.out A4 c4 w4 (bb HB.out hb4))
       clear hb4
       simp only [Fs.len]
       go_wp2_with fail
       go_ret2
       exact HE4.out
    · obtain ⟨g,rfl,hbg⟩:∃ g,A1=some ⟨g,0,none⟩∧w.heap.size≤g:=by
       rcases hown.2 with ⟨_,h0⟩ | ⟨g,cap',cur,hv,hbg,_⟩
       · exact absurd h0 hz
       · injection hv with h1
         exact ⟨g,h1,hbg⟩
      have HST:=Lib.hid (sort_any hown hcls (fun q hq => by omega) hFl)
      have HCC:=Lib.hid HC.out
      have HKK:=Lib.hid hkdd
      clear hown hcls hb hbad HM HOWN HCLS hkdd
      go_wp2_with fail
      refine HST.out.mono ?_
      rintro e w2 ⟨rfl,l,l',xs',hF,hp,hs,hown2,hcls2,hgr⟩
      have hgl:g < w2.heap.size:=(hown2.lt g rfl).2
      have hat:FsAt w2 (fun q => q < w.heap.size) (ofL l') g 0:=Cls.at_ hcls2 fun j u hj => by
       have:=hown2.cells (g:=g) rfl j u hj
       rwa [add_at,← Nat.zero_add j] at this
      have hll:l'.length=F.len:=by rw [hF,ofL_len];exact hp.length_eq.symm
      have hF6:F.len≤c1:=by
       rcases hown2.2 with ⟨h,_⟩ | ⟨g',cap',cur,hv,_,_,hn,_⟩
       · cases h
       · injection hv with h1 h2 h3
         omega
      have hb2:=bg HB.out hgr hbg
      have HSL:Hid (SlV w2 (fun _ => True) (.slice (some ⟨g,0,none⟩) F.len c1) (ofL l')):=⟨some ⟨g,0,none⟩,c1,by rw [ofL_len,hll],by rw [ofL_len,hll];exact hF6,.inr ⟨g,0,rfl,trivial,hgl,hat.imp fun _ _ => trivial⟩⟩
      have hcl':(ofL l').count≤1000000:=by rw [← ofL_count_perm hp,← hF];exact HCC.out
      have HCL:Hid (∀ x:World,Below w2.heap.size w2 x→Calls Tryz.prog 49 #[.slice (some ⟨g,0,none⟩) F.len c1] x fun e w' => ∃ (A:Option Addr) (c:Nat),e=.returned (.slice A F.len c)∧SlV w' (x.heap.size≤·) (.slice A F.len c) (ofL l')∧Below x.heap.size x w'):=fun x hx => by
       refine (clone_of _ (ofL l') _ x (HSL.out.below hx) hcl').mono ?_
       rintro e w' ⟨A,c,g0,xs,rfl,hcc,hown,hcls,hg0,howng,hb⟩
       obtain ⟨A9,c9,hv9,hs9⟩:=own_slv hown (hcls.imp (J:=fun q => x.heap.size≤q) fun q hq => by have:=hq.1;omega) fun q hq => hq
       injection hv9 with h1 h2 h3
       subst h1 h3
       have e1:(ofL l').len=F.len:=by rw [ofL_len,hll]
       rw [e1] at hs9 ⊢
       exact ⟨A,c,rfl,hs9,hb⟩
      have HYES:Hid ((∀ q (h:q+1 < l'.length),l'[q].tag≠l'[q+1].tag)→fmerge fs=(ofL l',0)):=fun h => by rw [HFM.out,hF];exact fmrg_yes hp hs h
      have HNO:Hid (∀ q (h:q+1 < l'.length),l'[q].tag=l'[q+1].tag→fmerge fs=(.nil,14)):=fun q h he => by rw [HFM.out,hF];exact fmrg_no hp h he
      have HAT:=Lib.hid hat
      have HB2:=Lib.hid hb2
      have HLL:=Lib.hid hll
      clear hat hb2 hF hp hs hown2 hcls2 hgr hll hF6 hcl' HST HB HFM
      go_wp2_with fail
      go_loopg [8] F.len (fun gk2 vi w3 => ∃ i:Nat,1≤i∧i≤F.len∧F.len - i≤gk2∧vi=.int .i64 (i:Int)∧Below w2.heap.size w2 w3∧Hid (∀ q (h:q+1 < l'.length),q+1 < i→l'[q].tag≠l'[q+1].tag))
      case atStart => exact ⟨1,Nat.le_refl _,by omega,by omega,rfl,b0,fun q h h1 => by omega⟩
      case round =>
       obtain ⟨i,hi1,hi2,hgk2,rfl,hb3,HNE⟩:=hrel
       obtain ⟨j,hj⟩:∃ j,i=j+1:=⟨i - 1,by omega⟩
       have hji:(i:Int) - 1=(j:Int):=by omega
       by_cases hil:i < F.len
       · have hil2:i < l'.length:=by rw [HLL.out];exact hil
         have ci:=(World.cell?_of_block (a:=⟨g,0+i * 5,none⟩) (hb3.block g hgl)).trans (fsat_tag HAT.out i hil2)
         have cj:=(World.cell?_of_block (a:=⟨g,0+j * 5,none⟩) (hb3.block g hgl)).trans (fsat_tag HAT.out j (by omega))
         have hj1:j+1 < l'.length:=by omega
         have HEQ:Hid (l'[i].tag=l'[j].tag→fmerge fs=(.nil,14)):=fun h => HNO.out j hj1 (by rw [← h];congr 2)
         have HNX:Hid (l'[i].tag≠l'[j].tag→∀ q (h:q+1 < l'.length),q+1 < i+1→l'[q].tag≠l'[q+1].tag):=fun h q h1 h2 => by
          by_cases hq:q+1=i
          · have:q=j:=by omega
            subst this
            intro e
            exact h (by rw [e];congr 2)
          · exact HNE.out q h1 (by omega)
         generalize l'[i].tag=ti at *
         generalize l'[j].tag=tj at *
         simp only [Nat.zero_add] at ci cj
         have hij:(i:Int) < (F.len:Int):=by omega
         have hjF:(j:Int) < (F.len:Int):=by omega
         have HB3:=Lib.hid hb3
         clear hj hb3
         by_cases het:ti=tj
         · have hti:((ti:Int) == (tj:Int))=true:=by rw [beq_iff_eq];omega
           have HE:Hid (∀ w',Below w.heap.size w w'→MergeEnd w (fmerge fs) (.returned (.tuple #[.slice none 0 0,.int .i64 14])) w'):=fun w' hb => by
            rw [HEQ.out het]
            exact ⟨none,0,rfl,SlV.nil _ _ _ _,hb⟩
           clear het
           go_wp2_with fail
           go_quiet (fail)
           go_wp2_with fail
           go_ret2
           exact HE.out _ (bn (bb HB2.out HB3.out) _)
         · have hti:((ti:Int) == (tj:Int))=false:=by rw [beq_eq_false_iff_ne];omega
           have HNX2:=Lib.hid (HNX.out het)
           clear het HNX HEQ
           go_wp2_with fail
           go_quiet (fail)
           go_wp2_with fail
           go_roundg (F.len - (i+1))
           case measure => omega
           case rel => exact ⟨i+1,by omega,by omega,Nat.le_refl _,by go_num,bn HB3.out _,HNX2⟩
       · obtain rfl:i=F.len:=by omega
         have HE:Hid (∀ (A:Option Addr) (c:Nat) (w':World),SlV w' (w.heap.size≤·) (.slice A F.len c) (ofL l')→Below w.heap.size w w'→MergeEnd w (fmerge fs) (.returned (.tuple #[.slice A F.len c,.int .i64 0])) w'):=fun A c w' hs hb => by
          rw [HYES.out fun q h => HNE.out q h (by rw [← HLL.out];exact h)]
          have e1:(ofL l').len=F.len:=by rw [ofL_len,HLL.out]
          unfold MergeEnd
          simp only [e1]
          exact ⟨A,c,rfl,hs,hb⟩
         have HB3:=Lib.hid (bb HB2.out hb3)
         have HCL3:=Lib.hid (HCL.out _ hb3)
         clear hb3 hj hji
         go_wp2_with fail
         refine HCL3.out.mono ?_
         rintro e w4 ⟨A4,c4,rfl,hs4,hb4⟩
         have HE4:=Lib.hid (HE.out A4 c4 w4 (hs4.imp fun q hq => Nat.le_trans HB3.out.size hq) (bb HB3.out hb4))
         clear hs4 hb4
         go_wp2_with fail
         go_ret2
         exact HE4.out
end Go.Proofs.YtgidfnhfgiehjaaGreatDoor
end

section
namespace Go.Proofs.YtgidfnhfgiehjaaGreatDoor
open Go.RowKit Go.PM
set_option maxRecDepth 100000
set_option maxHeartbeats 1500000
attribute [local go_sem ↓] Go.wp_at_zero Go.wp_at_succ
theorem or_small (t y:Nat) (ht:t≤4294967296) (hy:y < 4):bits .or .u64 ((t:Int) * 4) (y:Int)=((4 * t+y:Nat):Int):=by
 have h1:=bits_or_u64_nat (4 * t) y (by omega) (by omega)
 have h2:=Nat.two_pow_add_eq_or_of_lt (i:=2) (b:=y) (by omega) t
 rw [show (2:Nat) ^ 2 * t=4 * t by omega] at h2
 rw [← h2] at h1
 have e:((t:Int) * 4)=((4 * t:Nat):Int):=by omega
 rw [e]
 exact h1
theorem head_any (b o t:Nat) (y:Int) (w:World) (h0:w.cell? ⟨b,o,none⟩=some (.int .u64 (t:Int))) (h1:w.cell? ⟨b,o+1,none⟩=some (.int .i64 y)) (ht:t≤4294967296) (hy:0≤y∧y≤2) :
 Calls Tryz.prog 95 #[.pointer (some ⟨b,o,none⟩)] w fun e w' => e=.returned (.int .u64 ((4 * t+y.toNat:Nat):Int))∧Below w.heap.size w w':=by
 obtain ⟨Y,rfl⟩:=Int.eq_ofNat_of_zero_le hy.1
 have hor:=or_small t Y ht (by omega)
 have hti:(t:Int)≤4294967296:=by omega
 have ht0:(0:Int)≤(t:Int) * 4:=by omega
 have hYi:(Y:Int)≤2:=by omega
 rw [Int.toNat_natCast]
 clear hy
 generalize hX:(4 * t+Y:Nat)=X at hor ⊢
 clear hX
 go_enter Tryz.func95,Tryz.ntmps95
 go_wp2_with fail
 go_quiet (fail)
 go_wp2_with fail
 go_ret
 exact ⟨rfl,bn b0 _⟩
theorem fcheckP_drop {f:Fs} {a d:Nat} (k:Nat) (h:fcheckP f a d):∃ a',fcheckP (f.drop k) a' d:=by
 rw [← Fs.take_drop f k,fcheckP_app] at h
 exact ⟨_,h.2⟩
theorem ftx_one (t:Nat) (y:Int) (n:Nat) (s:ByteArray) (i:Fs):(ftx (.cons t y n s i .nil)).length=vsz (4 * t+y.toNat)+(if y=0 then vput n else if y=1 then vput s.size++s.data.toList else vput (ftx i).length++ftx i).length:=by
 simp only [ftx,List.append_nil,List.length_append,vput_length]
theorem ftx_take {f:Fs} {k:Nat} {t n:Nat} {y:Int} {s:ByteArray} {i:Fs} (h:f.take (k+1)=(f.take k).app (.cons t y n s i .nil)):ftx (f.take (k+1))=ftx (f.take k)++ftx (.cons t y n s i .nil):=by rw [h,ftx_app]
theorem ftx_take_le:∀ (f:Fs) (k:Nat),(ftx (f.take k)).length≤(ftx f).length:=fun f k => by
 have h:=ftx_app (f.take k) (f.drop k)
 rw [Fs.take_drop] at h
 rw [h,List.length_append]
 omega
theorem wsize_any (N:Nat):∀ (A:Option Addr) (c:Nat) (f:Fs) (I:Nat→Prop) (a d:Nat) (w:World),f.count≤N→SlV w I (.slice A f.len c) f→fcheckP f a d→f.count≤1000000→(ftx f).length≤1000000000000 →
 Calls Tryz.prog 47 #[.slice A f.len c] w fun e w' => e=.returned (.int .i64 ((ftx f).length:Int))∧Below w.heap.size w w':=by
 induction N with
 | zero =>
   intro A c f I a d w hN hr hP h60 hL
   have:f=.nil:=Fs.len_zero (by have:=f.len_count;omega)
   subst this
   go_enter Tryz.func47,Tryz.ntmps47
   go_wp2_with fail
   go_loopw [3,9] (fun nn kk wr => nn=.int .i64 0∧kk=.int .i64 0∧wr=w) (fun _ _ _ => 0)
   case atStart => exact ⟨rfl,rfl,rfl⟩
   case round =>
    obtain ⟨rfl,rfl,rfl⟩:=hrel
    go_wp2_with fail
    go_ret
    exact ⟨rfl,b0⟩
 | succ N ih =>
   intro A c f I a d w hN hr hP h60 hL
   have IH:=Lib.hid ih
   have HR:=Lib.hid hr
   have HP:=Lib.hid hP
   have H60:Hid (f.count≤1000000∧f.count≤N+1):=⟨h60,hN⟩
   have hfl:=Nat.le_trans f.len_count h60
   clear ih hr hP h60 hN
   have H0:Hid ((ftx (f.take 0)).length=0):=by cases f <;> rfl
   generalize hT:(ftx f).length=T at *
   have HT:=Lib.hid hT
   clear hT
   go_enter Tryz.func47,Tryz.ntmps47
   go_wp2_with fail
   go_loopw [3,9] (fun nn kk wr => ∃ k n:Nat,k≤f.len∧kk=.int .i64 (k:Int)∧nn=.int .i64 (n:Int)∧n≤1000000000000∧Hid ((ftx (f.take k)).length=n)∧Below w.heap.size w wr) (fun _ kk _ => f.len - (intOf kk).toNat)
   case atStart => exact ⟨0,0,by omega,rfl,rfl,by omega,H0,b0⟩
   case round =>
    obtain ⟨k,m,hk,rfl,rfl,hm,hmt,hbel⟩:=hrel
    by_cases hlt:k < f.len
    · obtain ⟨t,y,n,s,i,hdc,htk⟩:=f.drop_cons k hlt
      obtain ⟨A0,c0,hv,hc0,hor⟩:=HR.out.below hbel
      injection hv with hv1 hv2 hv3
      subst hv1 hv3
      rcases hor with h0 | ⟨b,o,rfl,hIb,hbl,hat⟩
      · omega
      have hak:=hat.drop k
      rw [hdc] at hak
      obtain ⟨c0,c1,c2,c3,⟨Ai,ci,c4,hci,hin⟩,_⟩:=hak
      obtain ⟨a',hPk⟩:=fcheckP_drop k HP.out
      rw [hdc] at hPk
      obtain ⟨⟨_,ht0,ht32,hn64,hcase⟩,_⟩:=hPk
      have hcc:=f.drop_count k
      rw [hdc] at hcc
      simp only [Fs.count] at hcc
      have hstep:=ftx_take htk
      have hle:=ftx_take_le f (k+1)
      rw [hstep,List.length_append,ftx_one,hmt.out,HT.out] at hle
      have hlen:(ftx (f.take (k+1))).length=m+(vsz (4 * t+y.toNat)+(if y=0 then vput n else if y=1 then vput s.size++s.data.toList else vput (ftx i).length++ftx i).length):=by rw [hstep,List.length_append,ftx_one,hmt.out]
      have hy02:0≤y∧y≤2:=by rcases hcase with ⟨h,_⟩ | ⟨h,_⟩ | ⟨h,_⟩ <;> omega
      have hX64:In64 (4 * t+y.toNat):=by unfold In64;omega
      have hvx:=vsz_le10 hX64
      have HHD:Hid (∀ x:World,Below wr.heap.size wr x→Calls Tryz.prog 95 #[.pointer (some ⟨b,o+k * 5,none⟩)] x fun e w' => e=.returned (.int .u64 ((4 * t+y.toNat:Nat):Int))∧Below x.heap.size x w'):=fun x hx => by
       have e:=fun j => World.cell?_of_block (a:=⟨b,j,none⟩) (hx.block b hbl)
       exact head_any b (o+k * 5) t y x ((e _).trans c0) ((e _).trans c1) ht32 hy02
      have HCells:Hid (∀ x:World,Below wr.heap.size wr x→x.cell? ⟨b,o+k * 5+1,none⟩=some (.int .i64 y)∧x.cell? ⟨b,o+k * 5+2,none⟩=some (.int .u64 (n:Int))∧x.cell? ⟨b,o+k * 5+3,none⟩=some (.string s)∧x.cell? ⟨b,o+k * 5+4,none⟩=some (.slice Ai i.len ci)):=fun x hx => by
       have e:=fun j => World.cell?_of_block (a:=⟨b,j,none⟩) (hx.block b hbl)
       exact ⟨(e _).trans c1,(e _).trans c2,(e _).trans c3,(e _).trans c4⟩
      have HSI:Hid (SlV wr I (.slice Ai i.len ci) i):=⟨Ai,ci,rfl,hci,hin⟩
      have HBEL:=Lib.hid hbel
      have HX:=Lib.hid hX64
      have hkf:(k:Int) < (f.len:Int):=by omega
      have hic:i.count≤N∧i.count≤1000000:=by have:=H60.out;omega
      clear hX64 hdc htk hstep hat hin hv2 hbel hmt c0 c1 c2 c3 c4
      generalize hXX:4 * t+y.toNat=X at *
      have HXX:=Lib.hid hXX
      clear hXX
      rcases hcase with ⟨rfl,rfl,rfl⟩ | ⟨rfl,rfl,rfl,hs63⟩ | ⟨rfl,rfl,rfl,hd8,hPi⟩
      · rw [if_pos rfl,vput_length] at hlen hle
        have HN:=Lib.hid hn64
        have hvn:=vsz_le10 hn64
        have HLEN:=Lib.hid hlen
        have hmn:m+(vsz X+vsz n)≤1000000000000:=by omega
        clear hlen hn64 hle
        go_wp2_with fail
        refine (HHD.out _ b0).mono ?_
        rintro e1 W1 ⟨rfl,hbh⟩
        obtain ⟨q1,q2,q3,q4⟩:=HCells.out _ hbh
        have HB1:=Lib.hid hbh
        clear hbh
        go_wp2_with fail
        refine (size_any X _ HX.out).mono ?_
        rintro e2 W2 ⟨rfl,rfl⟩
        go_wp2_with fail
        refine (size_any n _ HN.out).mono ?_
        rintro e3 W3 ⟨rfl,rfl⟩
        go_wp2_with fail
        go_roundw
        case rel => exact ⟨k+1,m+(vsz X+vsz n),by omega,by go_num,by go_num,hmn,HLEN.out,HBEL.out.trans (HB1.out.mono HBEL.out.size)⟩
        case measure => simp [intOf];omega
      · rw [if_neg (by decide),if_pos rfl,List.length_append,vput_length,len_list] at hlen hle
        have hs64:In64 s.size:=by show s.size < _;omega
        have HSZ:=Lib.hid hs64
        have hvn:=vsz_le10 hs64
        have HLEN:=Lib.hid hlen
        have hmn:m+(vsz X+(vsz s.size+s.size))≤1000000000000:=by omega
        have hsz:s.size≤1000000000000:=by omega
        clear hlen hle hs64 hn64
        go_wp2_with fail
        refine (HHD.out _ b0).mono ?_
        rintro e1 W1 ⟨rfl,hbh⟩
        obtain ⟨q1,q2,q3,q4⟩:=HCells.out _ hbh
        have HB1:=Lib.hid hbh
        clear hbh
        go_wp2_with fail
        refine (size_any X _ HX.out).mono ?_
        rintro e2 W2 ⟨rfl,rfl⟩
        go_wp2_with fail
        have hw1:IntKind.i64.wrap ((vsz s.size:Int)+(s.size:Int))=(vsz s.size:Int)+(s.size:Int):=by simp [IntKind.wrap,IntKind.signed,IntKind.bits];omega
        have hw2:IntKind.i64.wrap (((m:Int)+(vsz X:Int))+((vsz s.size:Int)+(s.size:Int)))=((m:Int)+(vsz X:Int))+((vsz s.size:Int)+(s.size:Int)):=by simp [IntKind.wrap,IntKind.signed,IntKind.bits];omega
        go_quiet ((go_at_call 78;exact Calls.quiet_of_same ((size_any s.size _ HSZ.out).mono fun e w' ⟨he,hw⟩ => ⟨he,hw.symm⟩)))
        clear hw1 hw2
        go_wp2_with fail
        go_roundw
        case rel => exact ⟨k+1,m+(vsz X+(vsz s.size+s.size)),by omega,by go_num,by go_num,hmn,HLEN.out,HBEL.out.trans ((bn HB1.out _).mono HBEL.out.size)⟩
        case measure => simp [intOf];omega
      · rw [if_neg (by decide),if_neg (by decide),List.length_append,vput_length] at hlen hle
        have HIH:Hid (∀ x:World,Below wr.heap.size wr x→Calls Tryz.prog 47 #[.slice Ai i.len ci] x fun e w' => e=.returned (.int .i64 ((ftx i).length:Int))∧Below x.heap.size x w'):=fun x hx =>
         IH.out Ai ci i I 0 (d+1) x hic.1 (HSI.out.below hx) hPi hic.2 (by omega)
        generalize (ftx i).length=L at *
        have hL64:In64 L:=by show L < _;omega
        have HSZ:=Lib.hid hL64
        have hvn:=vsz_le10 hL64
        have HLEN:=Lib.hid hlen
        have hmn:m+(vsz X+(vsz L+L))≤1000000000000:=by omega
        clear hlen hle hL64 hn64 hPi
        go_wp2_with fail
        refine (HHD.out _ b0).mono ?_
        rintro e1 W1 ⟨rfl,hbh⟩
        obtain ⟨q1,q2,q3,q4⟩:=HCells.out _ hbh
        have HB1:=Lib.hid hbh
        clear hbh
        go_wp2_with fail
        refine (size_any X _ HX.out).mono ?_
        rintro e2 W2 ⟨rfl,rfl⟩
        go_wp2_with fail
        refine (HIH.out _ HB1.out).mono ?_
        rintro e3 W3 ⟨rfl,hbi⟩
        go_wp2_with fail
        refine (size_any L _ HSZ.out).mono ?_
        rintro e4 W4 ⟨rfl,rfl⟩
        go_wp2_with fail
        go_roundw
        case rel => exact ⟨k+1,m+(vsz X+(vsz L+L)),by omega,by go_num,by go_num,hmn,HLEN.out,HBEL.out.trans ((bb HB1.out hbi).mono HBEL.out.size)⟩
        case measure => simp [intOf];omega
    · obtain rfl:k=f.len:=by omega
      have e:m=T:=by have:=hmt.out;rw [f.take_all _ (Nat.le_refl _),HT.out] at this;exact this.symm
      subst e
      have HB:=Lib.hid hbel
      clear hmt hbel HT
      go_wp2_with fail
      go_ret
      exact ⟨rfl,HB.out⟩
end Go.Proofs.YtgidfnhfgiehjaaGreatDoor
end

section
namespace Go.Proofs.YtgidfnhfgiehjaaGreatDoor
open Go.RowKit Go.PM
set_option maxRecDepth 100000
set_option maxHeartbeats 1500000
attribute [local go_sem ↓] Go.wp_at_zero Go.wp_at_succ
def BS (w:World) (v0:Value) (v:Value) (l:List UInt8) (x:World):Prop :=
 Buf x 5 v l∧Tch (fun k => foot v0=some k) w x∧∀ g,foot v=some g→foot v0=some g∨w.heap.size≤g
theorem BS.start {w:World} {v:Value} {l:List UInt8} (h:Buf w 5 v l):BS w v v l w:=⟨h,Tch.refl _ _,fun _ h => .inl h⟩
theorem BS.bel {w x y:World} {v0 v:Value} {l:List UInt8} (h:BS w v0 v l x) (hb:Below x.heap.size x y):BS w v0 v l y:=⟨h.1.below hb,h.2.1.bel hb,h.2.2⟩
theorem BS.tch {w x y:World} {v0 v:Value} {l:List UInt8} (h:BS w v0 v l x) (v':Value) (l':List UInt8) (hb:Buf y 5 v' l') (ht:Tch (fun k => foot v=some k) x y) (hf:∀ g,foot v'=some g→foot v=some g∨x.heap.size≤g):BS w v0 v' l' y:=by
 refine ⟨hb,h.2.1.trans ht fun g hg e => ?_,fun g hg => ?_⟩
 · rcases h.2.2 g e with h1 | h1
   · exact h1
   · omega
 · rcases hf g hg with h1 | h1
   · exact h.2.2 g h1
   · exact .inr (Nat.le_trans h.2.1.size h1)
theorem BS.app {w x:World} {v0 v:Value} {l:List UInt8} (h:BS w v0 v l x) (s:ByteArray) (hn:l.length+s.size≤1000000) :
 ∃ v' y,(Builtin.append_ #[42,9] 42 #[v,.string s]).run Tryz.prog x=.ok v' y∧BS w v0 v' (l++s.data.toList) y:=by
 obtain ⟨i0,hi0,hz0,hz1,hz2⟩:=info_parts info_u8
 obtain ⟨v',y,hr,hb,ht,hf⟩:=buf_append (P:=Tryz.prog) h.1 s 42 9 42 i0 Tryz.underlying42 Tryz.underlying9 hi0 hz0 hz1 hz2 hn
 refine ⟨v',y,hr,h.tch v' _ hb ht fun g hg => ?_⟩
 rcases hf with h1 | h1
 · exact .inl (h1 ▸ hg)
 · exact .inr (h1 g hg)
def WriteEnd (w:World) (v0:Value) (l:List UInt8) (e:Ending) (w':World):Prop:=∃ v',e=.returned v'∧BS w v0 v' l w'
theorem write_any (N:Nat):∀ (v0:Value) (L:List UInt8) (A:Option Addr) (c:Nat) (f:Fs) (I:Nat→Prop) (a d:Nat) (w:World),f.count≤N→Buf w 5 v0 L→SlV w I (.slice A f.len c) f→(∀ k,I k→foot v0≠some k)→fcheckP f a d→f.count≤1000000→L.length+(ftx f).length≤1000000 →
 Calls Tryz.prog 48 #[v0,.slice A f.len c] w (WriteEnd w v0 (L++ftx f)):=by
 induction N with
 | zero =>
   intro v0 L A c f I a d w hN hb hr hI hP h60 hL
   have:f=.nil:=Fs.len_zero (by have:=f.len_count;omega)
   subst this
   have HE:Hid (WriteEnd w v0 (L++ftx .nil) (.returned v0) w):=⟨v0,rfl,by rw [show ftx .nil=[] from rfl,List.append_nil];exact BS.start hb⟩
   go_enter Tryz.func48,Tryz.ntmps48
   go_wp2_with fail
   go_loopw [0,9] (fun vv kk wr => vv=v0∧kk=.int .i64 0∧wr=w) (fun _ _ _ => 0)
   case atStart => exact ⟨rfl,rfl,rfl⟩
   case round =>
    obtain ⟨rfl,rfl,rfl⟩:=hrel
    go_wp2_with fail
    go_ret
    exact HE.out
 | succ N ih =>
   intro v0 L A c f I a d w hN hb hr hI hP h60 hL
   have IH:=Lib.hid ih
   have HR:=Lib.hid hr.lt
   have HI:=Lib.hid hI
   have HP:=Lib.hid hP
   have H60:Hid (f.count≤1000000∧f.count≤N+1):=⟨h60,hN⟩
   have hfl:=Nat.le_trans f.len_count h60
   have HL:=Lib.hid hL
   have H0:Hid (BS w v0 v0 (L++ftx (f.take 0)) w):=by
    have:ftx (f.take 0)=[]:=by cases f <;> rfl
    rw [this,List.append_nil]
    exact BS.start hb
   clear ih hr hI hP h60 hN hb hL
   go_enter Tryz.func48,Tryz.ntmps48
   go_wp2_with fail
   go_loopw [0,9] (fun vv kk wr => ∃ k:Nat,k≤f.len∧kk=.int .i64 (k:Int)∧Hid (BS w v0 vv (L++ftx (f.take k)) wr)) (fun _ kk _ => f.len - (intOf kk).toNat)
   case atStart => exact ⟨0,by omega,rfl,H0⟩
   case round =>
    obtain ⟨k,hk,rfl,HBS⟩:=hrel
    by_cases hlt:k < f.len
    · obtain ⟨t,y,n,s,i,hdc,htk⟩:=f.drop_cons k hlt
      obtain ⟨A0,c0,hv,hc0,hor⟩:=HR.out
      injection hv with hv1 hv2 hv3
      subst hv1 hv3
      rcases hor with h0 | ⟨b,o,rfl,hIb,hbl,hat⟩
      · omega
      have hak:=hat.drop k
      rw [hdc] at hak
      obtain ⟨c0,c1,c2,c3,⟨Ai,ci,c4,hci,hin⟩,_⟩:=hak
      obtain ⟨a',hPk⟩:=fcheckP_drop k HP.out
      rw [hdc] at hPk
      obtain ⟨⟨_,ht0,ht32,hn64,hcase⟩,_⟩:=hPk
      have hcc:=f.drop_count k
      rw [hdc] at hcc
      simp only [Fs.count] at hcc
      have hstep:=ftx_take htk
      have hle:=ftx_take_le f (k+1)
      rw [hstep,List.length_append,ftx_one] at hle
      have hlen:=HL.out
      have hy02:0≤y∧y≤2:=by rcases hcase with ⟨h,_⟩ | ⟨h,_⟩ | ⟨h,_⟩ <;> omega
      have hX64:In64 (4 * t+y.toNat):=by show 4 * t+y.toNat < 18446744073709551616;omega
      have hblk:∀ x:World,Tch (fun k => foot v0=some k) w x→x.heap[b]? = w.heap[b]?:=fun x hx => hx.block b hbl (HI.out b hIb.1)
      have HHD:Hid (∀ x:World,Tch (fun k => foot v0=some k) w x→Calls Tryz.prog 95 #[.pointer (some ⟨b,o+k * 5,none⟩)] x fun e w' => e=.returned (.int .u64 ((4 * t+y.toNat:Nat):Int))∧Below x.heap.size x w'):=fun x hx => by
       have e:=fun j => World.cell?_of_block (a:=⟨b,j,none⟩) (hblk x hx)
       exact head_any b (o+k * 5) t y x ((e _).trans c0) ((e _).trans c1) ht32 hy02
      have HCells:Hid (∀ x:World,Tch (fun k => foot v0=some k) w x→x.cell? ⟨b,o+k * 5+1,none⟩=some (.int .i64 y)∧x.cell? ⟨b,o+k * 5+2,none⟩=some (.int .u64 (n:Int))∧x.cell? ⟨b,o+k * 5+3,none⟩=some (.string s)∧x.cell? ⟨b,o+k * 5+4,none⟩=some (.slice Ai i.len ci)):=fun x hx => by
       have e:=fun j => World.cell?_of_block (a:=⟨b,j,none⟩) (hblk x hx)
       exact ⟨(e _).trans c1,(e _).trans c2,(e _).trans c3,(e _).trans c4⟩
      have HSI:Hid (∀ x:World,Tch (fun k => foot v0=some k) w x→SlV x (fun k => I k∧k < w.heap.size) (.slice Ai i.len ci) i):=fun x hx => by
       have h1:SlV w (fun k => I k∧k < w.heap.size) (.slice Ai i.len ci) i:=⟨Ai,ci,rfl,hci,hin⟩
       exact h1.tch hx fun k hk => HI.out k hk.1
      have HX:=Lib.hid hX64
      have hkf:(k:Int) < (f.len:Int):=by omega
      have hic:i.count≤N∧i.count≤1000000:=by have:=H60.out;omega
      have htl:ftx (.cons t y n s i .nil)=vput (4 * t+y.toNat)++(if y=0 then vput n else if y=1 then vput s.size++s.data.toList else vput (ftx i).length++ftx i):=by simp only [ftx,List.append_nil]
      rw [htl] at hstep
      clear htl hX64 hdc htk hat hin hv2 hblk c0 c1 c2 c3 c4
      generalize hXX:4 * t+y.toNat=X at *
      generalize hP0:ftx (f.take k)=P0 at *
      have hlp:L.length+(P0.length+vsz X)≤1000000∧(L++P0).length=L.length+P0.length:=⟨by omega,List.length_append⟩
      obtain ⟨hlp,hlq⟩:=hlp
      have HXX:=Lib.hid hXX
      clear hXX hP0
      rcases hcase with ⟨rfl,rfl,rfl⟩ | ⟨rfl,rfl,rfl,hs63⟩ | ⟨rfl,rfl,rfl,hd8,hPi⟩
      · rw [if_pos rfl] at hstep
        rw [if_pos rfl,vput_length] at hle
        have HN:=Lib.hid hn64
        have HST:=Lib.hid hstep
        clear hstep hn64
        go_wp2_with fail
        refine (HHD.out _ HBS.out.2.1).mono ?_
        rintro e1 W1 ⟨rfl,hbh⟩
        have HB1:=Lib.hid (HBS.out.bel hbh)
        clear hbh
        go_wp2_with fail
        refine (put_any X _ HX.out).mono ?_
        rintro e2 W2 ⟨rfl,hbh⟩
        obtain ⟨v1,W3,hrun,hbs⟩:=(HB1.out.bel hbh).app (txt (vput X)) (by rw [txt_size,vput_length];omega)
        have HR1:=Lib.hid hrun
        have HB3:=Lib.hid hbs
        obtain ⟨q1,q2,q3,q4⟩:=HCells.out _ hbs.2.1
        clear hbh hrun hbs
        go_wp2_with (at_builtin;(refine wpList_append_run rfl _ _ _ _ rfl _ _ _ rfl rfl HR1.out ?_))
        go_wp2_with fail
        refine (put_any n _ HN.out).mono ?_
        rintro e3 W4 ⟨rfl,hbh⟩
        obtain ⟨v2,W5,hrun,hbs⟩:=(HB3.out.bel hbh).app (txt (vput n)) (by rw [txt_size,vput_length,txt_list,List.length_append,vput_length];omega)
        have HR2:=Lib.hid hrun
        have HB5:=Lib.hid hbs
        clear hbh hrun hbs
        go_wp2_with (at_builtin;(refine wpList_append_run rfl _ _ _ _ rfl _ _ _ rfl rfl HR2.out ?_))
        go_roundw
        case rel => exact ⟨k+1,by omega,by go_num,by have:=HB5.out;rw [HST.out];show BS _ _ _ _ _;simpa only [txt_list,List.append_assoc] using this⟩
        case measure => simp [intOf];omega
      · rw [if_neg (by decide),if_pos rfl] at hstep
        rw [if_neg (by decide),if_pos rfl,List.length_append,vput_length,len_list] at hle
        have hs64:In64 s.size:=by show s.size < _;omega
        have HSZ:=Lib.hid hs64
        have HST:=Lib.hid hstep
        have hss:s.size≤1000000:=by omega
        clear hstep hn64 hs64
        go_wp2_with fail
        refine (HHD.out _ HBS.out.2.1).mono ?_
        rintro e1 W1 ⟨rfl,hbh⟩
        have HB1:=Lib.hid (HBS.out.bel hbh)
        clear hbh
        go_wp2_with fail
        refine (put_any X _ HX.out).mono ?_
        rintro e2 W2 ⟨rfl,hbh⟩
        obtain ⟨v1,W3,hrun,hbs⟩:=(HB1.out.bel hbh).app (txt (vput X)) (by rw [txt_size,vput_length];omega)
        have HR1:=Lib.hid hrun
        have HB3:=Lib.hid hbs
        obtain ⟨q1,q2,q3,q4⟩:=HCells.out _ hbs.2.1
        clear hbh hrun hbs
        go_wp2_with (at_builtin;(refine wpList_append_run rfl _ _ _ _ rfl _ _ _ rfl rfl HR1.out ?_))
        go_wp2_with fail
        refine (put_any s.size _ HSZ.out).mono ?_
        rintro e3 W4 ⟨rfl,hbh⟩
        obtain ⟨v2,W5,hrun,hbs⟩:=(HB3.out.bel hbh).app (txt (vput s.size)) (by rw [txt_size,vput_length,txt_list,List.length_append,vput_length];omega)
        obtain ⟨v3,W6,hrun2,hbs2⟩:=hbs.app s (by rw [txt_list,txt_list,List.length_append,List.length_append,vput_length,vput_length];omega)
        have HR2:=Lib.hid hrun
        have HR3:=Lib.hid hrun2
        have HB5:=Lib.hid hbs2
        obtain ⟨p1,p2,p3,p4⟩:=HCells.out _ hbs.2.1
        clear hbh hrun hbs hrun2 hbs2
        go_wp2_with (first | (at_builtin;refine wpList_append_run rfl _ _ _ _ rfl _ _ _ rfl rfl HR2.out ?_) | (at_builtin;refine wpList_append_run rfl _ _ _ _ rfl _ _ _ rfl rfl HR3.out ?_))
        go_roundw
        case rel => exact ⟨k+1,by omega,by go_num,by have:=HB5.out;rw [HST.out];show BS _ _ _ _ _;simpa only [txt_list,List.append_assoc] using this⟩
        case measure => simp [intOf];omega
      · rw [if_neg (by decide),if_neg (by decide)] at hstep
        rw [if_neg (by decide),if_neg (by decide),List.length_append,vput_length] at hle
        have HSC:Hid (∀ x:World,Tch (fun k => foot v0=some k) w x→Calls Tryz.prog 47 #[.slice Ai i.len ci] x fun e w' => e=.returned (.int .i64 ((ftx i).length:Int))∧Below x.heap.size x w'):=fun x hx =>
         wsize_any i.count Ai ci i _ 0 (d+1) x (Nat.le_refl _) (HSI.out x hx) hPi hic.2 (by omega)
        have HPI:=Lib.hid hPi
        have HIL:Hid ((ftx i).length+vsz (ftx i).length+(L.length+(P0.length+vsz X))≤1000000):=by show _≤_;omega
        have hL64:In64 (ftx i).length:=by show (ftx i).length < _;omega
        have HSZ:=Lib.hid hL64
        have HST:=Lib.hid hstep
        have hss:(ftx i).length≤1000000:=by omega
        have HIC:=Lib.hid hic
        clear hstep hn64 hL64 hle hPi hic hlen
        generalize hLI:(ftx i).length=LI at HSC HSZ HIL hss
        have HLI:=Lib.hid hLI
        clear hLI
        go_wp2_with fail
        refine (HHD.out _ HBS.out.2.1).mono ?_
        rintro e1 W1 ⟨rfl,hbh⟩
        have HB1:=Lib.hid (HBS.out.bel hbh)
        clear hbh
        go_wp2_with fail
        refine (put_any X _ HX.out).mono ?_
        rintro e2 W2 ⟨rfl,hbh⟩
        obtain ⟨v1,W3,hrun,hbs⟩:=(HB1.out.bel hbh).app (txt (vput X)) (by rw [txt_size,vput_length];omega)
        have HR1:=Lib.hid hrun
        have HB3:=Lib.hid hbs
        obtain ⟨q1,q2,q3,q4⟩:=HCells.out _ hbs.2.1
        clear hbh hrun hbs
        go_wp2_with (at_builtin;(refine wpList_append_run rfl _ _ _ _ rfl _ _ _ rfl rfl HR1.out ?_))
        go_wp2_with fail
        refine (HSC.out _ HB3.out.2.1).mono ?_
        rintro e3 W4 ⟨rfl,hbh⟩
        have HB4:=Lib.hid (HB3.out.bel hbh)
        clear hbh
        go_wp2_with fail
        refine (put_any LI _ HSZ.out).mono ?_
        rintro e4 W5 ⟨rfl,hbh⟩
        obtain ⟨v2,W6,hrun,hbs⟩:=(HB4.out.bel hbh).app (txt (vput LI)) (by have:=HIL.out;rw [txt_size,vput_length,txt_list,List.length_append,vput_length];omega)
        have HR2:=Lib.hid hrun
        have HB6:=Lib.hid hbs
        obtain ⟨p1,p2,p3,p4⟩:=HCells.out _ hbs.2.1
        clear hbh hrun hbs
        go_wp2_with (at_builtin;(refine wpList_append_run rfl _ _ _ _ rfl _ _ _ rfl rfl HR2.out ?_))
        refine (IH.out v2 _ Ai ci i (fun k => I k∧k < w.heap.size) 0 (d+1) W6 HIC.out.1 HB6.out.1 (HSI.out _ HB6.out.2.1) (fun g hg e => by rcases HB6.out.2.2 g e with h | h;exact HI.out g hg.1 h;omega) HPI.out HIC.out.2 (by have:=HIL.out;rw [HLI.out,txt_list,txt_list,List.length_append,List.length_append,vput_length,vput_length];omega)).mono ?_
        rintro e5 W7 ⟨v3,rfl,hbs⟩
        have HB7:=Lib.hid (HB6.out.tch v3 _ hbs.1 hbs.2.1 hbs.2.2)
        clear hbs
        go_wp2_with fail
        go_roundw
        case rel => exact ⟨k+1,by omega,by go_num,by have:=HB7.out;rw [HST.out,HLI.out];show BS _ _ _ _ _;simpa only [txt_list,List.append_assoc] using this⟩
        case measure => simp [intOf];omega
    · obtain rfl:k=f.len:=by omega
      have HE:Hid (WriteEnd w v0 (L++ftx f) (.returned u0) wr):=⟨u0,rfl,by have:=HBS.out;rwa [f.take_all _ (Nat.le_refl _)] at this⟩
      clear HBS
      go_wp2_with fail
      go_ret
      exact HE.out
end Go.Proofs.YtgidfnhfgiehjaaGreatDoor
end
