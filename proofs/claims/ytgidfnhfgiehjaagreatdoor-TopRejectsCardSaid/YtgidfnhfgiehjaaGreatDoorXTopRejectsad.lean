/-
  Texts of the proof, joined: Kinds FCheck Work PlainFs FCount FDepth CloneF CloneG FApp. Conditions: as each names.
-/
import Derived.Test.YtgidfnhfgiehjaaGreatDoorXTopRejectsab
import Derived.Test.YtgidfnhfgiehjaaGreatDoorXTopRejectsac
import Derived.Test.YtgidfnhfgiehjaaGreatDoorXTopRejectsaa
import Derived.Deep.LoopGhost
import Derived.Deep.DeepAppendWide
import Derived.Deep.AppendSrc

section
namespace Go.Proofs.YtgidfnhfgiehjaaGreatDoor
open Go.RowKit Go.PM
set_option maxRecDepth 100000
set_option maxHeartbeats 4000000
attribute [local go_sem ↓] Go.wp_at_zero Go.wp_at_succ
def spv (s:Sp):List Value:=[.int .u64 (s.tag:Int),.int .i64 (s.use:Int),.int .i64 (s.from_:Int),.string (txt s.nm)]
def sps (l:List Sp):List Value:=l.flatMap spv
theorem sps_app (l m:List Sp):sps (l++m)=sps l++sps m:=by simp [sps]
theorem sps_at:∀ (l:List Sp) (k:Nat) (h:k < l.length),(sps l)[k * 4]? = some (.int .u64 (l[k].tag:Int))∧(sps l)[k * 4+1]? = some (.int .i64 (l[k].use:Int))∧(sps l)[k * 4+2]? = some (.int .i64 (l[k].from_:Int))∧(sps l)[k * 4+3]? = some (.string (txt l[k].nm))
 | a :: r,0,_ => ⟨rfl,rfl,rfl,rfl⟩
 | a :: r,k+1,h => by
   have ih:=sps_at r k (by simpa using h)
   rw [show (k+1) * 4=k * 4+1+1+1+1 by omega]
   exact ih
theorem sps_one (l:List Sp):∀ u ∈ sps l,u.oneCell'=true:=fun u hu => by
 obtain ⟨a,_,h⟩:=List.mem_flatMap.1 hu
 simp only [spv,List.mem_cons,List.not_mem_nil,or_false] at h
 rcases h with rfl | rfl | rfl | rfl <;> rfl
theorem rd_spec {w:World} {A:Option Addr} {l:List Sp} (h:Rd w A (sps l)) {k:Nat} (hk:k < l.length):∃ b off,A=some ⟨b,off,none⟩∧b < w.heap.size∧w.cell? ⟨b,off+k * 4,none⟩=some (.int .u64 (l[k].tag:Int)) ∧
 w.cell? ⟨b,off+k * 4+1,none⟩=some (.int .i64 (l[k].use:Int))∧w.cell? ⟨b,off+k * 4+2,none⟩=some (.int .i64 (l[k].from_:Int))∧w.cell? ⟨b,off+k * 4+3,none⟩=some (.string (txt l[k].nm)):=by
 obtain ⟨h1,h2,h3,h4⟩:=sps_at l k hk
 rcases h with h | ⟨b,off,e,hb,hc⟩
 · rw [h] at h1;simp at h1
 · exact ⟨b,off,e,hb,hc _ _ h1,hc _ _ h2,hc _ _ h3,hc _ _ h4⟩
theorem rd_new (w:World) (t:TypeId) (l:List Value):Rd (w.alloc (.cells l.toArray t)) (some ⟨w.heap.size,0,none⟩) l:=by
 refine .inr ⟨_,_,rfl,by simp,fun j u hj => ?_⟩
 rw [Nat.zero_add,(BlkAt.made w t l.toArray).cell]
 simpa using hj
def SpEnd (w:World) (k:Nat) (e:Ending) (w':World):Prop:=∃ b,e=.returned (.slice (some ⟨b,0,none⟩) (kspecs k).length (kspecs k).length)∧w.heap.size≤b∧Rd w' (some ⟨b,0,none⟩) (sps (kspecs k))∧Below w.heap.size w w'
theorem spEnd (w:World) (k:Nat):SpEnd w k (.returned (.slice (some ⟨w.heap.size,0,none⟩) (kspecs k).length (kspecs k).length)) (w.alloc (.cells (sps (kspecs k)).toArray 94)) :=
 ⟨_,rfl,Nat.le_refl _,rd_new _ _ _,ba b0 _⟩
theorem hello_any (w:World):Calls Tryz.prog 127 #[] w (SpEnd w 1):=by
 have HE:=Lib.hid (spEnd w 1)
 go_enter Tryz.func127,Tryz.ntmps127
 go_wp2_with fail
 go_ret
 exact HE.out
theorem helloAck_any (w:World):Calls Tryz.prog 128 #[] w (SpEnd w 2):=by
 have HE:=Lib.hid (spEnd w 2)
 go_enter Tryz.func128,Tryz.ntmps128
 go_wp2_with fail
 go_ret
 exact HE.out
theorem checkRequest_any (w:World):Calls Tryz.prog 129 #[] w (SpEnd w 3):=by
 have HE:=Lib.hid (spEnd w 3)
 go_enter Tryz.func129,Tryz.ntmps129
 go_wp2_with fail
 go_ret
 exact HE.out
theorem checkResponse_any (w:World):Calls Tryz.prog 130 #[] w (SpEnd w 4):=by
 have HE:=Lib.hid (spEnd w 4)
 go_enter Tryz.func130,Tryz.ntmps130
 go_wp2_with fail
 go_ret
 exact HE.out
theorem fullSnapshot_any (w:World):Calls Tryz.prog 131 #[] w (SpEnd w 5):=by
 have HE:=Lib.hid (spEnd w 5)
 go_enter Tryz.func131,Tryz.ntmps131
 go_wp2_with fail
 go_ret
 exact HE.out
theorem deltaSnapshot_any (w:World):Calls Tryz.prog 132 #[] w (SpEnd w 6):=by
 have HE:=Lib.hid (spEnd w 6)
 go_enter Tryz.func132,Tryz.ntmps132
 go_wp2_with fail
 go_ret
 exact HE.out
theorem ack_any (w:World):Calls Tryz.prog 133 #[] w (SpEnd w 7):=by
 have HE:=Lib.hid (spEnd w 7)
 go_enter Tryz.func133,Tryz.ntmps133
 go_wp2_with fail
 go_ret
 exact HE.out
theorem reject_any (w:World):Calls Tryz.prog 134 #[] w (SpEnd w 8):=by
 have HE:=Lib.hid (spEnd w 8)
 go_enter Tryz.func134,Tryz.ntmps134
 go_wp2_with fail
 go_ret
 exact HE.out
def kfn:Nat→Nat
 | 1 => 127
 | 2 => 128
 | 3 => 129
 | 4 => 130
 | 5 => 131
 | 6 => 132
 | 7 => 133
 | _ => 134
theorem specs_of (w:World):∀ k,1≤k→k≤8→Calls Tryz.prog (kfn k) #[] w (SpEnd w k)
 | 1,_,_ => hello_any w
 | 2,_,_ => helloAck_any w
 | 3,_,_ => checkRequest_any w
 | 4,_,_ => checkResponse_any w
 | 5,_,_ => fullSnapshot_any w
 | 6,_,_ => deltaSnapshot_any w
 | 7,_,_ => ack_any w
 | 8,_,_ => reject_any w
 | 0,h,_ => absurd h (by omega)
 | n+9,_,h => absurd h (by omega)
def kv (k:Nat):Value:=.agg #[.string (txt (kname k)),.int .i64 (kfrom k:Int),.func (.func (kfn k)) #[] #[]]
def zkind:Value:=.agg #[.string ⟨#[]⟩,.int .i64 0,.nilFunc]
theorem zero_kind (w:World):(zeroValue 145).run Tryz.prog w=.ok zkind w:=rfl
theorem key_int:Maps.Keyed Tryz.prog 3:=Maps.int_keyed Tryz.underlying3
def kindL:List (Lit × Value):=[(.int .i64 1,kv 1),(.int .i64 2,kv 2),(.int .i64 3,kv 3),(.int .i64 4,kv 4),(.int .i64 5,kv 5),(.int .i64 6,kv 6),(.int .i64 7,kv 7),(.int .i64 8,kv 8)]
theorem all17 (w:World):Calls Tryz.prog 79 #[] w fun e w' => e=.returned (.map (some w.heap.size))∧MapAt w' Tryz.prog 3 w.heap.size kindL∧Below w.heap.size w w':=by
 have hmm:=@run_makeMap Tryz.prog
 have H0:=Lib.hid (MapAt.made w Tryz.prog 3)
 have B0:=Lib.hid (ba (a:=w) b0 (.map #[] 0))
 go_enter Tryz.func79,Tryz.ntmps79
 go_wp2_with (first |
  (with_reducible show wpList _ _ _ (Oper.mk _ (Op.insert _ _ _ _) _ _ _ _ :: _) _ _;refine wpList_ins_v _ rfl _ _ _ 146 rfl 3 145 key_int Tryz.underlying146 _ _ rfl H0.out (by unfold maxLen;simp) (.int .i64 1) (kv 1) (.int .i64 1) rfl rfl (Maps.keyOf_int_mk Tryz.underlying3 (by decide)) (isKey_int _ _) ?_;intro w1 h1 g1;have H1:=Lib.hid h1;have B1:=Lib.hid (bg B0.out g1 (Nat.le_refl _));clear h1 g1 H0 B0) |
  (with_reducible show wpList _ _ _ (Oper.mk _ (Op.insert _ _ _ _) _ _ _ _ :: _) _ _;refine wpList_ins_v _ rfl _ _ _ 146 rfl 3 145 key_int Tryz.underlying146 _ _ rfl H1.out (by unfold maxLen;simp) (.int .i64 2) (kv 2) (.int .i64 2) rfl rfl (Maps.keyOf_int_mk Tryz.underlying3 (by decide)) (isKey_int _ _) ?_;intro w2 h2 g2;have H2:=Lib.hid h2;have B2:=Lib.hid (bg B1.out g2 (Nat.le_refl _));clear h2 g2 H1 B1) |
  (with_reducible show wpList _ _ _ (Oper.mk _ (Op.insert _ _ _ _) _ _ _ _ :: _) _ _;refine wpList_ins_v _ rfl _ _ _ 146 rfl 3 145 key_int Tryz.underlying146 _ _ rfl H2.out (by unfold maxLen;simp) (.int .i64 3) (kv 3) (.int .i64 3) rfl rfl (Maps.keyOf_int_mk Tryz.underlying3 (by decide)) (isKey_int _ _) ?_;intro w3 h3 g3;have H3:=Lib.hid h3;have B3:=Lib.hid (bg B2.out g3 (Nat.le_refl _));clear h3 g3 H2 B2) |
  (with_reducible show wpList _ _ _ (Oper.mk _ (Op.insert _ _ _ _) _ _ _ _ :: _) _ _;refine wpList_ins_v _ rfl _ _ _ 146 rfl 3 145 key_int Tryz.underlying146 _ _ rfl H3.out (by unfold maxLen;simp) (.int .i64 4) (kv 4) (.int .i64 4) rfl rfl (Maps.keyOf_int_mk Tryz.underlying3 (by decide)) (isKey_int _ _) ?_;intro w4 h4 g4;have H4:=Lib.hid h4;have B4:=Lib.hid (bg B3.out g4 (Nat.le_refl _));clear h4 g4 H3 B3) |
  (with_reducible show wpList _ _ _ (Oper.mk _ (Op.insert _ _ _ _) _ _ _ _ :: _) _ _;refine wpList_ins_v _ rfl _ _ _ 146 rfl 3 145 key_int Tryz.underlying146 _ _ rfl H4.out (by unfold maxLen;simp) (.int .i64 5) (kv 5) (.int .i64 5) rfl rfl (Maps.keyOf_int_mk Tryz.underlying3 (by decide)) (isKey_int _ _) ?_;intro w5 h5 g5;have H5:=Lib.hid h5;have B5:=Lib.hid (bg B4.out g5 (Nat.le_refl _));clear h5 g5 H4 B4) |
  (with_reducible show wpList _ _ _ (Oper.mk _ (Op.insert _ _ _ _) _ _ _ _ :: _) _ _;refine wpList_ins_v _ rfl _ _ _ 146 rfl 3 145 key_int Tryz.underlying146 _ _ rfl H5.out (by unfold maxLen;simp) (.int .i64 6) (kv 6) (.int .i64 6) rfl rfl (Maps.keyOf_int_mk Tryz.underlying3 (by decide)) (isKey_int _ _) ?_;intro w6 h6 g6;have H6:=Lib.hid h6;have B6:=Lib.hid (bg B5.out g6 (Nat.le_refl _));clear h6 g6 H5 B5) |
  (with_reducible show wpList _ _ _ (Oper.mk _ (Op.insert _ _ _ _) _ _ _ _ :: _) _ _;refine wpList_ins_v _ rfl _ _ _ 146 rfl 3 145 key_int Tryz.underlying146 _ _ rfl H6.out (by unfold maxLen;simp) (.int .i64 7) (kv 7) (.int .i64 7) rfl rfl (Maps.keyOf_int_mk Tryz.underlying3 (by decide)) (isKey_int _ _) ?_;intro w7 h7 g7;have H7:=Lib.hid h7;have B7:=Lib.hid (bg B6.out g7 (Nat.le_refl _));clear h7 g7 H6 B6) |
  (with_reducible show wpList _ _ _ (Oper.mk _ (Op.insert _ _ _ _) _ _ _ _ :: _) _ _;refine wpList_ins_v _ rfl _ _ _ 146 rfl 3 145 key_int Tryz.underlying146 _ _ rfl H7.out (by unfold maxLen;simp) (.int .i64 8) (kv 8) (.int .i64 8) rfl rfl (Maps.keyOf_int_mk Tryz.underlying3 (by decide)) (isKey_int _ _) ?_;intro w8 h8 g8;have H8:=Lib.hid h8;have B8:=Lib.hid (bg B7.out g8 (Nat.le_refl _));clear h8 g8 H7 B7))
 go_ret
 exact ⟨rfl,H8.out,B8.out⟩
end Go.Proofs.YtgidfnhfgiehjaaGreatDoor
end

section
namespace Go.Proofs.YtgidfnhfgiehjaaGreatDoor
open Go.RowKit Go.PM
set_option maxRecDepth 100000
set_option maxHeartbeats 1000000
def ftyped (y:Int) (n:Nat) (s:ByteArray) (len:Nat):Bool :=
 if y=0 then decide (s.size=0) && decide (len=0) else if y=1 then decide (n=0) && decide (len=0) else if y=2 then decide (n=0) && decide (s.size=0) else false
theorem size_zero {s:ByteArray} (h:s.size=0):s=⟨#[]⟩:=ByteArray.ext (Array.eq_empty_of_size_eq_zero h)
theorem size_some {s:ByteArray} (h:s.size≠0):s.toList.isEmpty=false∧s.toList≠[]:=by
 have:s.toList≠[]:=fun e => h (by rw [ByteArray.toList_eq] at e;have:=congrArg List.length e;simpa using this)
 exact ⟨by simpa using this,this⟩
theorem typed_any (t:Nat) (y:Int) (n:Nat) (s:ByteArray) (A:Option Addr) (len c:Nat) (w:World) (hy:InI64 y) (hl:len≤9223372036854775807) :
 Calls Tryz.prog 151 #[.agg #[.int .u64 (t:Int),.int .i64 y,.int .u64 (n:Int),.string s,.slice A len c]] w fun e w' => e=.returned (.bool (ftyped y n s len))∧Below w.heap.size w w':=by
 unfold ftyped
 by_cases y0:y=0
 · subst y0
   rw [if_pos rfl]
   by_cases hs:s.size=0
   · obtain rfl:=size_zero hs
     by_cases h0:len=0
     · subst h0
       go_enter Tryz.func151,Tryz.ntmps151
       go_wp2
       go_ret
       exact ⟨rfl,ba b0 _⟩
     · have hd:decide (len=0)=false:=by simp;exact h0
       have hi:((len:Int) == 0)=false:=by rw [beq_eq_false_iff_ne];omega
       rw [hd]
       clear hd
       go_enter Tryz.func151,Tryz.ntmps151
       go_wp2
       go_ret
       exact ⟨rfl,ba b0 _⟩
   · obtain ⟨e1,e2⟩:=size_some hs
     rw [decide_eq_false hs]
     go_enter Tryz.func151,Tryz.ntmps151
     go_wp2
     go_ret
     exact ⟨rfl,ba b0 _⟩
 · rw [if_neg y0]
   by_cases y1:y=1
   · subst y1
     rw [if_pos rfl]
     by_cases hn:n=0
     · subst hn
       by_cases h0:len=0
       · subst h0
         go_enter Tryz.func151,Tryz.ntmps151
         go_wp2
         go_ret
         exact ⟨rfl,ba b0 _⟩
       · have hd:decide (len=0)=false:=by simp;exact h0
         have hi:((len:Int) == 0)=false:=by rw [beq_eq_false_iff_ne];omega
         rw [hd]
         clear hd
         go_enter Tryz.func151,Tryz.ntmps151
         go_wp2
         go_ret
         exact ⟨rfl,ba b0 _⟩
     · have hi:((n:Int) == 0)=false:=by rw [beq_eq_false_iff_ne];omega
       rw [decide_eq_false hn]
       go_enter Tryz.func151,Tryz.ntmps151
       go_wp2
       go_ret
       exact ⟨rfl,ba b0 _⟩
   · rw [if_neg y1]
     have i0:((y:Int) == 0)=false:=by rw [beq_eq_false_iff_ne];exact y0
     have i1:((y:Int) == 1)=false:=by rw [beq_eq_false_iff_ne];exact y1
     by_cases y2:y=2
     · subst y2
       rw [if_pos rfl]
       clear y0 y1 i0 i1
       by_cases hn:n=0
       · subst hn
         by_cases hs:s.size=0
         · obtain rfl:=size_zero hs
           go_enter Tryz.func151,Tryz.ntmps151
           go_wp2
           go_ret
           exact ⟨rfl,ba b0 _⟩
         · obtain ⟨e1,e2⟩:=size_some hs
           rw [decide_eq_false hs]
           go_enter Tryz.func151,Tryz.ntmps151
           go_wp2
           go_ret
           exact ⟨rfl,ba b0 _⟩
       · have hi:((n:Int) == 0)=false:=by rw [beq_eq_false_iff_ne];omega
         rw [decide_eq_false hn]
         go_enter Tryz.func151,Tryz.ntmps151
         go_wp2
         go_ret
         exact ⟨rfl,ba b0 _⟩
     · rw [if_neg y2]
       have i2:((y:Int) == 2)=false:=by rw [beq_eq_false_iff_ne];exact y2
       clear y0 y1 y2
       go_enter Tryz.func151,Tryz.ntmps151
       go_wp2
       go_ret
       exact ⟨rfl,ba b0 _⟩
def fcheck:Fs→Nat→Nat→Nat
 | .nil,_,_ => 0
 | .cons t y n s i r,ahead,within =>
   if t=0∨4294967296 < t then 18 else if t≤ahead then 7 else if ftyped y n s i.len=false then 8 else if y≠2 then fcheck r t within else if 8≤within then 9
   else if fcheck i 0 (within+1)≠0 then fcheck i 0 (within+1) else fcheck r t within
def FKd (t:Nat) (y:Int) (n:Nat) (s:ByteArray):Prop:=In64 t∧InI64 y∧In64 n∧s.size≤9223372036854775807
theorem FOk.kd {t:Nat} {y:Int} {n:Nat} {s:ByteArray} (h:FOk t y n s):FKd t y n s:=⟨h.1,by have:=h.2.1;unfold InI64;omega,h.2.2.1,by have:=h.2.2.2;omega⟩
theorem check_any8 (N:Nat):∀ (A:Option Addr) (c:Nat) (f:Fs) (I:Nat→Prop) (within:Nat) (w:World),f.count≤N→SlV w I (.slice A f.len c) f→f.All FKd→f.count≤1000000→within≤8 →
 Calls Tryz.prog 94 #[.slice A f.len c,.int .i64 (within:Int)] w fun e w' => e=.returned (.int .i64 (fcheck f 0 within:Int))∧Below w.heap.size w w':=by
 induction N with
 | zero =>
   intro A c f I within w hN hr hk h60 hw
   have:f=.nil:=Fs.len_zero (by have:=f.len_count;omega)
   subst this
   go_enter Tryz.func94,Tryz.ntmps94
   go_wp2_with fail
   go_loopw [5,11] (fun _ kk wr => kk=.int .i64 0∧wr=w) (fun _ _ _ => 0)
   case atStart => exact ⟨rfl,rfl⟩
   case round =>
    obtain ⟨rfl,rfl⟩:=hrel
    go_wp2_with fail
    go_ret
    exact ⟨rfl,b0⟩
 | succ N ih =>
   intro A c f I within w hN hr hk h60 hw
   have IH:=Lib.hid ih
   have HR:=Lib.hid hr
   have HK:=Lib.hid hk
   have hfl:=f.len_count
   generalize hRR:fcheck f 0 within=R
   have H0:Hid (fcheck (f.drop 0) 0 within=R):=by show _=_;rw [← hRR];cases f <;> rfl
   clear hRR ih hr hk
   go_enter Tryz.func94,Tryz.ntmps94
   go_wp2_with fail
   go_loopw [5,11] (fun aa kk wr => ∃ k ahead:Nat,k≤f.len∧kk=.int .i64 (k:Int)∧aa=.int .u64 (ahead:Int)∧ahead≤4294967296∧Hid (fcheck (f.drop k) ahead within=R)∧Below w.heap.size w wr) (fun _ kk _ => f.len - (intOf kk).toNat)
   case atStart => exact ⟨0,0,by omega,rfl,rfl,by omega,H0,b0⟩
   case round =>
    obtain ⟨k,ahead,hk,rfl,rfl,hah,hR',hbel⟩:=hrel
    have HBEL:=Lib.hid hbel
    have hR:=hR'.out
    by_cases hlt:k < f.len
    · obtain ⟨t,y,n,s,i,hdc,_⟩:=f.drop_cons k hlt
      obtain ⟨A0,c0,hv,hc0,hor⟩:=HR.out.below hbel
      injection hv with hv1 hv2 hv3
      subst hv1 hv3
      rcases hor with h0 | ⟨b,o,rfl,hIb,hbl,hat⟩
      · omega
      have hak:=hat.drop k
      have hkk:=HK.out.drop k
      have hcc:=f.drop_count k
      rw [hdc] at hak hkk hR hcc
      obtain ⟨d0,d1,d2,d3,⟨Ai,ci,d4,hin⟩,_⟩:=hak
      obtain ⟨⟨ht64,hy64,hn64,hs63⟩,hki,_⟩:=hkk
      have hic:i.count≤N∧i.count≤1000000∧i.len≤1000000:=by
       have:=i.len_count
       simp only [Fs.count] at hcc
       omega
      have HTY:Hid (∀ x:World,Calls Tryz.prog 151 #[.agg #[.int .u64 (t:Int),.int .i64 y,.int .u64 (n:Int),.string s,.slice Ai i.len ci]] x fun e w' => e=.returned (.bool (ftyped y n s i.len))∧Below x.heap.size x w'):=fun x => typed_any t y n s Ai i.len ci x hy64 (by omega)
      have HIN:=Lib.hid hin
      have HKI:=Lib.hid hki
      have HT64:=Lib.hid ht64
      clear hdc hat hin hki hbel hv2 hy64 hn64 hR' ht64 hcc H0
      rw [fcheck] at hR
      by_cases ht0:t=0
      · subst ht0
        rw [if_pos (.inl rfl)] at hR
        subst hR
        go_wp2_with (first | (go_at_call 151;refine (HTY.out _).mono ?_;rintro e wt ⟨rfl,hbt⟩;have hm:=(BlkAt.made wr 47 #[.int .u64 (t:Int),.int .i64 y,.int .u64 (n:Int),.string s,.slice Ai i.len ci]).below hbt (by simp);have q1:=hm.cell 1;have q4:=hm.cell 4;simp at q1 q4))
        go_ret
        exact ⟨rfl,HBEL.out.trans (by first | exact (bb (ba b0 _) hbt).mono HBEL.out.size | exact (ba b0 _:Below wr.heap.size wr _).mono HBEL.out.size)⟩
      by_cases ht1:4294967296 < t
      · have hti:((t:Int) == 0)=false:=by rw [beq_eq_false_iff_ne];omega
        rw [if_pos (.inr ht1)] at hR
        subst hR
        go_wp2_with (first | (go_at_call 151;refine (HTY.out _).mono ?_;rintro e wt ⟨rfl,hbt⟩;have hm:=(BlkAt.made wr 47 #[.int .u64 (t:Int),.int .i64 y,.int .u64 (n:Int),.string s,.slice Ai i.len ci]).below hbt (by simp);have q1:=hm.cell 1;have q4:=hm.cell 4;simp at q1 q4))
        go_ret
        exact ⟨rfl,HBEL.out.trans (by first | exact (bb (ba b0 _) hbt).mono HBEL.out.size | exact (ba b0 _:Below wr.heap.size wr _).mono HBEL.out.size)⟩
      rw [if_neg (by omega)] at hR
      have hti:((t:Int) == 0)=false:=by rw [beq_eq_false_iff_ne];omega
      by_cases hta:t≤ahead
      · rw [if_pos hta] at hR
        subst hR
        go_wp2_with (first | (go_at_call 151;refine (HTY.out _).mono ?_;rintro e wt ⟨rfl,hbt⟩;have hm:=(BlkAt.made wr 47 #[.int .u64 (t:Int),.int .i64 y,.int .u64 (n:Int),.string s,.slice Ai i.len ci]).below hbt (by simp);have q1:=hm.cell 1;have q4:=hm.cell 4;simp at q1 q4))
        go_ret
        exact ⟨rfl,HBEL.out.trans (by first | exact (bb (ba b0 _) hbt).mono HBEL.out.size | exact (ba b0 _:Below wr.heap.size wr _).mono HBEL.out.size)⟩
      rw [if_neg hta] at hR
      cases hty:ftyped y n s i.len with
      | false =>
        rw [hty] at HTY hR
        rw [if_pos rfl] at hR
        clear hty
        subst hR
        go_wp2_with (first | (go_at_call 151;refine (HTY.out _).mono ?_;rintro e wt ⟨rfl,hbt⟩;have hm:=(BlkAt.made wr 47 #[.int .u64 (t:Int),.int .i64 y,.int .u64 (n:Int),.string s,.slice Ai i.len ci]).below hbt (by simp);have q1:=hm.cell 1;have q4:=hm.cell 4;simp at q1 q4))
        go_ret
        exact ⟨rfl,HBEL.out.trans (by first | exact (bb (ba b0 _) hbt).mono HBEL.out.size | exact (ba b0 _:Below wr.heap.size wr _).mono HBEL.out.size)⟩
      | true =>
        rw [hty] at HTY hR
        rw [if_neg (by simp)] at hR
        clear hty
        by_cases hy2:y=2
        · subst hy2
          rw [if_neg (by simp)] at hR
          by_cases hwi:8≤within
          · rw [if_pos hwi] at hR
            subst hR
            go_wp2_with (first | (go_at_call 151;refine (HTY.out _).mono ?_;rintro e wt ⟨rfl,hbt⟩;have hm:=(BlkAt.made wr 47 #[.int .u64 (t:Int),.int .i64 2,.int .u64 (n:Int),.string s,.slice Ai i.len ci]).below hbt (by simp);have q1:=hm.cell 1;have q4:=hm.cell 4;simp at q1 q4))
            go_ret
            exact ⟨rfl,HBEL.out.trans ((bb (ba b0 _) hbt).mono HBEL.out.size)⟩
          rw [if_neg hwi] at hR
          have HSL:Hid (SlV wr I (.slice Ai i.len ci) i):=⟨Ai,ci,rfl,HIN.out⟩
          generalize hE:fcheck i 0 (within+1)=E at hR
          have HE:=Lib.hid hE
          clear hE
          by_cases he:E=0
          · subst he
            rw [if_neg (by simp)] at hR
            have HR2:=Lib.hid hR
            clear hR
            go_wp2_with (first | (go_at_call 151;refine (HTY.out _).mono ?_;rintro e wt ⟨rfl,hbt⟩;have hm:=(BlkAt.made wr 47 #[.int .u64 (t:Int),.int .i64 2,.int .u64 (n:Int),.string s,.slice Ai i.len ci]).below hbt (by simp);have q1:=hm.cell 1;have q4:=hm.cell 4;simp at q1 q4) | (go_at_call 94;refine (IH.out Ai ci i I (within+1) _ hic.1 (HSL.out.below (bb (ba b0 _) hbt)) HKI.out hic.2.1 (by omega)).mono ?_;rw [HE.out];rintro e2 w2 ⟨rfl,hb2⟩))
            go_roundw
            case rel => exact ⟨k+1,t,by omega,by go_num,rfl,by omega,HR2,HBEL.out.trans ((bb (bb (ba b0 _) hbt) hb2).mono HBEL.out.size)⟩
            case measure => simp [intOf];omega
          · rw [if_pos he] at hR
            have hei:((E:Int) != 0)=true:=by rw [bne_iff_ne];omega
            subst hR
            go_wp2_with (first | (go_at_call 151;refine (HTY.out _).mono ?_;rintro e wt ⟨rfl,hbt⟩;have hm:=(BlkAt.made wr 47 #[.int .u64 (t:Int),.int .i64 2,.int .u64 (n:Int),.string s,.slice Ai i.len ci]).below hbt (by simp);have q1:=hm.cell 1;have q4:=hm.cell 4;simp at q1 q4) | (go_at_call 94;refine (IH.out Ai ci i I (within+1) _ hic.1 (HSL.out.below (bb (ba b0 _) hbt)) HKI.out hic.2.1 (by omega)).mono ?_;rw [HE.out];rintro e2 w2 ⟨rfl,hb2⟩))
            go_ret
            exact ⟨rfl,HBEL.out.trans ((bb (bb (ba b0 _) hbt) hb2).mono HBEL.out.size)⟩
        · rw [if_pos hy2] at hR
          have hyi:(y != 2)=true:=by rw [bne_iff_ne];exact hy2
          have HR2:=Lib.hid hR
          clear hR hy2
          go_wp2_with (first | (go_at_call 151;refine (HTY.out _).mono ?_;rintro e wt ⟨rfl,hbt⟩;have hm:=(BlkAt.made wr 47 #[.int .u64 (t:Int),.int .i64 y,.int .u64 (n:Int),.string s,.slice Ai i.len ci]).below hbt (by simp);have q1:=hm.cell 1;have q4:=hm.cell 4;simp at q1 q4))
          go_roundw
          case rel => exact ⟨k+1,t,by omega,by go_num,rfl,by omega,HR2,HBEL.out.trans ((bb (ba b0 _) hbt).mono HBEL.out.size)⟩
          case measure => simp [intOf];omega
    · obtain rfl:k=f.len:=by omega
      have hn:f.drop f.len=.nil:=Fs.len_zero (by rw [Fs.drop_len];omega)
      rw [hn,fcheck] at hR
      subst hR
      clear hR' hbel H0
      go_wp2_with fail
      go_ret
      exact ⟨rfl,HBEL.out⟩
theorem check_of (v:Value) (f:Fs) (I:Nat→Prop) (w:World) (hr:SlV w I v f) (hk:f.All FKd) (h60:f.count≤1000000) :
 Calls Tryz.prog 46 #[v] w fun e w' => e=.returned (.int .i64 (fcheck f 0 0:Int))∧Below w.heap.size w w':=by
 obtain ⟨A,c,rfl,hr'⟩:=hr
 have HC:=Lib.hid (check_any8 f.count A c f I 0 w (Nat.le_refl _) ⟨A,c,rfl,hr'⟩ hk h60 (by omega))
 clear hr' hk
 generalize fcheck f 0 0=E at HC ⊢
 go_enter Tryz.func46,Tryz.ntmps46
 go_wp2_with (first | (go_at_call 94;refine HC.out.mono ?_;rintro e wt ⟨rfl,hbt⟩))
 go_ret
 exact ⟨rfl,hbt⟩
end Go.Proofs.YtgidfnhfgiehjaaGreatDoor
end

section
namespace Go.PM
open Go.RowKit
theorem own_pop {w:World} {base:Nat} {e:TypeId} {size g n cap:Nat} {xs:List Value} (h:w.ownsRow base e size (.slice (some ⟨g,0,none⟩) (n+1) cap) (n+1) xs) :
 w.ownsRow base e size (.slice (some ⟨g,0,none⟩) n cap) n (xs.take (n * size)):=by
 have hle:n * size≤(n+1) * size:=Nat.mul_le_mul_right _ (by omega)
 refine ⟨by rw [List.length_take,h.1];omega,?_⟩
 rcases h.2 with ⟨h',_⟩ | ⟨g',cap',cur,h',hb,hg,hnc,hcm,hcs,htake⟩
 · simp at h'
 · simp only [Value.slice.injEq,Option.some.injEq,Addr.mk.injEq,and_true,true_and] at h'
   obtain ⟨rfl,rfl⟩:=h'
   refine .inr ⟨g,cap,cur,rfl,hb,hg,by omega,hcm,hcs,?_⟩
   rw [← htake,List.take_take,Nat.min_eq_left hle]
theorem own_cap {w:World} {base:Nat} {e:TypeId} {size g n cap:Nat} {xs:List Value} (h:w.ownsRow base e size (.slice (some ⟨g,0,none⟩) n cap) n xs):n≤cap∧cap≤9223372036854775807:=by
 rcases h.2 with ⟨h',_⟩ | ⟨g',cap',cur,h',hb,hg,hnc,hcm,hcs,htake⟩
 · simp at h'
 · simp only [Value.slice.injEq,Option.some.injEq,Addr.mk.injEq,and_true,true_and] at h'
   obtain ⟨rfl,rfl⟩:=h'
   exact ⟨hnc,by unfold maxLen at hcm;omega⟩
def WL (w:World) (I:Nat→Prop) (xs:List Value) (L:List Fs):Prop:=xs.length=L.length∧∀ (j:Nat) (x:Value) (f:Fs),xs[j]? = some x→L[j]? = some f→SlV w I x f
theorem WL.nil {w:World} {I:Nat→Prop}:WL w I [] []:=⟨rfl,fun j x f h => by simp at h⟩
theorem WL.push {w:World} {I:Nat→Prop} {xs:List Value} {L:List Fs} {x:Value} {f:Fs} (h:WL w I xs L) (hx:SlV w I x f):WL w I (xs++[x]) (L++[f]):=by
 refine ⟨by simp [h.1],fun j y g hy hg => ?_⟩
 by_cases hj:j < xs.length
 · rw [List.getElem?_append_left hj] at hy
   rw [List.getElem?_append_left (by rw [← h.1];exact hj)] at hg
   exact h.2 j y g hy hg
 · rw [List.getElem?_append_right (by omega)] at hy
   rw [List.getElem?_append_right (by rw [← h.1];omega),← h.1] at hg
   generalize j - xs.length=m at hy hg
   cases m with
   | zero => simp at hy hg;subst hy hg;exact hx
   | succ m => simp at hy
theorem WL.pop {w:World} {I:Nat→Prop} {xs:List Value} {L:List Fs} {n:Nat} (h:WL w I xs L) (hn:L.length=n+1) :
 ∃ L' f x,L=L'++[f]∧L'.length=n∧xs[n]? = some x∧SlV w I x f∧WL w I (xs.take n) L':=by
 have hx:n < xs.length:=by rw [h.1];omega
 have hL:n < L.length:=by omega
 refine ⟨L.take n,L[n],xs[n],?_,by rw [List.length_take];omega,List.getElem?_eq_getElem hx,h.2 n _ _ (List.getElem?_eq_getElem hx) (List.getElem?_eq_getElem hL),?_⟩
 · have h1:=List.take_append_getElem hL
   rw [h1,List.take_of_length_le (by omega)]
 · refine ⟨by rw [List.length_take,List.length_take,h.1],fun j y g hy hg => ?_⟩
   rw [List.getElem?_take] at hy hg
   by_cases hj:j < n
   · rw [if_pos hj] at hy hg
     exact h.2 j y g hy hg
   · rw [if_neg hj] at hy
     cases hy
end Go.PM
end

section
namespace Go.PM
def lsum:List Fs→Nat
 | [] => 0
 | f :: L => f.count+lsum L
theorem lsum_app:∀ (L M:List Fs),lsum (L++M)=lsum L+lsum M
 | [],M => by simp [lsum]
 | f :: L,M => by simp only [List.cons_append,lsum,lsum_app L M];omega
def Fs.icount:Fs→Nat
 | .nil => 0
 | .cons _ _ _ _ i r => i.count+r.icount
theorem Fs.count_in:∀ f:Fs,f.count=f.len+f.icount
 | .nil => rfl
 | .cons _ _ _ _ i r => by simp only [Fs.count,Fs.len,Fs.icount,Fs.count_in r];omega
/-! ### Depth -/
def Fs.more:Fs→Bool
 | .nil => false
 | .cons _ y _ _ i r => decide (y=2∨0 < i.len) || r.more
/-! ### Whether two lists are one -/
def Fs.same:Fs→Fs→Bool
 | .nil,.nil => true
 | .cons t y n s i r,.cons t' y' n' s' i' r' => decide (t=t'∧y=y'∧n=n'∧s=s') && (i.same i' && r.same r')
 | _,_ => false
end Go.PM
end

section
namespace Go.Proofs.YtgidfnhfgiehjaaGreatDoor
open Go.RowKit Go.PM
set_option maxRecDepth 100000
set_option maxHeartbeats 1000000
theorem info_fields:(Tryz.prog.info? 33).map (fun i => (i.zero,i.size,i.bytes))=some (some (.slice none 0 0),1,24):=by kernel_rfl
end Go.Proofs.YtgidfnhfgiehjaaGreatDoor
end

section
namespace Go.Proofs.YtgidfnhfgiehjaaGreatDoor
open Go.RowKit Go.PM
set_option maxRecDepth 100000
set_option maxHeartbeats 4000000
def LvAt (base:Nat) (w0:World) (I:Nat→Prop) (v:Value) (L:List Fs) (wr:World):Prop :=
 ∃ xs:List Value,wr.ownsRow base 33 1 v L.length xs∧WL w0 I xs L
theorem LvAt.form {base:Nat} {w0 wr:World} {I:Nat→Prop} {v:Value} {L:List Fs} (h:LvAt base w0 I v L wr):∃ A c,v=.slice A L.length c:=by
 obtain ⟨xs,h1,_⟩:=h
 obtain ⟨A,c,rfl,_⟩:=Rd.own h1
 exact ⟨A,c,rfl⟩
theorem LvAt.at_ {base:Nat} {w0 wr:World} {I:Nat→Prop} {A:Option Addr} {n c:Nat} {L:List Fs} (h:LvAt base w0 I (.slice A n c) L wr) {j:Nat} (hj:j < L.length) :
 ∃ g f x,A=some ⟨g,0,none⟩∧base≤g∧g < wr.heap.size∧L[j]? = some f∧wr.cell? ⟨g,j,none⟩=some x∧SlV w0 I x f:=by
 obtain ⟨xs,h1,h2⟩:=h
 obtain ⟨g,cap,hv,hb,hlt⟩:=h1.form (by omega)
 injection hv with e1 e2 e3
 subst e1 e2 e3
 have hx:j < xs.length:=by rw [h2.1];exact hj
 refine ⟨g,L[j],xs[j],rfl,hb,hlt,List.getElem?_eq_getElem hj,?_,h2.2 j _ _ (List.getElem?_eq_getElem hx) (List.getElem?_eq_getElem hj)⟩
 have hc:=h1.cellAt j (by omega)
 rw [hc,List.getElem?_eq_getElem hx]
theorem LvAt.below {base:Nat} {w0 wr w':World} {I:Nat→Prop} {v:Value} {L:List Fs} (h:LvAt base w0 I v L wr) (hb:Below wr.heap.size wr w'):LvAt base w0 I v L w':=by
 obtain ⟨xs,h1,h2⟩:=h
 exact ⟨xs,own_below h1 hb,h2⟩
theorem LvAt.mono {base base':Nat} {w0 wr:World} {I:Nat→Prop} {v:Value} {L:List Fs} (h:LvAt base w0 I v L wr) (hb:base'≤base):LvAt base' w0 I v L wr:=by
 obtain ⟨xs,⟨h0,h1⟩,h2⟩:=h
 refine ⟨xs,⟨h0,h1.imp id ?_⟩,h2⟩
 rintro ⟨g,cap,cur,e1,e2,e3⟩
 exact ⟨g,cap,cur,e1,by omega,e3⟩
end Go.Proofs.YtgidfnhfgiehjaaGreatDoor
end

section
namespace Go.PM
open Go.RowKit
section
variable {w w':World} {I J:Nat→Prop}
theorem FsAt.uniq:∀ {f g:Fs} {b o:Nat},FsAt w I f b o→FsAt w J g b o→f.len=g.len→f=g
 | .nil,.nil,_,_,_,_,_ => rfl
 | .nil,.cons ..,_,_,_,_,h => by simp [Fs.len] at h
 | .cons ..,.nil,_,_,_,_,h => by simp [Fs.len] at h
 | .cons t y n s i r,.cons t' y' n' s' i' r',b,o,h,k,hl => by
   obtain ⟨h1,h2,h3,h4,⟨A,c,h5,_,h6⟩,h7⟩:=h
   obtain ⟨k1,k2,k3,k4,⟨A',c',k5,_,k6⟩,k7⟩:=k
   have e1:=h1.symm.trans k1
   have e2:=h2.symm.trans k2
   have e3:=h3.symm.trans k3
   have e4:=h4.symm.trans k4
   have e5:=h5.symm.trans k5
   simp only [Option.some.injEq,Value.int.injEq,Value.string.injEq,Value.slice.injEq,true_and,Int.natCast_inj] at e1 e2 e3 e4 e5
   obtain ⟨rfl,e5,rfl⟩:=e5
   have hr:=FsAt.uniq h7 k7 (by simp only [Fs.len] at hl;omega)
   have hi:i=i':=by
    rcases h6 with h0 | ⟨b',o',hA,_,_,h8⟩
    · have a1:i=.nil:=Fs.len_zero h0
      have a2:i'=.nil:=Fs.len_zero (by omega)
      rw [a1,a2]
    · rcases k6 with h0 | ⟨b2,o2,hA2,_,_,k8⟩
      · have a1:i=.nil:=Fs.len_zero (by omega)
        have a2:i'=.nil:=Fs.len_zero h0
        rw [a1,a2]
      · rw [hA] at hA2
        injection hA2 with hA2
        injection hA2 with e6 e7
        subst e6 e7
        exact FsAt.uniq h8 k8 e5
   rw [e1,e2,e3,e4,hi,hr]
theorem FsAt.anew {p:Addr} {A A':Option Addr} {c c':Nat} {j:Fs} (hp:w.cell? p=some (.slice A j.len c)) (hj:j.len=0∨∃ b o,A=some ⟨b,o,none⟩∧FsAt w I j b o)
 (hj':j.len≤c'∧(j.len=0∨∃ b o,A'=some ⟨b,o,none⟩∧I b∧b < w.heap.size∧FsAt w I j b o)):∀ {f:Fs} {b o:Nat},FsAt w I f b o→FsAt (w.setCell p (.slice A' j.len c')) I f b o
 | .nil,_,_,_ => trivial
 | .cons t y n s i r,b,o,h => by
   obtain ⟨h1,h2,h3,h4,⟨B,d,h5,hd,h6⟩,h7⟩:=h
   have hs:(w.setCell p (.slice A' j.len c')).heap.size=w.heap.size:=by simp [World.setCell]
   have oth:∀ {q:Addr} {v:Value},w.cell? q=some v→(∀ A n c,v≠.slice A n c)→(w.setCell p (.slice A' j.len c')).cell? q=some v:=fun {q v} hq hv => by
    rw [World.cell?_setCell_other _ _ _ _ (by rintro rfl;rw [hp] at hq;injection hq with hq;exact hv _ _ _ hq.symm)]
    exact hq
   refine ⟨oth h1 (by simp),oth h2 (by simp),oth h3 (by simp),oth h4 (by simp),?_,FsAt.anew hp hj hj' h7⟩
   by_cases e:p=⟨b,o+4,none⟩
   · have h5':=h5
     rw [← e,hp] at h5'
     simp only [Option.some.injEq,Value.slice.injEq] at h5'
     obtain ⟨e1,e2,e3⟩:=h5'
     have hij:i=j:=by
      rcases h6 with h0 | ⟨b',o',hA,_,_,h8⟩
      · rw [Fs.len_zero h0,Fs.len_zero (show j.len=0 by omega)]
      · rcases hj with h0 | ⟨b2,o2,hA2,k8⟩
        · rw [Fs.len_zero h0,Fs.len_zero (show i.len=0 by omega)]
        · rw [← e1,hA2] at hA
          injection hA with hA
          injection hA with e6 e7
          subst e6 e7
          exact FsAt.uniq h8 k8 e2.symm
     subst hij
     refine ⟨A',c',?_,hj'.1,?_⟩
     · rw [← e]
       exact World.cell?_setCell_same _ _ _ hp
     · rcases hj'.2 with h0 | ⟨b',o',hA,hI,hb,h8⟩
       · exact .inl h0
       · exact .inr ⟨b',o',hA,hI,by rw [hs];exact hb,FsAt.anew hp hj hj' h8⟩
   · refine ⟨B,d,?_,hd,?_⟩
     · rw [World.cell?_setCell_other _ _ _ _ e]
       exact h5
     · rcases h6 with h0 | ⟨b',o',hA,hI,hb,h8⟩
       · exact .inl h0
       · exact .inr ⟨b',o',hA,hI,by rw [hs];exact hb,FsAt.anew hp hj hj' h8⟩
def FB (w:World) (T:TypeId) (k:Nat):Prop:=∃ cs,BlkAt w k T cs
theorem FB.lt {T:TypeId} {k:Nat} (h:FB w T k):k < w.heap.size:=by obtain ⟨cs,h⟩:=h;exact h.lt
theorem FB.below {T:TypeId} {k:Nat} (h:FB w T k) (hb:Below w.heap.size w w'):FB w' T k:=by obtain ⟨cs,h⟩:=h;exact ⟨cs,h.below hb h.lt⟩
theorem FB.tch {S:Nat→Prop} {T:TypeId} {k:Nat} (h:FB w T k) (hb:Tch S w w') (hk:¬ S k):FB w' T k:=by obtain ⟨cs,h⟩:=h;exact ⟨cs,h.tch hb hk⟩
theorem FB.put {T:TypeId} {k b i:Nat} (h:FB w T k) (u:Value):FB (w.setCell ⟨b,i,none⟩ u) T k:=by
 obtain ⟨cs,h⟩:=h
 by_cases e:k=b
 · subst e;exact ⟨_,h.put i u⟩
 · exact ⟨cs,h.far e u⟩
def FZ (w:World) (T:TypeId) (k n:Nat):Prop:=∃ cs,BlkAt w k T cs∧cs.size=n
theorem FZ.fb {T:TypeId} {k n:Nat} (h:FZ w T k n):FB w T k:=by obtain ⟨cs,h,_⟩:=h;exact ⟨cs,h⟩
theorem FZ.below {T:TypeId} {k n:Nat} (h:FZ w T k n) (hb:Below w.heap.size w w'):FZ w' T k n:=by obtain ⟨cs,h,hn⟩:=h;exact ⟨cs,h.below hb h.lt,hn⟩
theorem FZ.tch {S:Nat→Prop} {T:TypeId} {k n:Nat} (h:FZ w T k n) (hb:Tch S w w') (hk:¬ S k):FZ w' T k n:=by obtain ⟨cs,h,hn⟩:=h;exact ⟨cs,h.tch hb hk,hn⟩
theorem FZ.put {T:TypeId} {k b i n:Nat} (h:FZ w T k n) (u:Value):FZ (w.setCell ⟨b,i,none⟩ u) T k n:=by
 obtain ⟨cs,h,hn⟩:=h
 by_cases e:k=b
 · subst e;exact ⟨_,h.put i u,by simpa using hn⟩
 · exact ⟨cs,h.far e u,hn⟩
def IC (H:Nat) (T:TypeId) (w:World) (k:Nat):Prop:=k < H∨FB w T k
def CE (H:Nat) (T:TypeId) (w:World) (x:Value) (f:Fs):Prop :=
 ∃ A c,x=.slice A f.len c∧f.len≤c∧(f.len=0∧A=none∧c=0∨∃ b,A=some ⟨b,0,none⟩∧H≤b∧c≤maxLen∧FZ w T b (c * 5)∧FsAt w (IC H T w) f b 0)
def Rp (H:Nat) (T:TypeId) (w w':World):Prop:=(∀ f b o,IC H T w b→FsAt w (IC H T w) f b o→FsAt w' (IC H T w') f b o)∧(∀ k,FB w T k→FB w' T k)∧(∀ k n,FZ w T k n→FZ w' T k n)
theorem Rp.trans {H:Nat} {T:TypeId} {a:World} (h:Rp H T a w) (k:Rp H T w w'):Rp H T a w' :=
 ⟨fun f b o hb hf => k.1 f b o (hb.imp id (h.2.1 b)) (h.1 f b o hb hf),fun j hj => k.2.1 j (h.2.1 j hj),fun j n hj => k.2.2 j n (h.2.2 j n hj)⟩
theorem Rp.below {H:Nat} {T:TypeId} (hH:H≤w.heap.size) (hb:Below w.heap.size w w'):Rp H T w w':=by
 have hI:∀ k,IC H T w k→k < w.heap.size:=fun k hk => by rcases hk with h | h;omega;exact h.lt
 refine ⟨fun f b o hb' hf => (hf.keep hb.size (fun k _ hk => hb.block k hk) (hb.block b (hI b hb'))).imp fun k hk => hk.imp id fun h => h.below hb,fun k hk => hk.below hb,fun k n hk => hk.below hb⟩
theorem Rp.tch {H g:Nat} {T:TypeId} (hH:H≤w.heap.size) (hb:Tch (fun k => some g=some k) w w') (hg:H≤g) (hT:¬ FB w T g):Rp H T w w':=by
 have hI:∀ k,IC H T w k→k < w.heap.size:=fun k hk => by rcases hk with h | h;omega;exact h.lt
 have hn:∀ k,IC H T w k→¬ (some g=some k):=fun k hk e => by
  injection e with e
  subst e
  rcases hk with h | h
  · omega
  · exact hT h
 refine ⟨fun f b o hb' hf => (hf.keep hb.size (fun k hk hl => hb.block k hl (hn k hk)) (hb.block b (hI b hb') (hn b hb'))).imp fun k hk => hk.imp id fun h => h.tch hb (hn k (.inr h)),fun k hk => hk.tch hb (hn k (.inr hk)),fun k n hk => hk.tch hb (hn k (.inr hk.fb))⟩
theorem Rp.anew {H:Nat} {T:TypeId} {b q:Nat} {A A':Option Addr} {c c':Nat} {j:Fs} (hp:w.cell? ⟨b,q,none⟩=some (.slice A j.len c)) (hj:j.len=0∨∃ b o,A=some ⟨b,o,none⟩∧FsAt w (IC H T w) j b o)
 (hj':j.len≤c'∧(j.len=0∨∃ b o,A'=some ⟨b,o,none⟩∧IC H T w b∧b < w.heap.size∧FsAt w (IC H T w) j b o)):Rp H T w (w.setCell ⟨b,q,none⟩ (.slice A' j.len c')) :=
 ⟨fun _ _ _ _ hf => (hf.anew hp hj hj').imp fun _ hk => hk.imp id fun h => h.put _,fun _ hk => hk.put _,fun _ _ hk => hk.put _⟩
theorem CE.rp {H:Nat} {T:TypeId} {x:Value} {f:Fs} (h:CE H T w x f) (hr:Rp H T w w'):CE H T w' x f:=by
 obtain ⟨A,c,hx,hc,h⟩:=h
 exact ⟨A,c,hx,hc,h.imp id fun ⟨b,hA,hH,hm,hb,hf⟩ => ⟨b,hA,hH,hm,hr.2.2 b _ hb,hr.1 f b 0 (.inr hb.fb) hf⟩⟩
def CL (H:Nat) (T:TypeId) (w:World) (xs:List Value) (L:List Fs):Prop:=xs.length=L.length∧∀ (j:Nat) (x:Value) (f:Fs),xs[j]? = some x→L[j]? = some f→CE H T w x f
theorem CL.rp {H:Nat} {T:TypeId} {xs:List Value} {L:List Fs} (h:CL H T w xs L) (hr:Rp H T w w'):CL H T w' xs L:=⟨h.1,fun j x f hx hf => (h.2 j x f hx hf).rp hr⟩
theorem CL.nil {H:Nat} {T:TypeId}:CL H T w [] []:=⟨rfl,fun j x f h => by simp at h⟩
theorem CL.push {H:Nat} {T:TypeId} {xs:List Value} {L:List Fs} {x:Value} {f:Fs} (h:CL H T w xs L) (hx:CE H T w x f):CL H T w (xs++[x]) (L++[f]):=by
 refine ⟨by simp [h.1],fun j y g hy hg => ?_⟩
 by_cases hj:j < xs.length
 · rw [List.getElem?_append_left hj] at hy
   rw [List.getElem?_append_left (by rw [← h.1];exact hj)] at hg
   exact h.2 j y g hy hg
 · rw [List.getElem?_append_right (by omega)] at hy
   rw [List.getElem?_append_right (by rw [← h.1];omega),← h.1] at hg
   generalize j - xs.length=m at hy hg
   cases m with
   | zero => simp at hy hg;subst hy hg;exact hx
   | succ m => simp at hy
theorem CL.pop {H:Nat} {T:TypeId} {xs:List Value} {L:List Fs} {n:Nat} (h:CL H T w xs L) (hn:L.length=n+1) :
 ∃ L' f x,L=L'++[f]∧L'.length=n∧xs[n]? = some x∧CE H T w x f∧CL H T w (xs.take n) L':=by
 have hx:n < xs.length:=by rw [h.1];omega
 have hL:n < L.length:=by omega
 refine ⟨L.take n,L[n],xs[n],?_,by rw [List.length_take];omega,List.getElem?_eq_getElem hx,h.2 n _ _ (List.getElem?_eq_getElem hx) (List.getElem?_eq_getElem hL),?_⟩
 · have h1:=List.take_append_getElem hL
   rw [h1,List.take_of_length_le (by omega)]
 · refine ⟨by rw [List.length_take,List.length_take,h.1],fun j y g hy hg => ?_⟩
   rw [List.getElem?_take] at hy hg
   by_cases hj:j < n
   · rw [if_pos hj] at hy hg
     exact h.2 j y g hy hg
   · rw [if_neg hj] at hy
     cases hy
def GP (H g0:Nat) (T:TypeId) (w:World) (xs:List Value) (cur k n:Nat):Prop :=
 ∀ b cs,H≤b→BlkAt w b T cs→∀ (o:Nat) (A:Addr) (m c:Nat),cs[o]? = some (.slice (some A) m c)→m≠0→g0 < A.block∨(∃ off m' c',Value.slice (some ⟨b,off,none⟩) m' c' ∈ xs∧o < 5 * m')∨(b=cur∧5 * k≤o∧o < 5 * n)
theorem cls_of_blk {T:TypeId} {f:Fs} {g:Nat} {cs:Array Value} (h:FsAt w I f g 0) (hb:BlkAt w g T cs):Cls w I (cs.toList.take (f.len * 5)) f:=by
 obtain ⟨xs,hx,hc⟩:=h.cls
 have hl:=hx.length
 have e:xs=cs.toList.take (f.len * 5):=by
  apply List.ext_getElem?
  intro j
  by_cases hj:j < xs.length
  · have h1:=hc j xs[j] (List.getElem?_eq_getElem hj)
    rw [Nat.zero_add,hb.cell] at h1
    rw [List.getElem?_eq_getElem hj,List.getElem?_take,if_pos (by omega),Array.getElem?_toList,h1]
  · rw [List.getElem?_eq_none (by omega),List.getElem?_take,if_neg (by omega)]
 rw [← e]
 exact hx
theorem GP.out {H g0:Nat} {T:TypeId} (h:GP H g0 T w [] 0 0 0) (hH:H≤g0):∀ {f:Fs} {b o:Nat},H≤b→FB w T b→FsAt w (IC H T w) f b o→FsAt w (fun k => g0 < k∧FB w T k) f b o
 | .nil,_,_,_,_,_ => trivial
 | .cons t y n s i r,b,o,hb,hF,hf => by
   obtain ⟨h1,h2,h3,h4,⟨A,c,h5,hc,h6⟩,h7⟩:=hf
   refine ⟨h1,h2,h3,h4,⟨A,c,h5,hc,?_⟩,GP.out h hH hb hF h7⟩
   rcases h6 with h0 | ⟨b',o',hA,hI,hlt,h8⟩
   · exact .inl h0
   · by_cases h0:i.len=0
     · exact .inl h0
     right
     obtain ⟨cs,hcs⟩:=hF
     subst hA
     have hg:g0 < b':=by
      rw [hcs.cell] at h5
      rcases h b cs hb hcs (o+4) ⟨b',o',none⟩ i.len c h5 h0 with h | ⟨_,_,_,h,_⟩ | ⟨_,_,h⟩
      · exact h
      · simp at h
      · omega
     have hF':FB w T b':=by
      rcases hI with h | h
      · omega
      · exact h
     exact ⟨b',o',rfl,⟨hg,hF'⟩,hlt,GP.out h hH (by omega) hF' h8⟩
end
end Go.PM
end

section
namespace Go.PM
open Go.RowKit
def zfield:Value:=.agg #[.int .u64 0,.int .i64 0,.int .u64 0,.string ByteArray.empty,.slice none 0 0]
theorem copy_none {P:Program} (w:World) (t ty e:TypeId) (i:TypeInfo) (ht:P.underlying t=some (.slice e)) (hi:P.info? e=some i) (A:Option Addr) (c:Nat) :
 (Builtin.append_ #[t,t] ty #[.slice none 0 0,.slice A 0 c]).run P w=.ok (.slice none 0 0) w:=by
 have h:(Builtin.firstCells i.size 0 (.slice A 0 c)).run P w=.ok #[] w:=by
  cases A with
  | none => exact run_firstCells_none w i.size 0 0 c
  | some a => exact run_firstCells_some w i.size 0 a 0 c [] (by simp) (fun j u h => by simp at h)
 simp [Builtin.append_,run_underlying ht,sizeOf,typeInfo,hi,Builtin.lenOf,h]
theorem cls_one {w:World} {I:Nat→Prop}:∀ {xs:List Value} {f:Fs},Cls w I xs f→∀ u ∈ xs,u.oneCell'=true
 | [],.nil,_ => by simp
 | a :: b :: c :: d :: v :: xs,.cons t y n s i r,h => by
   obtain ⟨rfl,rfl,rfl,rfl,⟨A,c,rfl,_⟩,h7⟩:=h
   intro u hu
   simp only [List.mem_cons] at hu
   rcases hu with rfl | rfl | rfl | rfl | rfl | hu
   · rfl
   · rfl
   · rfl
   · rfl
   · rfl
   · exact cls_one h7 u hu
 | [],.cons ..,h => h.elim
 | _ :: _,.nil,h => by simp [Cls] at h
 | [_],.cons ..,h => by simp [Cls] at h
 | [_,_],.cons ..,h => by simp [Cls] at h
 | [_,_,_],.cons ..,h => by simp [Cls] at h
 | [_,_,_,_],.cons ..,h => by simp [Cls] at h
theorem copy_some {P:Program} (w:World) (t ty e:TypeId) (i:TypeInfo) (ht:P.underlying t=some (.slice e)) (hi:P.info? e=some i) (hz:i.zero=some zfield) (hsz:i.size=5) (hby:i.bytes=64)
 {I:Nat→Prop} {A:Option Addr} {c:Nat} {f:Fs} (hs:SlV w I (.slice A f.len c) f) (h0:0 < f.len) (h60:f.len≤1000000) :
 ∃ xs G,Cls w I xs f∧(f.len≤G∧G≤maxLen)∧(Builtin.append_ #[t,t] ty #[.slice none 0 0,.slice A f.len c]).run P w=.ok (.slice (some ⟨w.heap.size,0,none⟩) f.len G) (w.drew.alloc (.cells (xs.toArray++Builtin.zeroCells zfield.cells (G - f.len)) e)):=by
 obtain ⟨A',c',hv,hc,hor⟩:=hs
 injection hv with e1 e2 e3
 subst e1 e3
 rcases hor with hh | ⟨b,o,rfl,hI,hb,hf⟩
 · omega
 obtain ⟨xs,hx,hx2⟩:=hf.cls
 have hlen:=hx.length
 have hsrc:Src P i.size t (.slice (some ⟨b,o,none⟩) f.len c) f.len xs w:=by
  refine Src.ofSlice w ht ⟨b,o,none⟩ f.len c xs (by rw [hsz];omega) (fun j u hj => ?_) (cls_one hx)
  have ha:(⟨b,o,none⟩:Addr).add j=⟨b,o+j,none⟩:=by unfold Addr.add;split <;> simp_all
  rw [ha]
  exact hx2 j u hj
 have hr:=run_append_grow_src (P:=P) w t t ty e i zfield ht hi hz none 0 0 [] (run_firstCells_none w.drew i.size 0 0 0) (.slice (some ⟨b,o,none⟩) f.len c) f.len xs hsrc (by omega) (by omega) (by rw [hby];exact growslice_fits (by omega) (by omega))
 simp only [Nat.zero_add,List.nil_append] at hr
 exact ⟨xs,_,hx,⟨grownCap_ge w f.len 0 e,grownCap_le_maxLen w f.len 0 e (by unfold maxLen;omega)⟩,hr⟩
theorem zcell_at (n o:Nat) (u:Value) (h:(Builtin.zeroCells zfield.cells n)[o]? = some u):∀ A m c,u≠.slice (some A) m c:=by
 have hz:zfield.cells=#[.int .u64 0,.int .i64 0,.int .u64 0,.string ByteArray.empty,.slice none 0 0]:=rfl
 have ho:o < n * zfield.cells.size:=by
  have:=(Array.getElem?_eq_some_iff.1 h).1
  rwa [size_zeroCells] at this
 unfold Builtin.zeroCells at h
 rw [Array.getElem?_map,Array.getElem?_range] at h
 rw [if_pos ho] at h
 simp only [Option.map_some,Option.some.injEq] at h
 have hm:o % zfield.cells.size < 5:=Nat.mod_lt _ (by rw [hz];decide)
 generalize o % zfield.cells.size=q at h hm
 rw [hz] at h
 intro A m c e
 subst e
 match q,hm with
 | 0,_ => simp at h
 | 1,_ => simp at h
 | 2,_ => simp at h
 | 3,_ => simp at h
 | 4,_ => simp at h
def NT (e:TypeId) (w w':World):Prop:=∀ b T cs,T≠e→BlkAt w' b T cs→BlkAt w b T cs
theorem NT.alloc (e:TypeId) (w:World) (cs:Array Value):NT e w (w.alloc (.cells cs e)):=fun b T cs' hT h => by
 by_cases hb:b < w.heap.size
 · unfold BlkAt at h ⊢
   rw [← h]
   exact (Below.heap_alloc w (.cells cs e) b hb).symm
 · have hlt:=h.lt
   simp at hlt
   obtain rfl:b=w.heap.size:=by omega
   exact absurd rfl (BlkAt.apart h (BlkAt.made w e cs) hT)
theorem NT.trans {e:TypeId} {a b c:World} (h:NT e a b) (k:NT e b c):NT e a c:=fun x T cs hT hc => h x T cs hT (k x T cs hT hc)
theorem NT.dr {e:TypeId} {a b:World} (h:NT e a b):NT e a b.drew:=fun x T cs hT hc => h x T cs hT hc
theorem NT.puts {e:TypeId} {w:World} {g:Nat} (hg:HasT w g e) (o:Nat) (vs:List Value):NT e w (w.setCells g o vs):=fun b T cs hT h => by
 have hne:b≠g:=by
  rintro rfl
  exact hT (HasT.one h.hasT (hg.puts vs o w))
 have:=tch_setCells (a:=w) (S:=fun k => k=g) (b:=g) rfl vs o w (Tch.refl _ _)
 have hlt:b < w.heap.size:=by
  have h1:=h.lt
  have h2:∀ (vs:List Value) (o:Nat) (w:World),(w.setCells g o vs).heap.size=w.heap.size:=by
   intro vs
   induction vs with
   | nil => intro o w;rfl
   | cons v vs ih => intro o w;rw [World.setCells,ih];simp [World.setCell]
  rwa [h2] at h1
 unfold BlkAt at h ⊢
 rw [← h]
 exact (this.block b hlt hne).symm
theorem push_nt {P:Program} (w:World) (t ty:TypeId) (base:Nat) (e:TypeId) (i:TypeInfo) (z:Value) (ht:P.underlying t=some (.slice e)) (hi:P.info? e=some i) (hz:i.zero=some z)
 (hsize:i.size=1) {v v':Value} {n:Nat} {xs:List Value} {w':World} (hown:w.ownsRow base e 1 v n xs) (ad:Addr) (u:Value) (hu:w.cell? ad=some u) (h1:u.oneCell'=true) (h63:n+1≤4000001) (hb:i.bytes≤100)
 (hr:(Builtin.append_ #[t,t] ty #[v,.slice (some ad) 1 1]).run P w=.ok v' w'):NT e w w':=by
 have hsrc:Src P i.size t (.slice (some ad) 1 1) 1 [u] w:=by
  refine Src.ofSlice w ht ad 1 1 [u] (by rw [hsize];rfl) (fun j x hj => ?_) (by simp [h1])
  match j,hj with
  | 0,hj =>
    simp at hj
    subst hj
    have:ad.add 0=ad:=by unfold Addr.add;split <;> simp_all
    rw [this];exact hu
 have grow:∀ (A:Option Addr) (c:Nat) (olds:List Value),v=.slice A n c→(Builtin.firstCells i.size n (.slice A n c)).run P w.drew=.ok olds.toArray w.drew→c < n+1→NT e w w':=fun A c olds hv hold hg => by
  subst hv
  have hmul:(n+1) * i.bytes≤140737488355328:=Nat.le_trans (Nat.mul_le_mul h63 hb) (by decide)
  have:=run_append_grow_src (P:=P) w t t ty e i z ht hi hz A n c olds hold (.slice (some ad) 1 1) 1 [u] hsrc hg (by omega) (growslice_fits (by omega) hmul)
  rw [hr] at this
  injection this with _ hw
  subst hw
  exact NT.trans (b:=w.drew) (fun b T cs _ h => h) (NT.alloc e w.drew _)
 rcases hown.2 with ⟨rfl,rfl⟩ | ⟨g,cap,cur,rfl,hbg,hg,hnc,hcm,hcs,htk⟩
 · exact grow none 0 [] rfl (run_firstCells_none w.drew i.size 0 0 0) (by omega)
 · by_cases hroom:n+1≤cap
   · have:=run_append_room_src (P:=P) w t t ty e i ht hi g 0 n cap (.slice (some ad) 1 1) 1 [u] hsrc hroom
      (fun j hj => by rw [cell_of_row _ _ _ _ _ _ hg];simp at hj;subst hj;simp [hsize];omega) (fun j hj => by unfold World.frozen?;rw [hg];simp)
     rw [hr] at this
     injection this with _ hw
     subst hw
     exact NT.puts ⟨_,_,hg⟩ _ _
   · refine grow (some ⟨g,0,none⟩) cap xs rfl ?_ (by omega)
     refine run_firstCells_some w.drew i.size n ⟨g,0,none⟩ n cap xs (by rw [hsize];have:=hown.1;omega) fun j x hx => ?_
     have:=hown.cells (g:=g) rfl j x hx
     exact this
theorem wpList_append_push {P:Program} {w:World} {ops:Array Oper} {rest:List Oper} {o:Oper} {a:Act} {Q:Exit→Act→World→Prop} (hgd:o.guard=none) (s x:Operand) (t:TypeId)
 (ho:o.op=.call { callee:=.builtin .append,args:=#[s,x],argTypes:=#[t,t] })
 (base:Nat) (e:TypeId) (i:TypeInfo) (z:Value) (bytes:Nat) (ht:P.underlying t=some (.slice e)) (hi:P.info? e=some i) (hz:i.zero=some z)
 (hsize:i.size=1) (hby:i.bytes=bytes) (hbb:bytes≤100) (hzs:z.cells.size=1) (v:Value) (n:Nat) (xs:List Value) (hs:a.eval s=v) (hown:w.ownsRow base e 1 v n xs)
 (B:Nat) (u:Value) (hx:a.eval x=.slice (some ⟨B,0,none⟩) 1 1) (hB:BlkAt w B e #[u]) (h1:u.oneCell'=true) (h63:n+1≤4000001) (hbase:base≤w.heap.size)
 (h:∀ g cap w',w'.ownsRow base e 1 (.slice (some ⟨g,0,none⟩) (n+1) cap) (n+1) (xs++[u])→w.grownBy w' v.ownBlock→(v.ownBlock=some g∨g=w.heap.size)→g < w'.heap.size→NT e w w'→wpList P ops Q rest (a.put o.dst (.slice (some ⟨g,0,none⟩) (n+1) cap)) w'):wpList P ops Q (o :: rest) a w:=by
 have hu:w.cell? ⟨B,0,none⟩=some u:=by rw [hB.cell];rfl
 have hmul:(n+1) * bytes≤140737488355328:=Nat.le_trans (Nat.mul_le_mul h63 hbb) (by decide)
 obtain ⟨g,cap,w',hr,h2,h3,h4,h5⟩:=run_append_lies (P:=P) w t o.type base e i z 1 bytes ht hi hz hsize hby hzs (by decide) v n xs hown ⟨B,0,none⟩ 1 1 [u] rfl hB.news (by simp [h1]) (by decide) (by unfold maxLen;omega) hmul hbase w.heap.size rfl
 exact wpList_append_run hgd s x t t ho v _ _ hs hx hr (h g cap w' h2 h3 h4 h5 (push_nt w t o.type base e i z ht hi hz hsize hown ⟨B,0,none⟩ u hu h1 h63 (by rw [hby];exact hbb) hr))
end Go.PM
end

section
namespace Go.PM
open Go.RowKit
section
variable {P:Program} {w:World}
theorem append_empty (t ty e:TypeId) (i:TypeInfo) (ht:P.underlying t=some (.slice e)) (hi:P.info? e=some i) (A A':Option Addr) (n c c':Nat) (h:n≤c) :
 (Builtin.append_ #[t,t] ty #[.slice A n c,.slice A' 0 c']).run P w=.ok (.slice A n c) w:=by
 have h0:(Builtin.firstCells i.size 0 (.slice A' 0 c')).run P w=.ok #[] w:=by
  cases A' with
  | none => exact run_firstCells_none w i.size 0 0 c'
  | some a => exact run_firstCells_some w i.size 0 a 0 c' [] (by simp) (fun j u h => by simp at h)
 cases A with
 | none => simp [Builtin.append_,run_underlying ht,sizeOf,typeInfo,hi,Builtin.lenOf,h0,h]
 | some a => simp [Builtin.append_,run_underlying ht,sizeOf,typeInfo,hi,Builtin.lenOf,h0,h,storeCells]
theorem fapp_run (t ty e:TypeId) (i:TypeInfo) (ht:P.underlying t=some (.slice e)) (hi:P.info? e=some i) (hz:i.zero=some zfield) (hsz:i.size=5) (hby:i.bytes=64)
 {base:Nat} {A B:Option Addr} {c d:Nat} {f g:Fs} {xs:List Value} (hown:w.ownsRow base e 5 (.slice A f.len c) f.len xs) {J I:Nat→Prop} (hc:Cls w J xs f) (hJ:∀ k,J k→(Value.slice A f.len c).ownBlock≠some k)
 (hs:SlV w I (.slice B g.len d) g) (hI:∀ k,I k→(Value.slice A f.len c).ownBlock≠some k) (h60:f.len+g.len≤2000000) (hb:base≤w.heap.size) :
 ∃ (A':Option Addr) (c':Nat) (w':World) (xs':List Value),(Builtin.append_ #[t,t] ty #[.slice A f.len c,.slice B g.len d]).run P w=.ok (.slice A' (f.app g).len c') w'∧w'.ownsRow base e 5 (.slice A' (f.app g).len c') (f.app g).len xs' ∧
  Cls w' (fun k => (J k∨I k)∧k < w.heap.size) xs' (f.app g)∧w.grownBy w' (Value.slice A f.len c).ownBlock∧((Value.slice A' (f.app g).len c').ownBlock=(Value.slice A f.len c).ownBlock∨(Value.slice A' (f.app g).len c').ownBlock=some w.heap.size):=by
 by_cases h0:g.len=0
 · have:g=.nil:=Fs.len_zero h0
   subst this
   rw [Fs.app_nil]
   have hnc:f.len≤c:=by
    rcases hown.2 with ⟨h1,h2⟩ | ⟨g',cap,cur,h1,_,_,h2,_⟩
    · omega
    · simp only [Value.slice.injEq] at h1;omega
   exact ⟨A,c,w,xs,append_empty t ty e i ht hi A B f.len c d hnc,hown,(hc.lt).imp fun k hk => ⟨.inl hk.1,hk.2⟩,grown_refl _ _,.inl rfl⟩
 · obtain ⟨B',d',hv,hd,hor⟩:=hs
   injection hv with e1 e2 e3
   subst e1 e3
   rcases hor with h | ⟨b,o,rfl,hIb,hbl,hf⟩
   · exact absurd h h0
   obtain ⟨ys,hy,hy2⟩:=hf.cls
   have hyl:=hy.length
   have hnews:∀ j u,ys[j]? = some u→w.cell? ((⟨b,o,none⟩:Addr).add j)=some u:=fun j u hj => by
    have ha:(⟨b,o,none⟩:Addr).add j=⟨b,o+j,none⟩:=by unfold Addr.add;split <;> simp_all
    rw [ha];exact hy2 j u hj
   obtain ⟨g',cap,w',hr,h2,h3,h4,h5⟩:=run_append_lies (P:=P) w t ty base e i zfield 5 64 ht hi hz hsz hby rfl (by decide) _ f.len xs hown ⟨b,o,none⟩ g.len d ys (by omega) hnews (cls_one hy) (by omega) (by unfold maxLen;omega) (by omega) hb w.heap.size rfl
   have hS:∀ k,(J k∨I k)∧k < w.heap.size→¬ ((Value.slice A f.len c).ownBlock=some k):=fun k hk => by
    rcases hk.1 with h | h
    · exact hJ k h
    · exact hI k h
   have hcl:=((hc.lt.imp (J:=fun k => (J k∨I k)∧k < w.heap.size) fun k hk => ⟨.inl hk.1,hk.2⟩).app (hy.lt.imp (J:=fun k => (J k∨I k)∧k < w.heap.size) fun k hk => ⟨.inr hk.1,hk.2⟩)).tch (S:=fun k => (Value.slice A f.len c).ownBlock=some k) (Tch.grown h3 fun k hk _ => hk) hS
   rw [Fs.app_len]
   refine ⟨some ⟨g',0,none⟩,cap,w',_,hr,h2,hcl,h3,?_⟩
   rcases h4 with h4 | h4
   · exact .inl h4.symm
   · right;rw [h4];rfl
end
section
variable {w:World} {I:Nat→Prop}
theorem FsAt.take:∀ {f:Fs} {b o:Nat} (k:Nat),FsAt w I f b o→FsAt w I (f.take k) b o
 | f,_,_,0,_ => by cases f <;> trivial
 | .nil,_,_,_+1,_ => trivial
 | .cons ..,_,_,k+1,h => ⟨h.1,h.2.1,h.2.2.1,h.2.2.2.1,h.2.2.2.2.1,FsAt.take k h.2.2.2.2.2⟩
theorem SlV.take {A:Option Addr} {c:Nat} {f:Fs} (h:SlV w I (.slice A f.len c) f) (k:Nat) (hk:k≤f.len):SlV w I (.slice A (f.take k).len c) (f.take k):=by
 obtain ⟨A',c',hv,hc,hor⟩:=h
 injection hv with e1 e2 e3
 subst e1 e3
 refine ⟨A,c,rfl,by rw [Fs.take_len f k hk];omega,?_⟩
 rcases hor with h | ⟨b,o,h1,h2,h3,h4⟩
 · left;rw [Fs.take_len f k hk];omega
 · exact .inr ⟨b,o,h1,h2,h3,h4.take k⟩
theorem SlV.drop {b o c:Nat} {f:Fs} (h:SlV w I (.slice (some ⟨b,o,none⟩) f.len c) f) (k:Nat) (hk:k≤f.len) (c':Nat) (hc:f.len - k≤c'):SlV w I (.slice (some ⟨b,o+k * 5,none⟩) (f.drop k).len c') (f.drop k):=by
 obtain ⟨A',c2,hv,hc2,hor⟩:=h
 injection hv with e1 e2 e3
 refine ⟨_,c',rfl,by rw [Fs.drop_len];exact hc,?_⟩
 rcases hor with h | ⟨b',o',h1,h2,h3,h4⟩
 · left;rw [Fs.drop_len];omega
 · rw [← e1] at h1
   injection h1 with h1
   injection h1 with h5 h6
   subst h5 h6
   exact .inr ⟨b,o+k * 5,rfl,h2,h3,h4.drop k⟩
end
end Go.PM
end
