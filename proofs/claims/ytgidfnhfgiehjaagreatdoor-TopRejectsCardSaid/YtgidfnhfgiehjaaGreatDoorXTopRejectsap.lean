/-
  Texts of the proof, joined: Pack Pack2 Pack3 Pack4. Conditions: as each names.
-/
import Derived.Test.YtgidfnhfgiehjaaGreatDoorXTopRejectsan
import Derived.Test.YtgidfnhfgiehjaaGreatDoorXTopRejectsao
import Derived.Laws.MakeOwn

section
namespace Go.Proofs.YtgidfnhfgiehjaaGreatDoor
open Go.RowKit Go.PM
set_option maxRecDepth 100000
set_option maxHeartbeats 4000000
attribute [local go_sem ↓] Go.wp_at_zero Go.wp_at_succ
def PRowEnd (w:World) (b:Nat) (s:ByteArray) (k:Nat) (key:List UInt8) (e:Ending) (w':World):Prop :=
 ∃ (k':Nat) (A:Option Addr) (c:Nat),e=.returned (.tuple #[.agg #[.slice A (pkrow echk key (s.data.toList.drop k)).1.1.length c,.int .u64 ((pkrow echk key (s.data.toList.drop k)).1.2:Int)],.int .i64 (pkrow echk key (s.data.toList.drop k)).2.2]) ∧
  RvOk w' (w.heap.size≤·) ⟨(pkrow echk key (s.data.toList.drop k)).1.1,A,c,(pkrow echk key (s.data.toList.drop k)).1.2⟩∧Cur w' b s k'∧((pkrow echk key (s.data.toList.drop k)).2.2=0→k'=k+(pkrow echk key (s.data.toList.drop k)).2.1)∧w.grownBy w' (some b)
theorem prow_any (b:Nat) (s:ByteArray) (k:Nat) (key:ByteArray) (w:World) (hT:Tabs w) (h:Cur w b s k) (hk:key.size≤9223372036854775807) :
 Calls Tryz.prog 219 #[.pointer (some ⟨b,0,none⟩),.string key] w (PRowEnd w b s k key.data.toList):=by
 have hbl:=h.1.lt
 have hb0:=ba (a:=w) b0 (.cells #[.slice none 0 0,.int .u64 0] 134)
 have HX:=Lib.hid (BlkAt.made w 134 #[.slice none 0 0,.int .u64 0])
 have HP:=Lib.hid (dparse_any key _ (hT.below hb0) hk)
 unfold DParseEnd at HP
 have HC:=Lib.hid h
 have HB:=Lib.hid hb0
 obtain ⟨X,hX⟩:∃ X,X=pkrow echk key.data.toList (s.data.toList.drop k):=⟨_,rfl⟩
 have HEND:Hid (∀ (k':Nat) (A:Option Addr) (c:Nat) (w2 w':World),RvOk w2 (w.heap.size < ·) ⟨X.1.1,A,c,X.1.2⟩→Cur w2 b s k'→(X.2.2=0→k'=k+X.2.1)→w.grownBy w2 (some b)→Tch (fun j => j=w.heap.size) w2 w' →
  PRowEnd w b s k key.data.toList (.returned (.tuple #[.agg #[.slice A X.1.1.length c,.int .u64 (X.1.2:Int)],.int .i64 X.2.2])) w'):=fun k' A c w2 w' h1 h2 h3 h4 h5 => by
  unfold PRowEnd
  rw [← hX]
  exact ⟨k',A,c,rfl,(h1.tch h5 fun q hq e => by omega).imp fun q _ hq => by omega,⟨h2.1.tch h5 (by omega),h2.2⟩,h3,tch_grown h4 (Nat.le_refl _) h5⟩
 unfold pkrow at hX
 have HV:Hid (∀ x,Cur x b s k→Calls Tryz.prog 174 #[.pointer (some ⟨b,0,none⟩)] x fun e w' => e=.returned (.tuple #[.int .u64 ((vget (s.data.toList.drop k)).1:Int),.int .i64 ((vget (s.data.toList.drop k)).2.2:Int)])∧Cur w' b s (k+(vget (s.data.toList.drop k)).2.1)∧x.grownBy w' (some b)):=fun x hx => next_any b s k x hx
 clear hb0 hT h
 generalize dparse echk key.data.toList=D at *
 generalize vget (s.data.toList.drop k)=V at *
 obtain ⟨d,E⟩:=D
 obtain ⟨n,m,G⟩:=V
 simp only at HP hX HV
 go_enter Tryz.func219,Tryz.ntmps219
 go_wp2_with fail
 refine HP.out.mono ?_
 rintro e w1 ⟨v,rfl,⟨A,c,rfl,hrd,hdc,hfr⟩,hb1⟩
 have HB1:=Lib.hid (bb HB.out hb1)
 have HX1:=Lib.hid (HX.out.below hb1 HX.out.lt)
 have HRI:Hid (RdI w1 (w.heap.size < ·) A d):=hrd.rdI fun b' off e => by have:=hfr b' off e;rw [World.size_alloc] at this;exact this
 have HC1:Hid (Cur w1 b s k):=⟨HC.out.1.below HB1.out HC.out.1.lt,HC.out.2⟩
 clear hrd hfr hb1 HP HX HB HC
 by_cases hE:E=0
 · subst hE
   rw [if_neg (by simp)] at hX
   go_wp2_with fail
   refine (HV.out w1 HC1.out).mono ?_
   rintro e w2 ⟨rfl,hc2,hg2⟩
   have HRO:Hid (RvOk w2 (w.heap.size < ·) ⟨d,A,c,n⟩):=⟨hdc,HRI.out.tch (S:=fun q => q=b) (Tch.grown hg2 fun g hg _ => by injection hg with hg;exact hg.symm) fun q hq e => by omega⟩
   have HG2:=Lib.hid (grown_trans (grown_of_below HB1.out (some b)) hg2 fun x e _ => e)
   have hx2:=HX1.out.step hg2 (by intro e;injection e with e;omega)
   have HC2:=Lib.hid hc2
   clear hc2 hg2 HX1 HRI HC1 HV
   by_cases hG:G=0
   · subst hG
     rw [if_neg (by simp)] at hX
     by_cases hn:n=0
     · subst hn
       rw [if_pos rfl] at hX
       have HE:Hid (∀ w',Tch (fun j => j=w.heap.size) w2 w'→PRowEnd w b s k key.data.toList (.returned (.tuple #[.agg #[.slice none 0 0,.int .u64 0],.int .i64 17])) w'):=fun w' ht => by
        have:=HEND.out _ none 0 w2 w' (by rw [hX];exact ⟨Nat.le_refl _,.inl rfl⟩) HC2.out (fun h => by rw [hX] at h;exact absurd h (by decide)) HG2.out ht
        rw [hX] at this
        exact this
       clear hX HEND
       have c0:=hx2.cell 0
       have c1:=hx2.cell 1
       have f0:=hx2.free 0
       have f1:=hx2.free 1
       simp at c0 c1
       have hlw:=hx2.lt
       clear hx2
       go_wp2_with fail
       refine bodyPost_ret (v:=.tuple #[.agg #[.slice none 0 0,.int .u64 0],.int .i64 17]) (by simp [results,Tryz.results219,go_sem,c0,c1];try rfl) rfl (HE.out _ (res_two _ _ _ _))
     · rw [if_neg hn] at hX
       have hni:((n:Int) == 0)=false:=by rw [beq_eq_false_iff_ne];omega
       have HE:Hid (∀ w',Tch (fun j => j=w.heap.size) w2 w'→PRowEnd w b s k key.data.toList (.returned (.tuple #[.agg #[.slice A d.length c,.int .u64 (n:Int)],.int .i64 0])) w'):=fun w' ht => by
        have:=HEND.out _ A c w2 w' (by rw [hX];exact HRO.out) HC2.out (fun _ => by rw [hX]) HG2.out ht
        rw [hX] at this
        exact this
       clear hX HEND hn
       have c0:=hx2.cell 0
       have c1:=hx2.cell 1
       have f0:=hx2.free 0
       have f1:=hx2.free 1
       simp at c0 c1
       have hlw:=hx2.lt
       clear hx2
       go_wp2_with fail
       refine bodyPost_ret (v:=.tuple #[.agg #[.slice A d.length c,.int .u64 (n:Int)],.int .i64 0]) (by simp [results,Tryz.results219,go_sem,c0,c1];try rfl) rfl (HE.out _ (res_two _ _ _ _))
   · rw [if_pos hG] at hX
     have hGi:(((G:Nat):Int) != 0)=true:=by rw [bne_iff_ne];omega
     have HE:Hid (∀ w',Tch (fun j => j=w.heap.size) w2 w'→PRowEnd w b s k key.data.toList (.returned (.tuple #[.agg #[.slice none 0 0,.int .u64 0],.int .i64 (G:Int)])) w'):=fun w' ht => by
      have:=HEND.out _ none 0 w2 w' (by rw [hX];exact ⟨Nat.le_refl _,.inl rfl⟩) HC2.out (fun h => by rw [hX] at h;simp only at h;omega) HG2.out ht
      rw [hX] at this
      exact this
     clear hX HEND hG
     have c0:=hx2.cell 0
     have c1:=hx2.cell 1
     have f0:=hx2.free 0
     have f1:=hx2.free 1
     simp at c0 c1
     have hlw:=hx2.lt
     clear hx2
     go_wp2_with fail
     refine bodyPost_ret (v:=.tuple #[.agg #[.slice none 0 0,.int .u64 0],.int .i64 (G:Int)]) (by simp [results,Tryz.results219,go_sem,c0,c1];try rfl) rfl (HE.out _ (res_two _ _ _ _))
 · rw [if_pos hE] at hX
   have hEi:(E != 0)=true:=by rw [bne_iff_ne];exact hE
   have HE:Hid (∀ w',Tch (fun j => j=w.heap.size) w1 w'→PRowEnd w b s k key.data.toList (.returned (.tuple #[.agg #[.slice none 0 0,.int .u64 0],.int .i64 E])) w'):=fun w' ht => by
    have:=HEND.out k none 0 w1 w' (by rw [hX];exact ⟨Nat.le_refl _,.inl rfl⟩) HC1.out (fun h => by rw [hX] at h;exact absurd h hE) (grown_of_below HB1.out (some b)) ht
    rw [hX] at this
    exact this
   have hx1:=HX1.out
   clear hX HEND hE
   have c0:=hx1.cell 0
   have c1:=hx1.cell 1
   have f0:=hx1.free 0
   have f1:=hx1.free 1
   simp at c0 c1
   have hlw:=hx1.lt
   clear hx1
   go_wp2_with fail
   refine bodyPost_ret (v:=.tuple #[.agg #[.slice none 0 0,.int .u64 0],.int .i64 E]) (by simp [results,Tryz.results219,go_sem,c0,c1];try rfl) rfl (HE.out _ (res_two _ _ _ _))
end Go.Proofs.YtgidfnhfgiehjaaGreatDoor
end

section
namespace Go.Proofs.YtgidfnhfgiehjaaGreatDoor
open Go.RowKit Go.PM
set_option maxRecDepth 100000
set_option maxHeartbeats 4000000
attribute [local go_sem ↓] Go.wp_at_zero Go.wp_at_succ
def tcat (L:List Rw) (a:Nat) (R:List Rw × Nat × Int):List Rw × Nat × Int:=if R.2.2≠0 then ([],0,R.2.2) else (L++R.1,a+R.2.1,0)
theorem pkloop_err:∀ (n:Nat) (o:Option (List UInt8)) (s:List UInt8),(pkloop echk n o s).2.2≠0→pkloop echk n o s=([],0,(pkloop echk n o s).2.2)
 | 0,_,_,h => absurd rfl h
 | n+1,o,s,h => by
   rw [pkloop] at h ⊢
   split
   · rfl
   · split
     · rfl
     · split
       · rfl
       · rename_i h1 h2 h3
         rw [if_neg h1,if_neg h2,if_neg h3] at h
         exact absurd rfl h
theorem tcat_nil (n:Nat) (o:Option (List UInt8)) (s:List UInt8):pkloop echk n o s=tcat [] 0 (pkloop echk n o s):=by
 unfold tcat
 by_cases h:(pkloop echk n o s).2.2≠0
 · rw [if_pos h]
   exact pkloop_err n o s h
 · rw [if_neg h,List.nil_append,Nat.zero_add]
   have h2:(pkloop echk n o s).2.2=0:=by omega
   rw [← h2]
theorem tcat_err (L:List Rw) (a:Nat) (E:Int) (h:E≠0):tcat L a ([],0,E)=([],0,E):=by
 unfold tcat
 rw [if_pos h]
theorem tcat_end (L:List Rw) (a:Nat):tcat L a ([],0,0)=(L,a,0):=by
 unfold tcat
 rw [if_neg (by simp),List.append_nil,Nat.add_zero]
theorem tcat_two (L M:List Rw) (a m:Nat) (R:List Rw × Nat × Int):tcat L a (tcat M m R)=tcat (L++M) (a+m) R:=by
 unfold tcat
 by_cases h:R.2.2≠0
 · rw [if_pos h,if_pos h,if_pos h]
 · rw [if_neg h,if_neg h,if_neg (by simp),List.append_assoc,Nat.add_assoc]
theorem pkloop_step (n:Nat) (o:Option (List UInt8)) (s:List UInt8) (P:List UInt8 × Nat × Int) (R:Rw × Nat × Int) (hP:pnx o s=P) (hR:pkrow echk P.1 (s.drop P.2.1)=R) :
 pkloop echk (n+1) o s=if P.2.2≠0 then ([],0,P.2.2) else if R.2.2≠0 then ([],0,R.2.2) else tcat [R.1] (P.2.1+R.2.1) (pkloop echk n (some P.1) (s.drop (P.2.1+R.2.1))):=by
 rw [pkloop,hP,hR]
 rfl
def TbN (B:Nat) (w:World) (v:Value) (t:List Rw):Prop:=∃ (l:List Rv) (A:Option Addr) (c:Nat),v=.slice A l.length c∧t=l.map Rv.rw∧Rd w A (rvs l)∧(∀ r ∈ l,RvOk w (B≤·) r)∧l.length≤c∧∀ b off,A=some ⟨b,off,none⟩→B≤b
theorem tbn_nil (B:Nat) (w:World):TbN B w (.slice none 0 0) []:=⟨[],none,0,rfl,rfl,.inl rfl,by simp,Nat.le_refl _,fun _ _ e => by cases e⟩
def PkEnd (w:World) (b:Nat) (s:ByteArray) (k:Nat) (e:Ending) (w':World):Prop :=
 ∃ (k':Nat) (v:Value),e=.returned (.tuple #[v,.int .i64 (pknext echk (s.data.toList.drop k)).2.2])∧TbN w.heap.size w' v (pknext echk (s.data.toList.drop k)).1∧Cur w' b s k'∧((pknext echk (s.data.toList.drop k)).2.2=0→k'=k+(pknext echk (s.data.toList.drop k)).2.1)∧w.grownBy w' (some b)
def PksAt (wM:World) (b:Nat) (s:ByteArray) (k1 n:Nat) (D:List Rw × Nat × Int) (i:Nat) (out av:Value) (wr:World):Prop :=
 ∃ (l:List Rv) (a:Nat) (K:ByteArray),l.length=i∧wr.ownsRow wM.heap.size 134 2 out i (rvs l)∧(∀ r ∈ l,RvOk wr (fun q => wM.heap.size≤q∧out.ownBlock≠some q) r)∧Cur wr b s (k1+a)∧av=.string K∧K.size≤1000000 ∧
  D=tcat (l.map Rv.rw) a (pkloop echk (n - i) (if i=0 then none else some K.data.toList) (s.data.toList.drop (k1+a)))∧wM.grownBy wr (some b)
theorem info_row:(Tryz.prog.info? 134).map (fun i => (i.zero,i.size,i.bytes))=some (some zrow,2,32):=by kernel_rfl
theorem pnext_any (b:Nat) (s:ByteArray) (k:Nat) (a:ByteArray) (i:Nat) (w:World) (h:Cur w b s k) (ha:a.size≤1000000) (hs:s.size≤1000000) :
 Calls Tryz.prog 218 #[.pointer (some ⟨b,0,none⟩),.string a,.bool (decide (i=0))] w (PNextEnd w b s k (if i=0 then none else some a.data.toList)):=by
 by_cases hi:i=0
 · rw [if_pos hi,decide_eq_true hi]
   exact pnext_first b s k a w h hs
 · rw [if_neg hi,decide_eq_false hi]
   exact pnext_later b s k a w h ha hs
theorem pnx_len {o:Option (List UInt8)} {s:List UInt8} (ho:∀ a,o=some a→a.length≤1000000) (hs:s.length≤1000000) (h:(pnx o s).2.2=0):(pnx o s).1.length≤2000000:=by
 unfold pnx at *
 have hA:(o.getD []).length≤1000000:=by
  cases o with
  | none => simp
  | some a => exact ho a rfl
 split
 · simp
 · split
   · simp
   · split
     · simp
     · split
       · simp
       · split
         · simp
         · split
           · simp
           · simp only [List.length_append,List.length_take,List.length_drop]
             omega
theorem pkrow_key {key s:List UInt8} (h:(pkrow echk key s).2.2=0):key.length≤1000000:=by
 obtain ⟨_,h2,_,h4,_⟩:=pkrow_ok (chk:=echk) h
 have hd:dchk echk (pkrow echk key s).1.1=0:=by
  unfold rwchk at h4
  by_cases hd:dchk echk (pkrow echk key s).1.1≠0
  · rw [if_pos hd] at h4;exact absurd h4 hd
  · omega
 obtain ⟨h5,h6,_⟩:=dchk_mil hd
 rw [← h2]
 have ha:∀ e ∈ (pkrow echk key s).1.1,e.1.length≤64∧e.2.length≤256:=by
  unfold dchk at hd
  split at hd
  · rename_i q;exact absurd hd q
  · exact fun e he => echk_sz ((dall_iff _).1 (dchk1_all hd) e he)
 have hl:∀ d:List Ent,(∀ e ∈ d,e.1.length≤64∧e.2.length≤256)→(dkeyL d).length≤d.length * 400:=by
  intro d
  induction d with
  | nil => intro _;simp [dkeyL]
  | cons e r ih =>
    intro hh
    have h1:=hh e (by simp)
    have h2:=ih fun x hx => hh x (by simp [hx])
    have e1:dkeyL (e :: r)=eput e.1 e.2++dkeyL r:=by simp [dkeyL]
    have p1:vsz e.1.length≤10:=vsz_le10 (by omega)
    have p2:vsz e.2.length≤10:=vsz_le10 (by omega)
    rw [e1,List.length_append,List.length_cons]
    unfold eput
    simp only [List.length_append,vput_length]
    omega
 have h7:=hl _ ha
 have h8:vsz (pkrow echk key s).1.1.length≤10:=vsz_le10 (by omega)
 unfold dkey
 rw [List.length_append,vput_length]
 omega
theorem pknext_any (W0:World) (hT:Tabs W0) (b:Nat) (s:ByteArray) (k:Nat) (w:World) (h0:Below W0.heap.size W0 w) (hWb:W0.heap.size≤b) (h:Cur w b s k) (hs:s.size≤1000000) :
 Calls Tryz.prog 180 #[.pointer (some ⟨b,0,none⟩)] w (PkEnd w b s k):=by
 have hbl:=h.1.lt
 have HN:=Lib.hid (next_any b s k w h)
 have HT:=Lib.hid hT
 have H0:=Lib.hid h0
 obtain ⟨i0,hi0,hz0,hz1,hz2⟩:=info_parts info_row
 clear h h0 hT
 obtain ⟨X,hX⟩:∃ X,X=pknext echk (s.data.toList.drop k):=⟨_,rfl⟩
 have HEND:Hid (∀ (k':Nat) (v:Value) (w':World),TbN w.heap.size w' v X.1→Cur w' b s k'→(X.2.2=0→k'=k+X.2.1)→w.grownBy w' (some b)→PkEnd w b s k (.returned (.tuple #[v,.int .i64 X.2.2])) w'):=fun k' v w' h1 h2 h3 h4 => by
  unfold PkEnd
  rw [← hX]
  exact ⟨k',v,rfl,h1,h2,h3,h4⟩
 unfold pknext at hX
 by_cases hv:(vget (s.data.toList.drop k)).2.2=0
 · rw [if_neg (by rw [hv];simp)] at hX
   obtain ⟨v1,v2,v3,v4,v5⟩:=vget_ok hv
   have HN2:Hid (Calls Tryz.prog 174 #[.pointer (some ⟨b,0,none⟩)] w fun e w' => e=.returned (.tuple #[.int .u64 ((vget (s.data.toList.drop k)).1:Int),.int .i64 0])∧Cur w' b s (k+(vget (s.data.toList.drop k)).2.1)∧w.grownBy w' (some b)):=by
    have:=HN.out
    rw [hv] at this
    exact this
   have hdd:∀ m:Nat,((s.data.toList.drop k).drop m)=s.data.toList.drop (k+m):=fun m => by rw [List.drop_drop]
   rw [hdd] at hX
   have hn64:(vget (s.data.toList.drop k)).1 < 18446744073709551616:=by omega
   clear HN hv v5 v1 v2 v3 v4 hdd
   generalize (vget (s.data.toList.drop k)).1=n at *
   generalize hmm:(vget (s.data.toList.drop k)).2.1=m at *
   clear hmm
   by_cases hm:256 < n
   · rw [if_pos hm] at hX
     have hmi:(256:Int) < (n:Int):=by omega
     have HE:Hid (∀ k' w',Cur w' b s k'→w.grownBy w' (some b)→PkEnd w b s k (.returned (.tuple #[.slice none 0 0,.int .i64 13])) w'):=fun k' w' hc hg => by
      have:=HEND.out k' (.slice none 0 0) w' (by rw [hX];exact tbn_nil _ w') hc (fun h => by rw [hX] at h;exact absurd h (by decide)) hg
      rw [hX] at this
      exact this
     clear hm hX HEND
     go_enter Tryz.func180,Tryz.ntmps180
     go_wp2_with fail
     refine HN2.out.mono ?_
     rintro e w1 ⟨rfl,hc1,hg1⟩
     have HE1:=Lib.hid (HE.out _ w1 hc1 hg1)
     clear hc1 hg1
     go_wp2_with fail
     go_ret2
     exact HE1.out
   · rw [if_neg hm] at hX
     have hmi:¬ (256:Int) < (n:Int):=by omega
     have hn16:n≤256:=by omega
     clear hm hn64
     generalize hD:pkloop echk n none (s.data.toList.drop (k+m))=D at hX
     have HEN2:Hid (∀ (L:List Rw) (a:Nat) (v:Value) (w':World),D=(L,a,0)→TbN w.heap.size w' v L→Cur w' b s (k+m+a)→w.grownBy w' (some b)→PkEnd w b s k (.returned (.tuple #[v,.int .i64 0])) w'):=fun L a v w' hd hs hc hg => by
      rw [hd,if_neg (by simp)] at hX
      have:=HEND.out (k+m+a) v w' (by rw [hX];exact hs) hc (fun _ => by rw [hX];simp only;omega) hg
      rw [hX] at this
      exact this
     have HEN3:Hid (∀ (E:Int) (k':Nat) (w':World),E≠0→D=([],0,E)→Cur w' b s k'→w.grownBy w' (some b)→PkEnd w b s k (.returned (.tuple #[.slice none 0 0,.int .i64 E])) w'):=fun E k' w' hE hd hc hg => by
      rw [hd,if_pos hE] at hX
      have:=HEND.out k' (.slice none 0 0) w' (by rw [hX];exact tbn_nil _ w') hc (fun h => by rw [hX] at h;exact absurd h hE) hg
      rw [hX] at this
      exact this
     clear hX HEND
     have HD:Hid (D=tcat [] 0 (pkloop echk (n - 0) (if (0:Nat)=0 then none else some (ByteArray.mk #[]).data.toList) (s.data.toList.drop (k+m+0)))):=by
      show _=_
      rw [← hD]
      exact tcat_nil n none _
     clear hD
     have wn:IntKind.i64.wrap (n:Int)=(n:Int):=by rw [IntKind.wrap_i64];omega
     go_enter Tryz.func180,Tryz.ntmps180
     go_wp2_with fail
     refine HN2.out.mono ?_
     rintro e w2 ⟨rfl,hc1,hg1⟩
     have HC1:=Lib.hid hc1
     have HG1:=Lib.hid hg1
     clear hc1 hg1 HN2
     obtain ⟨wM,hmk,hown,hgM⟩:=run_make_own (P:=Tryz.prog) w2 w2.heap.size 26 134 i0 zrow 2 Tryz.underlying26 hi0 hz0 hz1 .i64 .u64 n (by rw [hz2];omega) (by unfold maxLen;omega) (Nat.le_refl _)
     have hbw2:b < w2.heap.size:=HC1.out.1.lt
     have hS0:PksAt w2 b s (k+m) n D 0 (.slice (some ⟨w2.heap.size,0,none⟩) 0 n) (.string ⟨#[]⟩) wM :=
      ⟨[],0,⟨#[]⟩,rfl,hown,by simp,⟨HC1.out.1.step hgM (by simp),HC1.out.2⟩,rfl,Nat.zero_le _,HD.out,grown_of_below (below_of_grown hgM) _⟩
     have HS0:=Lib.hid hS0
     clear hown hgM hS0 HD
     go_wp2_with fail
     clear hmk
     go_loopg [6,7,26] n (fun gk out av vi wr => ∃ i:Nat,i≤n∧n - i≤gk∧vi=.int .i64 (i:Int)∧Hid (PksAt w2 b s (k+m) n D i out av wr))
     case atStart => exact ⟨0,Nat.zero_le _,by omega,rfl,HS0⟩
     case round =>
      obtain ⟨i,hi,hgk,rfl,HS⟩:=hrel
      obtain ⟨l,a,K,hli,hown,hro,hcur,rfl,hKs,hd,hg⟩:=HS.out
      have hbase:=(below_of_row (B:=W0.heap.size) HG1.out hWb (H0.out.size))
      have hW0r:Below W0.heap.size W0 wr:=(H0.out.trans hbase).trans (below_of_row hg hWb (Nat.le_trans H0.out.size HG1.out.size))
      have hgw:w.grownBy wr (some b):=grown_trans HG1.out hg fun x e _ => e
      obtain ⟨A1,c1,hA1,hrd,hlc,hfr⟩:=Rd.own hown
      by_cases hlt:i < n
      · obtain ⟨r,hr⟩:∃ r,n - i=r+1:=⟨n - i - 1,by omega⟩
        obtain ⟨o,ho⟩:∃ o,o=if i=0 then none else some K.data.toList:=⟨_,rfl⟩
        have hol:∀ a,o=some a→a.length≤1000000:=fun a ha => by
         rw [ho] at ha
         by_cases h0:i=0
         · rw [if_pos h0] at ha;cases ha
         · rw [if_neg h0] at ha
           injection ha with ha
           rw [← ha,len_list];exact hKs
        have HPX:=Lib.hid (pnext_any b s (k+m+a) K i wr hcur hKs hs)
        rw [← ho] at HPX hd
        unfold PNextEnd at HPX
        have hkl:=pnx_len (s:=s.data.toList.drop (k+m+a)) hol (by rw [List.length_drop,len_list];omega)
        obtain ⟨P,hP⟩:∃ P,pnx o (s.data.toList.drop (k+m+a))=P:=⟨_,rfl⟩
        obtain ⟨R,hR⟩:∃ R,pkrow echk P.1 (s.data.toList.drop (k+m+a+P.2.1))=R:=⟨_,rfl⟩
        have hkey:=fun h => pkrow_key (key:=P.1) (s:=s.data.toList.drop (k+m+a+P.2.1)) h
        rw [hr,pkloop_step r o _ P R hP (by rw [List.drop_drop];exact hR),List.drop_drop] at hd
        rw [hP] at HPX hkl
        rw [hR] at hkey
        have HRW:Hid (∀ x,Below W0.heap.size W0 x→Cur x b s (k+m+a+P.2.1)→P.1.length≤2000000→Calls Tryz.prog 219 #[.pointer (some ⟨b,0,none⟩),.string (txt P.1)] x fun e w' => ∃ (k':Nat) (A:Option Addr) (c:Nat),e=.returned (.tuple #[.agg #[.slice A R.1.1.length c,.int .u64 (R.1.2:Int)],.int .i64 R.2.2]) ∧
         RvOk w' (x.heap.size≤·) ⟨R.1.1,A,c,R.1.2⟩∧Cur w' b s k'∧(R.2.2=0→k'=k+m+a+P.2.1+R.2.1)∧x.grownBy w' (some b)):=fun x hx hc hl => by
         have:=prow_any b s (k+m+a+P.2.1) (txt P.1) x (HT.out.below hx) hc (by rw [txt_size];omega)
         unfold PRowEnd at this
         rw [txt_list,hR] at this
         exact this
        clear hP hR ho
        obtain ⟨P0,q,E⟩:=P
        obtain ⟨⟨rd,rn⟩,q2,G⟩:=R
        simp only at hd HPX HRW hkl hkey
        subst hA1
        have HD2:=Lib.hid hd
        have HOWN:=Lib.hid hown
        have HRO:=Lib.hid hro
        have HG:=Lib.hid hg
        have HGW:=Lib.hid hgw
        have HW0:=Lib.hid hW0r
        have hdec:((i:Int) == 0)=decide (i=0):=by
         by_cases h0:i=0
         · rw [decide_eq_true h0,h0];rfl
         · rw [decide_eq_false h0,beq_eq_false_iff_ne];omega
        clear hd hown hrd hro hg hgw hcur hW0r hbase HS HS0 hfr hol
        generalize decide (i=0)=fb at *
        by_cases hE:E=0
        · subst hE
          have hd:=HD2.out
          have hkl2:=hkl rfl
          rw [if_neg (by simp)] at hd
          have HD3:=Lib.hid hd
          clear hd HD2 hkl
          go_wp2_with fail
          refine HPX.out.mono ?_
          rintro e w3 ⟨k3,rfl,hc3,hk3,hg3⟩
          have hk3':k3=k+m+a+q:=hk3 trivial
          subst hk3'
          have HRC:=Lib.hid (HRW.out w3 (HW0.out.trans (below_of_row hg3 hWb HW0.out.size)) hc3 hkl2)
          have HOWN3:=Lib.hid (own_far HOWN.out hg3 hbw2)
          have HRO3:Hid (∀ r ∈ l,RvOk w3 (fun q => w2.heap.size≤q∧(Value.slice A1 i c1).ownBlock≠some q) r):=fun r hr => (HRO.out r hr).tch (S:=fun g => g=b) (Tch.grown hg3 fun g hg _ => by injection hg with hg;exact hg.symm) fun g hg e => by omega
          have HG3:=Lib.hid (grown_trans HG.out hg3 fun x e _ => e)
          have HGW3:=Lib.hid (grown_trans HGW.out hg3 fun x e _ => e)
          clear hc3 hg3 hk3 HPX HRW HOWN HRO HG HGW HW0 hdec
          go_wp2_with fail
          refine HRC.out.mono ?_
          rintro e w4 ⟨k4,A4,c4,rfl,hrv,hc4,hk4,hg4⟩
          have HOWN4:=Lib.hid (own_far HOWN3.out hg4 hbw2)
          have HRO4:Hid (∀ r ∈ l,RvOk w4 (fun q => w2.heap.size≤q∧(Value.slice A1 i c1).ownBlock≠some q) r):=fun r hr => (HRO3.out r hr).tch (S:=fun g => g=b) (Tch.grown hg4 fun g hg _ => by injection hg with hg;exact hg.symm) fun g hg e => by omega
          have HG4:=Lib.hid (grown_trans HG3.out hg4 fun x e _ => e)
          have HGW4:=Lib.hid (grown_trans HGW3.out hg4 fun x e _ => e)
          have HRV:Hid (RvOk w4 (fun q => w2.heap.size≤q∧(Value.slice A1 i c1).ownBlock≠some q) ⟨rd,A4,c4,rn⟩):=hrv.imp fun g _ hg => ⟨Nat.le_trans HG3.out.size hg,fun e => by have:=(HOWN3.out.lt g e).2;omega⟩
          have HC4:=Lib.hid hc4
          have HK4:=Lib.hid hk4
          clear hrv hc4 hk4 hg4 HRC HOWN3 HRO3 HG3 HGW3
          by_cases hG:G=0
          · subst hG
            have hd:=HD3.out
            rw [if_neg (by simp),tcat_two] at hd
            have hk4':=HK4.out rfl
            subst hk4'
            have hkk:=hkey rfl
            have hbo:=ba (ba (a:=w4) b0 (.cells #[.slice A4 rd.length c4,.int .u64 (rn:Int)] 134)) (.cells #[.slice A4 rd.length c4,.int .u64 (rn:Int)] 134)
            have hy:=World.news_of_block (cs:=#[.slice A4 rd.length c4,.int .u64 (rn:Int)]) (t:=134) (fr:=(0,0)) (heap_alloc_new (w4.alloc (.cells #[.slice A4 rd.length c4,.int .u64 (rn:Int)] 134)) (.cells #[.slice A4 rd.length c4,.int .u64 (rn:Int)] 134))
            have hrdn:Rd ((w4.alloc (.cells #[.slice A4 rd.length c4,.int .u64 (rn:Int)] 134)).alloc (.cells #[.slice A4 rd.length c4,.int .u64 (rn:Int)] 134)) (some ⟨(w4.alloc (.cells #[.slice A4 rd.length c4,.int .u64 (rn:Int)] 134)).heap.size,0,none⟩) (rvs [⟨rd,A4,c4,rn⟩]):=by
             refine .inr ⟨_,_,rfl,by simp,fun j u hj => ?_⟩
             have:=hy j u hj
             rwa [add_at,← Nat.zero_add j] at this
            have hown5:=own_below HOWN4.out hbo
            have hszb:=hbo.size
            have hsz4:=HG4.out.size
            subst hli
            obtain ⟨A2,c2,w6,hrun,hown6,hgr,hat⟩:=rapp_run 26 26 134 i0 Tryz.underlying26 hi0 hz0 hz1 hz2 (d:=1) hown5 hrdn (by omega) (by omega)
            have hfar:∀ g,(Value.slice A1 l.length c1).ownBlock=some g→w2.heap.size≤g:=fun g h => (hown5.lt g h).1
            have hgg:w2.grownBy w6 (some b):=by
             have h1:=grown_trans HG4.out (grown_of_below hbo (some b)) fun x e _ => e
             exact grown_trans h1 hgr fun x e hx => by have:=hfar x e;omega
            have hkeep:∀ rv:Rv,RvOk w4 (fun q => w2.heap.size≤q∧(Value.slice A1 l.length c1).ownBlock≠some q) rv→RvOk w6 (fun q => w2.heap.size≤q∧(Value.slice A2 (l.length+1) c2).ownBlock≠some q) rv:=fun rv h => by
             have h1:=h.imp (J:=fun q => (w2.heap.size≤q∧(Value.slice A1 l.length c1).ownBlock≠some q)∧q < w4.heap.size) fun g hg hq => ⟨hq,hg⟩
             have h2:=(h1.below hbo).tch (S:=fun g => (Value.slice A1 l.length c1).ownBlock=some g) (Tch.grown hgr fun g hg _ => hg) fun g hg e => hg.1.2 e
             refine h2.imp fun g _ hg => ⟨hg.1.1,fun e => ?_⟩
             rcases hat with hat | hat
             · exact hg.1.2 (hat ▸ e)
             · rw [hat] at e
               injection e with e
               have:=hg.2
               omega
            have HN:Hid (PksAt w2 b s (k+m) n D (l.length+1) (.slice A2 (l.length+1) c2) (.string (txt P0)) w6):=by
             refine ⟨l++[⟨rd,A4,c4,rn⟩],a+(q+q2),txt P0,by simp,hown6,fun rv hrv => ?_,?_,rfl,by rw [txt_size];exact hkk,?_,hgg⟩
             · rcases List.mem_append.1 hrv with hrv | hrv
               · exact hkeep rv (HRO4.out rv hrv)
               · simp only [List.mem_singleton] at hrv
                 subst hrv
                 exact hkeep _ HRV.out
             · have e1:k+m+(a+(q+q2))=k+m+a+q+q2:=by omega
               rw [e1]
               exact ⟨(HC4.out.1.below hbo HC4.out.1.lt).step hgr (fun e => by have:=hfar b e.symm;omega),HC4.out.2⟩
             · rw [hd,List.map_append,if_neg (by omega),txt_list,show n - (l.length+1)=r by omega]
               rw [show k+m+(a+(q+q2))=k+m+a+(q+q2) by omega]
               rfl
            simp only [World.size_alloc] at hrun
            have HRUN:=Lib.hid hrun
            clear hd HD3 hbo hy hrdn hown5 hgr hat hfar hgg hkeep hrun hown6 hszb HOWN4 HRO4 HG4 HGW4 HRV HC4 HK4
            go_wp2_with (at_builtin;(refine wpList_append_run rfl _ _ _ _ rfl _ _ _ rfl rfl HRUN.out ?_))
            go_roundg (n - (l.length+1))
            case measure => omega
            case rel => exact ⟨l.length+1,by omega,Nat.le_refl _,by go_num,HN⟩
          · have hd:=HD3.out
            rw [if_pos hG,tcat_err _ a G hG] at hd
            have hGi:(G != 0)=true:=by rw [bne_iff_ne];exact hG
            have HE:=Lib.hid (HEN3.out G k4 _ hG hd ⟨HC4.out.1.more (.cells #[.slice A4 rd.length c4,.int .u64 (rn:Int)] 134),HC4.out.2⟩ (grown_more HGW4.out _))
            clear hd HD3 hG HOWN4 HRO4 HG4 HGW4 HRV HC4 HK4
            go_wp2_with fail
            go_ret2
            exact HE.out
        · have hEi:(E != 0)=true:=by rw [bne_iff_ne];exact hE
          have hd:=HD2.out
          rw [if_pos hE,tcat_err _ a E hE] at hd
          have HE:Hid (∀ k' w',Cur w' b s k'→w.grownBy w' (some b)→PkEnd w b s k (.returned (.tuple #[.slice none 0 0,.int .i64 E])) w'):=fun k' w' hc hg => HEN3.out E k' w' hE hd hc hg
          clear hd HD2 hE
          go_wp2_with fail
          refine HPX.out.mono ?_
          rintro e w3 ⟨k3,rfl,hc3,hk3,hg3⟩
          have HE2:=Lib.hid (HE.out k3 _ hc3 (grown_trans HGW.out hg3 fun x e _ => e))
          clear hc3 hk3 hg3 HPX HE
          go_wp2_with fail
          go_ret2
          exact HE2.out
      · obtain rfl:i=n:=by omega
        rw [Nat.sub_self,pkloop,tcat_end] at hd
        subst hA1
        have HE:=Lib.hid (HEN2.out (l.map Rv.rw) a (.slice A1 i c1) wr hd ⟨l,A1,c1,by rw [hli],rfl,hrd,fun rv hrv => (hro rv hrv).imp fun g _ hg => by have:=HG1.out.size;have:=hg.1;omega,by rw [hli];exact hlc,fun b' off' e => Nat.le_trans HG1.out.size (hfr b' off' e).2⟩ hcur hgw)
        clear hd hown hrd hro hg hgw hcur hW0r hbase HS HS0 HEN2 HEN3 hfr hli
        go_wp2_with fail
        go_ret2
        exact HE.out
 · have hve:=vget_err hv
   rw [if_pos hv] at hX
   have hvi:(((vget (s.data.toList.drop k)).2.2:Int) != 0)=true:=by rw [bne_iff_ne];omega
   have HE:Hid (∀ k' w',Cur w' b s k'→w.grownBy w' (some b)→PkEnd w b s k (.returned (.tuple #[.slice none 0 0,.int .i64 ((vget (s.data.toList.drop k)).2.2:Int)])) w'):=fun k' w' hc hg => by
    have:=HEND.out k' (.slice none 0 0) w' (by rw [hX];exact tbn_nil _ w') hc (fun h => by rw [hX] at h;simp only at h;omega) hg
    rw [hX] at this
    exact this
   generalize (vget (s.data.toList.drop k)).2.2=G at *
   clear hve hv hX HEND
   go_enter Tryz.func180,Tryz.ntmps180
   go_wp2_with fail
   refine HN.out.mono ?_
   rintro e w1 ⟨rfl,hc1,hg1⟩
   have HE1:=Lib.hid (HE.out _ w1 hc1 hg1)
   clear hc1 hg1
   go_wp2_with fail
   go_ret2
   exact HE1.out
end Go.Proofs.YtgidfnhfgiehjaaGreatDoor
end

section
namespace Go.Proofs.YtgidfnhfgiehjaaGreatDoor
open Go.RowKit Go.PM
set_option maxRecDepth 100000
set_option maxHeartbeats 4000000
attribute [local go_sem ↓] Go.wp_at_zero Go.wp_at_succ
def PGetEnd (w:World) (s:ByteArray) (e:Ending) (w':World):Prop:=∃ v,e=.returned (.tuple #[v,.int .i64 (pkget echk s.data.toList).2])∧TbN w.heap.size w' v (pkget echk s.data.toList).1∧Below w.heap.size w w'
theorem TbN.below {B:Nat} {w w':World} {v:Value} {t:List Rw} (h:TbN B w v t) (hb:Below w.heap.size w w'):TbN B w' v t:=by
 obtain ⟨l,A,c,h1,h2,h3,h4,h5,h6⟩:=h
 exact ⟨l,A,c,h1,h2,h3.below hb,fun r hr => (h4 r hr).below hb,h5,h6⟩
theorem TbN.mono {B C:Nat} {w:World} {v:Value} {t:List Rw} (h:TbN B w v t) (hb:C≤B):TbN C w v t:=by
 obtain ⟨l,A,c,h1,h2,h3,h4,h5,h6⟩:=h
 exact ⟨l,A,c,h1,h2,h3,fun r hr => (h4 r hr).imp fun g _ hg => Nat.le_trans hb hg,h5,fun b off e => Nat.le_trans hb (h6 b off e)⟩
theorem pget_any (s:ByteArray) (w:World) (hT:Tabs w) (hs:s.size≤1000000):Calls Tryz.prog 143 #[.string s] w (PGetEnd w s):=by
 have hb1:=ba (a:=w) b0 (.cells #[.string s,.int .i64 0] 228)
 have HN:=Lib.hid (pknext_any w hT w.heap.size s 0 (w.alloc (.cells #[.string s,.int .i64 0] 228)) hb1 (Nat.le_refl _) ⟨BlkAt.made w 228 #[.string s,.int .i64 0],Nat.zero_le _,by omega⟩ hs)
 unfold PkEnd at HN
 rw [List.drop_zero] at HN
 have HB1:=Lib.hid hb1
 obtain ⟨Z,hZ⟩:∃ Z,Z=pkget echk s.data.toList:=⟨_,rfl⟩
 have HEND:Hid (∀ v w',TbN w.heap.size w' v Z.1→Below w.heap.size w w'→PGetEnd w s (.returned (.tuple #[v,.int .i64 Z.2])) w'):=fun v w' h1 h2 => by
  unfold PGetEnd
  rw [← hZ]
  exact ⟨v,rfl,h1,h2⟩
 unfold pkget at hZ
 rw [len_list] at hZ
 have hok:(pknext echk s.data.toList).2.2=0→(pknext echk s.data.toList).2.1≤s.size:=fun h => by have:=(pknext_ok h).1;rwa [len_list] at this
 clear hb1 hT
 generalize pknext echk s.data.toList=X at *
 obtain ⟨L,m,E⟩:=X
 simp only at HN hZ hok
 go_enter Tryz.func143,Tryz.ntmps143
 go_wp2_with fail
 refine (cur_over s w).mono ?_
 rintro e w1 ⟨rfl,rfl⟩
 by_cases hE:E=0
 · subst hE
   rw [if_neg (by simp)] at hZ
   have hm:=hok rfl
   go_wp2_with fail
   refine HN.out.mono ?_
   rintro e w2 ⟨k',v,rfl,hsl,hc,hk,hg⟩
   have hk2:k'=m:=by have:=hk trivial;omega
   subst hk2
   have HB2:=Lib.hid (bg HB1.out hg (Nat.le_refl _))
   have HSL:=Lib.hid hsl
   have HL:=Lib.hid (cur_left w.heap.size s k' w2 hc)
   clear hsl hc hk hg HN HB1 hok
   obtain ⟨l,A,c,hv,_,_,_,_,_⟩:=HSL.out
   subst hv
   by_cases hlt:k' < s.size
   · rw [if_pos hlt] at hZ
     have HE:Hid (∀ w',Below w.heap.size w w'→PGetEnd w s (.returned (.tuple #[.slice none 0 0,.int .i64 10])) w'):=fun w' hb => by
      have:=HEND.out (.slice none 0 0) w' (by rw [hZ];exact tbn_nil _ w') hb
      rw [hZ] at this
      exact this
     have hgt:(0:Int) < (s.size:Int) - (k':Int):=by omega
     clear hZ HEND
     go_wp2_with fail
     refine HL.out.mono ?_
     rintro e w3 ⟨rfl,hb3⟩
     have HE2:=Lib.hid (HE.out _ (bb HB2.out hb3))
     clear hb3 HE
     go_wp2_with fail
     go_ret2
     exact HE2.out
   · rw [if_neg hlt] at hZ
     have HE:Hid (∀ w',Below w2.heap.size w2 w'→PGetEnd w s (.returned (.tuple #[.slice A l.length c,.int .i64 0])) w'):=fun w' hb => by
      have:=HEND.out (.slice A l.length c) w' (by rw [hZ];exact (HSL.out.below hb).mono (by rw [World.size_alloc];omega)) (bb HB2.out hb)
      rw [hZ] at this
      exact this
     have hgt:¬ (0:Int) < (s.size:Int) - (k':Int):=by omega
     clear hZ HEND
     go_wp2_with fail
     refine HL.out.mono ?_
     rintro e w3 ⟨rfl,hb3⟩
     have HE2:=Lib.hid (HE.out _ hb3)
     clear hb3 HE
     go_wp2_with fail
     go_ret2
     exact HE2.out
 · rw [if_pos hE] at hZ
   have hEi:(E != 0)=true:=by rw [bne_iff_ne];exact hE
   have HE:Hid (∀ w',Below w.heap.size w w'→PGetEnd w s (.returned (.tuple #[.slice none 0 0,.int .i64 E])) w'):=fun w' hb => by
    have:=HEND.out (.slice none 0 0) w' (by rw [hZ];exact tbn_nil _ w') hb
    rw [hZ] at this
    exact this
   clear hZ HEND hE hok
   go_wp2_with fail
   refine HN.out.mono ?_
   rintro e w2 ⟨k',v,rfl,hsl,hc,hk,hg⟩
   have HB2:=Lib.hid (HE.out _ (bg HB1.out hg (Nat.le_refl _)))
   obtain ⟨l,A,c,hv,_,_,_,_,_⟩:=hsl
   subst hv
   clear hc hk hg HN HB1 HE
   go_wp2_with fail
   go_ret2
   exact HB2.out
end Go.Proofs.YtgidfnhfgiehjaaGreatDoor
end

section
namespace Go.Proofs.YtgidfnhfgiehjaaGreatDoor
open Go.RowKit Go.PM
set_option maxRecDepth 100000
set_option maxHeartbeats 4000000
attribute [local go_sem ↓] Go.wp_at_zero Go.wp_at_succ
theorem pfirst_any (b c0:Nat) (A:Option Addr) (c:Nat) (l:List Rv) (I:Nat→Prop) (w:World) (hb:w.cell? ⟨b,0,none⟩=some (.func (.func 145) #[.slice A l.length c] #[])) (hr:Rd w A (rvs l)) (ho:∀ r ∈ l,RvOk w I r) (hz:∀ r ∈ l,ESz r.d∧r.d.length≤9223372036854775807) (hl:l.length≤9223372036854775807) (hT:Tabs w) :
 Calls Tryz.prog 146 #[.slice (some ⟨b,0,none⟩) 1 c0] w fun e w' => e=.returned (.int .i64 (tchk echk (l.map Rv.rw)))∧Below w.heap.size w w':=by
 have HC:=Lib.hid (tcheck_any A c l I w hr ho hz hl hT)
 clear hr ho hz hT
 generalize tchk echk (l.map Rv.rw)=E at *
 go_enter Tryz.func146,Tryz.ntmps146
 go_wp2_with fail
 refine wp_loop_rounds 2 ?_
 rw [rounds_succ]
 go_wp2_with fail
 refine HC.out.mono ?_
 rintro e w1 ⟨rfl,hb1⟩
 have HB1:=Lib.hid hb1
 clear hb1
 by_cases hE:E=0
 · subst hE
   go_wp2_with fail
   rw [rounds_succ]
   go_wp2_with fail
   go_ret
   exact ⟨rfl,HB1.out⟩
 · have hEi:(E != 0)=true:=by rw [bne_iff_ne];exact hE
   clear hE
   go_wp2_with fail
   go_ret
   exact ⟨rfl,HB1.out⟩
theorem dkey_len {d:List Ent} (h:dchk echk d=0):(dkey d).length≤10000:=by
 obtain ⟨h5,h6,_⟩:=dchk_mil h
 have ha:∀ e ∈ d,e.1.length≤64∧e.2.length≤256:=by
  unfold dchk at h
  split at h
  · rename_i q;exact absurd h q
  · exact fun e he => echk_sz ((dall_iff _).1 (dchk1_all h) e he)
 have hl:∀ d:List Ent,(∀ e ∈ d,e.1.length≤64∧e.2.length≤256)→(dkeyL d).length≤d.length * 400:=by
  intro d
  induction d with
  | nil => intro _;simp [dkeyL]
  | cons e r ih =>
    intro hh
    have h1:=hh e (by simp)
    have h2:=ih fun x hx => hh x (by simp [hx])
    have e1:dkeyL (e :: r)=eput e.1 e.2++dkeyL r:=by simp [dkeyL]
    have p1:vsz e.1.length≤10:=vsz_le10 (by omega)
    have p2:vsz e.2.length≤10:=vsz_le10 (by omega)
    rw [e1,List.length_append,List.length_cons]
    unfold eput
    simp only [List.length_append,vput_length]
    omega
 have h7:=hl _ ha
 have h8:vsz d.length≤10:=vsz_le10 (by omega)
 unfold dkey
 rw [List.length_append,vput_length]
 omega
theorem rwchk_dchk {r:Rw} (h:rwchk echk r=0):dchk echk r.1=0:=by
 unfold rwchk at h
 by_cases hd:dchk echk r.1≠0
 · rw [if_pos hd] at h;exact absurd h hd
 · omega
theorem tchk1_all:∀ (l:List Rw) (p:Option (List UInt8)),tchk1 echk p l=0→∀ r ∈ l,rwchk echk r=0
 | [],_,_,_,h => by cases h
 | x :: m,p,h,r,hr => by
   rw [tchk1] at h
   split at h
   · rename_i q;exact absurd h q
   · rename_i q
     split at h
     · rename_i q2;exact absurd h q2
     · rcases List.mem_cons.1 hr with rfl | hr
       · omega
       · exact tchk1_all m _ h r hr
theorem pone_len (a s:List UInt8) (h:s.length≤1000000):(pone a s).length≤s.length+20:=by
 have h1:=(pcom_le a s).2
 have p1:vsz (pcom a s)≤10:=vsz_le10 (by omega)
 have p2:vsz (s.length - pcom a s)≤10:=vsz_le10 (by omega)
 unfold pone
 simp only [List.length_append,vput_length,List.length_drop]
 omega
theorem pkrows_len:∀ (l:List Rw) (a:List UInt8),(∀ r ∈ l,(dkey r.1).length≤10000∧r.2 < 18446744073709551616)→(pkrows a l).length≤l.length * 10030
 | [],_,_ => by simp [pkrows]
 | x :: m,a,h => by
   obtain ⟨h1,h2⟩:=h x (by simp)
   have h3:=pkrows_len m (dkey x.1) fun r hr => h r (by simp [hr])
   have h4:=pone_len a (dkey x.1) (by omega)
   have h5:vsz x.2≤10:=vsz_le10 (by omega)
   rw [pkrows,List.length_append,List.length_append,vput_length,List.length_cons]
   omega
def Ft (b:Nat) (w:World) (q:Nat):Prop:=q=b∨∃ v,w.cell? ⟨b,1,none⟩=some v∧v.ownBlock=some q
theorem Bld.ft {B b:Nat} {l:List UInt8} {w w5:World} (h:Bld B b l w) (hb:Below w.heap.size w w5) (q:Nat) (hq:Ft b w5 q):q < w.heap.size:=by
 have go:∀ p,Lib.BuilderAtF 222 5 B b p (Lib.byteCells l) w→q < w.heap.size:=fun p h => by
  have hlt:=h.lt
  obtain ⟨_,v,hbk,hown,_⟩:=h
  rcases hq with rfl | ⟨v',hc,ho⟩
  · exact hlt
  · have hb2:=(hb.block b hlt).trans hbk
    have c1:w5.cell? ⟨b,1,none⟩=some v:=by rw [Lib.cell_of_heap hb2];rfl
    rw [c1] at hc
    injection hc with hc
    subst hc
    exact (hown.lt q ho).2
 exact h.elim (go _) (go _)
theorem cc_far (B b:Nat) (l:List UInt8) (w:World) (h:Bld B b l w) :
 Calls Tryz.prog 173 #[.pointer (some ⟨b,0,none⟩)] w fun e w' => e=.returned (.tuple #[])∧Lib.BuilderAtF 222 5 B b (.pointer (some ⟨b,0,none⟩)) (Lib.byteCells l) w'∧Below B w w'∧Tch (fun q => q=b) w w'∧w'.cell? ⟨b,1,none⟩=w.cell? ⟨b,1,none⟩:=by
 rcases h with h | h
 · refine (cc_fresh b w h.cell0 h.shape h.frozen0).mono ?_
   rintro e w' ⟨rfl,rfl⟩
   exact ⟨rfl,h.used _,(Below.refl B w).setCell (p:=⟨b,0,none⟩) h.1 _,(Tch.refl (fun q => q=b) w).put (p:=⟨b,0,none⟩) (fun _ => rfl) _,by simp [go_sem]⟩
 · refine (cc_used b w h.cell0).mono ?_
   rintro e w' ⟨rfl,rfl⟩
   exact ⟨rfl,h,Below.refl B _,Tch.refl _ _,rfl⟩
theorem wstr_far (B b:Nat) (l:List UInt8) (s:ByteArray) (w:World) (h:Bld B b l w) (hlen:l.length+s.size≤100000000000) (hBw:B≤w.heap.size) :
 Calls Tryz.prog 124 #[.pointer (some ⟨b,0,none⟩),.string s] w fun e w' => e=.returned (.tuple #[.int .i64 s.size,.nilIface])∧Bld B b (l++s.data.toList) w'∧Below B w w'∧Tch (Ft b w) w w':=by
 obtain ⟨i0,hi,hz0,hz1,hz2⟩:=info_parts info_byte
 have HCC:=Lib.hid (cc_far B b l w h)
 have hbl:(Lib.byteCells l).length=l.length:=by simp [Lib.byteCells]
 clear h
 go_enter Tryz.func124,Tryz.ntmps124
 go_wp2_with fail
 refine HCC.out.mono ?_
 rintro e w1 ⟨rfl,h1,hb1,ht1,hc1⟩
 obtain ⟨hB,v,hbk,hown,hne⟩:=h1
 have c0:w1.cell? ⟨b,0,none⟩=some (.pointer (some ⟨b,0,none⟩)):=by rw [Lib.cell_of_heap hbk];rfl
 have c1:w1.cell? ⟨b,1,none⟩=some v:=by rw [Lib.cell_of_heap hbk];rfl
 have HOWN:=Lib.hid hown
 have HB1:=Lib.hid hb1
 have HBK:=Lib.hid hbk
 have HT1:Hid (Tch (Ft b w) w w1):=ht1.imp fun g _ hg => .inl hg
 have HV:Hid (∀ q,v.ownBlock=some q→Ft b w q):=fun q hq => .inr ⟨v,hc1.symm.trans c1,hq⟩
 clear ht1 hc1
 clear hown hb1 hbk HCC
 go_wp2_with (at_builtin;refine Lib.wpList_append_own_stringF _ rfl _ _ 42 9 rfl B 5 i0 Tryz.underlying42 Tryz.underlying9 hi hz0 hz1 hz2 _ _ _ rfl HOWN.out s rfl ?c3 ?c4 ?c5 ?_)
 case c3 => rw [hbl];unfold maxLen;omega
 case c4 => rw [hbl];omega
 case c5 => have:=HB1.out.size;omega
 intro v' w2 hown' hgrow _
 have hlt:b < w1.heap.size:=by
  rcases Nat.lt_or_ge b w1.heap.size with h' | h'
  · exact h'
  · have:=HBK.out
    simp [Array.getElem?_eq_none h'] at this
 have hb2:w2.heap[b]? = some (.cells #[.pointer (some ⟨b,0,none⟩),v] 222 (0,0)):=by
  rw [hgrow.block b hlt (fun e => hne e.symm)]
  exact HBK.out
 have d0:w2.cell? ⟨b,0,none⟩=some (.pointer (some ⟨b,0,none⟩)):=by rw [Lib.cell_of_heap hb2];rfl
 have d1:w2.cell? ⟨b,1,none⟩=some v:=by rw [Lib.cell_of_heap hb2];rfl
 have f1:w2.frozen? ⟨b,1,none⟩=false:=Lib.frozen_of_heap hb2 1
 obtain ⟨ao,n',cap,rfl⟩:∃ ao n' cap,v'=.slice ao n' cap:=by
  rcases hown'.2 with ⟨hv,_⟩ | ⟨g,cap,cur,fz,hv,_⟩
  · exact ⟨_,_,_,hv⟩
  · exact ⟨_,_,_,hv⟩
 have HOWN2:=Lib.hid hown'
 have HGR:=Lib.hid hgrow
 have HB2:=Lib.hid hb2
 clear hown' hgrow hb2
 go_wp2_with fail
 go_ret2
 refine ⟨rfl,.inr ?_,?_,?_⟩
 · rw [Lib.byteCells_append]
   have hbs:(Lib.byteCells s.data.toList).length=s.size:=by simp [Lib.byteCells]
   exact Lib.BuilderAtF.put (T:=222) (e:=5) hB HB2.out (bs':=Lib.byteCells l++Lib.byteCells s.data.toList) (by rw [List.length_append,hbs,hbl];exact HOWN2.out) (by decide)
 · exact (HB1.out.grown HGR.out (by have:=HB1.out.size;omega) (fun k hk => (HOWN.out.lt k hk).1)).setCell (p:=⟨b,1,none⟩) hB _
 · exact (HT1.out.trans (S':=Ft b w) (Tch.grown HGR.out fun g hg _ => HV.out g hg) fun _ _ e => e).put (p:=⟨b,1,none⟩) (fun _ => .inl rfl) _
theorem pput_any (A:Option Addr) (c:Nat) (l:List Rv) (I:Nat→Prop) (w:World) (hr:Rd w A (rvs l)) (ho:∀ r ∈ l,RvOk w I r) (hz:∀ r ∈ l,ESz r.d∧r.d.length≤9223372036854775807) (hn:∀ r ∈ l,r.n < 18446744073709551616) (hl:l.length≤9223372036854775807) (hT:Tabs w) :
 Calls Tryz.prog 90 #[.slice A l.length c] w fun e w' => e=.returned (.tuple #[.string (txt (pkput echk (l.map Rv.rw)).1),.int .i64 (pkput echk (l.map Rv.rw)).2])∧Below w.heap.size w w':=by
 have hbo:=ba (a:=w) b0 (.cells #[.func (.func 145) #[.slice A l.length c] #[]] 113)
 have HX:=BlkAt.made w 113 #[.func (.func 145) #[.slice A l.length c] #[]]
 have x0:(w.alloc (.cells #[.func (.func 145) #[.slice A l.length c] #[]] 113)).cell? ⟨w.heap.size,0,none⟩=some (.func (.func 145) #[.slice A l.length c] #[]):=HX.cell 0
 have HF:Hid (∀ c0,Calls Tryz.prog 146 #[.slice (some ⟨w.heap.size,0,none⟩) 1 c0] (w.alloc (.cells #[.func (.func 145) #[.slice A l.length c] #[]] 113)) fun e w' => e=.returned (.int .i64 (tchk echk (l.map Rv.rw)))∧Below (w.heap.size+1) (w.alloc (.cells #[.func (.func 145) #[.slice A l.length c] #[]] 113)) w'):=fun c0 => by
  have:=pfirst_any w.heap.size c0 A c l I _ x0 (hr.below hbo) (fun r h => (ho r h).below hbo) hz hl (hT.below hbo)
  rwa [World.size_alloc] at this
 obtain ⟨X,hX⟩:∃ X,X=pkput echk (l.map Rv.rw):=⟨_,rfl⟩
 rw [← hX]
 unfold pkput at hX
 have HR:=Lib.hid hr
 have HO:=Lib.hid ho
 have HN:=Lib.hid hn
 have HB:=Lib.hid hbo
 have hokk:tchk echk (l.map Rv.rw)=0→l.length≤256∧∀ r ∈ l,EMil r.d∧(dkey r.d).length≤10000:=fun h => by
  obtain ⟨h1,h2⟩:=tchk_len h
  rw [List.length_map] at h1
  refine ⟨h1,fun r hr => ?_⟩
  have h3:=rwchk_dchk (tchk1_all _ _ h2 r.rw (List.mem_map.2 ⟨r,hr,rfl⟩))
  exact ⟨(dchk_mil h3).1,dkey_len h3⟩
 obtain ⟨E,hE⟩:∃ E,E=tchk echk (l.map Rv.rw):=⟨_,rfl⟩
 rw [← hE] at hX HF hokk
 clear hr ho hz hn hT hbo HX x0 hE
 by_cases hE:E=0
 · subst hE
   rw [if_neg (by simp)] at hX
   subst hX
   obtain ⟨h256,hall⟩:=hokk rfl
   have HA:=Lib.hid hall
   have wl:IntKind.u64.wrap (l.length:Int)=(l.length:Int):=by rw [IntKind.wrap_u64];omega
   have HV:Hid (∀ x:World,Calls Tryz.prog 35 #[.int .u64 (l.length:Int)] x fun e w' => e=.returned (.string (txt (vput l.length)))∧Below x.heap.size x w'):=fun x => put_any l.length x (by unfold In64;omega)
   have hvl:(vput l.length).length≤10:=by rw [vput_length];exact vsz_le10 (by omega)
   have HF0:Hid (pktext (l.map Rv.rw)=vput l.length++pkrows [] ((l.drop 0).map Rv.rw)):=by
    show _=_
    unfold pktext
    rw [List.length_map]
    rfl
   have hFz:(pktext (l.map Rv.rw)).length≤10000000:=by
    have:=pkrows_len (l.map Rv.rw) [] fun r hr => by
     obtain ⟨q,hq,rfl⟩:=List.mem_map.1 hr
     exact ⟨(HA.out q hq).2,HN.out q hq⟩
    rw [List.length_map] at this
    unfold pktext
    rw [List.length_append,List.length_map]
    omega
   clear hall hokk
   generalize pktext (l.map Rv.rw)=F at *
   go_enter Tryz.func90,Tryz.ntmps90
   go_wp2_with fail
   refine (HF.out _).mono ?_
   rintro e w1 ⟨rfl,hb1⟩
   have hB1:=HB.out.trans (hb1.mono (by omega))
   have hbo1:=ba (a:=w1) b0 (.cells #[.pointer none,.slice none 0 0] 222)
   have HB1:=Lib.hid hB1
   have HBO:=Lib.hid (bb hB1 hbo1)
   have HBL:=Lib.hid (bld_new w1)
   clear hb1 hB1 hbo1 HF HB
   go_wp2_with fail
   refine (HV.out _).mono ?_
   rintro e w2 ⟨rfl,hb2⟩
   have HB2:=Lib.hid (bb HBO.out hb2)
   have hsz2:=hb2.size
   rw [World.size_alloc] at hsz2
   have HW:=Lib.hid (wstr_any w1.heap.size w1.heap.size [] (txt (vput l.length)) w2 (HBL.out.below hb2) (by rw [txt_size,List.length_nil];omega) (by omega))
   rw [List.nil_append,txt_list] at HW
   have HW12:Hid (Below w1.heap.size w1 w2):=(ba (a:=w1) b0 (.cells #[.pointer none,.slice none 0 0] 222)).trans (hb2.mono (by rw [World.size_alloc];omega))
   clear hb2 hsz2 HBL HBO
   go_wp2_with fail
   refine HW.out.mono ?_
   rintro e w3 ⟨rfl,hbl3,hb3⟩
   have H0:Hid (Bld w1.heap.size w1.heap.size (vput l.length) w3∧Below w1.heap.size w1 w3):=⟨hbl3,HW12.out.trans hb3⟩
   clear hbl3 hb3 HW HB2 HW12
   go_wp2_with fail
   go_loopg [6,24] l.length (fun gk av ki wr => ∃ (k:Nat) (K S:List UInt8),k≤l.length∧l.length - k≤gk∧ki=.int .i64 (k:Int)∧av=.string (txt K)∧K.length≤10000∧Hid (F=S++pkrows K ((l.drop k).map Rv.rw))∧Hid (Bld w1.heap.size w1.heap.size S wr∧Below w1.heap.size w1 wr))
   case atStart => exact ⟨0,[],_,Nat.zero_le _,by omega,rfl,rfl,Nat.zero_le _,HF0,H0⟩
   case round =>
    obtain ⟨k,K,S,hk,hgk,rfl,rfl,hK,hF,HS⟩:=hrel
    obtain ⟨hbld,hbel⟩:=HS.out
    have hbw:=HB1.out.trans (hbel.mono HB1.out.size)
    by_cases hlt:k < l.length
    · obtain ⟨b,off,rfl,hblt,c0,c1⟩:=(HR.out.below hbw).row hlt
      obtain ⟨z0,z1⟩:=HA.out _ (List.getElem_mem hlt)
      have zn:=HN.out _ (List.getElem_mem hlt)
      have hro:=(HO.out _ (List.getElem_mem hlt)).below hbw
      have hf:=hF.out
      rw [List.drop_eq_getElem_cons hlt,List.map_cons,pkrows] at hf
      generalize l[k]=r at *
      obtain ⟨rd,rA,rc,rn⟩:=r
      simp only at c0 c1 z0 z1 zn hro
      change F=S++(pone K (dkey rd)++(vput rn++pkrows (dkey rd) ((l.drop (k+1)).map Rv.rw))) at hf
      have hp1:(pone K (dkey rd)).length≤10020:=by have:=pone_len K (dkey rd) (by omega);omega
      have hp2:(vput rn).length≤10:=by rw [vput_length];exact vsz_le10 (by omega)
      have hS:S.length≤10000000:=by rw [hf,List.length_append] at hFz;omega
      have hbo:=ba (a:=wr) b0 (.cells #[.slice rA rd.length rc,.int .u64 (rn:Int)] 134)
      have HBo:=Lib.hid hbo
      have HX:=Lib.hid (BlkAt.made wr 134 #[.slice rA rd.length rc,.int .u64 (rn:Int)])
      have HKY:=Lib.hid (key12_any rA rc rd _ (hro.2.rd.below hbo) z0)
      have H1:Hid (∀ x:World,Calls Tryz.prog 147 #[.string (txt K),.string (txt (dkey rd))] x fun e w' => e=.returned (.string (txt (pone K (dkey rd))))∧Below x.heap.size x w'):=fun x => by
       have:=one14_any (txt K) (txt (dkey rd)) x (by rw [txt_size];omega) (by rw [txt_size];omega)
       rwa [txt_list,txt_list] at this
      have HVN:Hid (∀ x:World,Calls Tryz.prog 35 #[.int .u64 (rn:Int)] x fun e w' => e=.returned (.string (txt (vput rn)))∧Below x.heap.size x w'):=fun x => put_any rn x (by unfold In64;omega)
      have HFF:=Lib.hid hf
      have HBLD:=Lib.hid hbld
      have HBEL:=Lib.hid hbel
      have HBS:=Lib.hid hbel.size
      clear hF hf hbld hbel hbw hro hbo HS H0 HF0
      go_wp2_with fail
      refine HKY.out.mono ?_
      rintro e w4 ⟨rfl,hb4⟩
      have HB4:=Lib.hid (bb HBo.out hb4)
      have HX4:=Lib.hid (HX.out.below hb4 HX.out.lt)
      clear hb4 HKY HX c0 c1
      go_wp2_with fail
      refine (H1.out _).mono ?_
      rintro e w5 ⟨rfl,hb5⟩
      have HB5:=Lib.hid (bb HB4.out hb5)
      have HX5:=Lib.hid (HX4.out.below hb5 HX4.out.lt)
      have HW:=Lib.hid (wstr_far w1.heap.size w1.heap.size S (txt (pone K (dkey rd))) w5 (HBLD.out.below HB5.out) (by rw [txt_size];omega) (Nat.le_trans HBS.out HB5.out.size))
      rw [txt_list] at HW
      clear hb5 HX4 HB4
      go_wp2_with fail
      refine HW.out.mono ?_
      rintro e w6 ⟨rfl,hbl6,hb6,ht6⟩
      have hx6:=HX5.out.tch ht6 fun h => absurd (HBLD.out.ft HB5.out _ h) (Nat.lt_irrefl _)
      have d1:=hx6.cell 1
      simp at d1
      have HBL6:=Lib.hid hbl6
      have HB6:Hid (Below w1.heap.size w1 w6):=(HBEL.out.trans (HB5.out.mono HBS.out)).trans hb6
      clear hbl6 hb6 ht6 hx6 HW HX5 HBLD
      go_wp2_with fail
      refine (HVN.out _).mono ?_
      rintro e w7 ⟨rfl,hb7⟩
      have HB7:Hid (Below w1.heap.size w1 w7):=HB6.out.trans (hb7.mono HB6.out.size)
      have HW:=Lib.hid (wstr_any w1.heap.size w1.heap.size (S++pone K (dkey rd)) (txt (vput rn)) w7 (HBL6.out.below hb7) (by rw [txt_size,List.length_append];omega) HB7.out.size)
      rw [txt_list] at HW
      clear hb7 HBL6 HB6 d1
      go_wp2_with fail
      refine HW.out.mono ?_
      rintro e w8 ⟨rfl,hbl8,hb8⟩
      have HN8:Hid (Bld w1.heap.size w1.heap.size (S++pone K (dkey rd)++vput rn) w8∧Below w1.heap.size w1 w8):=⟨hbl8,HB7.out.trans hb8⟩
      have HF8:Hid (F=(S++pone K (dkey rd)++vput rn)++pkrows (dkey rd) ((l.drop (k+1)).map Rv.rw)):=by
       show _=_
       rw [HFF.out]
       simp
      clear hbl8 hb8 HW HFF
      go_wp2_with fail
      go_roundg (l.length - (k+1))
      case measure => omega
      case rel => exact ⟨k+1,dkey rd,_,by omega,Nat.le_refl _,by go_num,rfl,z1,HF8,HN8⟩
    · obtain rfl:k=l.length:=by omega
      have hf:=hF.out
      rw [List.drop_length,List.map_nil,pkrows,List.append_nil] at hf
      subst hf
      have HST:=Lib.hid (str12_any _ _ _ _ hbld hbel.size)
      have HBW:=Lib.hid hbw
      clear hbld hbel HS H0 hF HF0 hbw
      go_wp2_with fail
      refine HST.out.mono ?_
      rintro e w4 ⟨rfl,hb4⟩
      have HB4:=Lib.hid (HBW.out.trans (hb4.mono HB1.out.size))
      clear hb4
      go_wp2_with fail
      go_ret2
      exact ⟨rfl,HB4.out⟩
 · rw [if_pos hE] at hX
   subst hX
   have hEi:(E != 0)=true:=by rw [bne_iff_ne];exact hE
   clear hE hokk
   go_enter Tryz.func90,Tryz.ntmps90
   go_wp2_with fail
   refine (HF.out _).mono ?_
   rintro e w1 ⟨rfl,hb1⟩
   have HB1:=Lib.hid (HB.out.trans (hb1.mono (by omega)))
   clear hb1 HF HB
   go_wp2_with fail
   go_ret2
   exact ⟨rfl,HB1.out⟩
end Go.Proofs.YtgidfnhfgiehjaaGreatDoor
end
