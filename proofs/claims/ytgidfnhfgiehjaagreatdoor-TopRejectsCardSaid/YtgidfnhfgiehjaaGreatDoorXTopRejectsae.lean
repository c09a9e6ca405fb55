/-
  Texts of the proof, joined: Kinds2 Kinds3 Msg1 PlainPick SortRow. Conditions: as each names.
-/
import Derived.Test.YtgidfnhfgiehjaaGreatDoorXTopRejectsad
import Derived.Laws.EntriesVeiled
import Derived.Test.YtgidfnhfgiehjaaGreatDoorXTopRejectsac
import Derived.Test.YtgidfnhfgiehjaaGreatDoorXTopRejectsab
import Derived.Shelf.SlSortCmp.WholeK

section
namespace Go.Proofs.YtgidfnhfgiehjaaGreatDoor
open Go.RowKit Go.PM
set_option maxRecDepth 100000
set_option maxHeartbeats 4000000
attribute [local go_sem ↓] Go.wp_at_zero Go.wp_at_succ
theorem kget:∀ k:Nat,1≤k→k≤8→getL zkind kindL (.int .i64 (k:Int))=kv k∧hasL kindL (.int .i64 (k:Int))=true
 | 1,_,_ | 2,_,_ | 3,_,_ | 4,_,_ | 5,_,_ | 6,_,_ | 7,_,_ | 8,_,_ => ⟨rfl,rfl⟩
 | 0,h,_ => absurd h (by omega)
 | n+9,_,h => absurd h (by omega)
theorem kget_no {k:Int} (h:¬ (1≤k∧k≤8)):getL zkind kindL (.int .i64 k)=zkind:=by
 have hs:∀ n:Int,1≤n→n≤8→(Lit.int .i64 n).sameKey (.int .i64 k)=false:=fun n h1 h2 => by
  simp only [Lit.sameKey,decide_eq_false_iff_not]
  rintro ⟨_,rfl⟩
  exact h ⟨h1,h2⟩
 simp only [kindL,getL,hs 1 (by decide) (by decide),hs 2 (by decide) (by decide),hs 3 (by decide) (by decide),hs 4 (by decide) (by decide),hs 5 (by decide) (by decide),hs 6 (by decide) (by decide),hs 7 (by decide) (by decide),hs 8 (by decide) (by decide),cond_false]
theorem kget_any (k:Int):∃ F,(F=.nilFunc∨∃ n,F=.func (.func n) #[] #[])∧getL zkind kindL (.int .i64 k)=.agg #[.string (txt (kname (knat k))),.int .i64 (kfrom (knat k):Int),F]:=by
 by_cases h:1≤k∧k≤8
 · obtain ⟨n,rfl⟩:∃ n:Nat,k=n:=⟨k.toNat,by omega⟩
   rw [(kget n (by omega) (by omega)).1,knat_of (by omega) (by omega)]
   exact ⟨_,.inr ⟨_,rfl⟩,rfl⟩
 · rw [kget_no h]
   unfold knat
   rw [if_neg h]
   exact ⟨_,.inl rfl,rfl⟩
theorem enter_of {P : Program} {f : FuncId} {fn : Func} {c : Code} (hf : P.funcs[f]? = some fn) (hname : (fn.name == "runtime.NumGoroutine") = false) (hb : fn.body = some c) (args : Array Value) (w : World) : (callFunc f args).run P w = .ok (.enter f args) w := by
 have h1 : fn.name ≠ "runtime.NumGoroutine" := by simpa using hname
 simp [callFunc,hf,h1,hb]
theorem kfn_enter (w:World):∀ k,1≤k→k≤8→(callFunc (kfn k) #[]).run Tryz.prog w=.ok (.enter (kfn k) #[]) w
 | 1,_,_ => enter_of Tryz.func127 rfl rfl _ _
 | 2,_,_ => enter_of Tryz.func128 rfl rfl _ _
 | 3,_,_ => enter_of Tryz.func129 rfl rfl _ _
 | 4,_,_ => enter_of Tryz.func130 rfl rfl _ _
 | 5,_,_ => enter_of Tryz.func131 rfl rfl _ _
 | 6,_,_ => enter_of Tryz.func132 rfl rfl _ _
 | 7,_,_ => enter_of Tryz.func133 rfl rfl _ _
 | 8,_,_ => enter_of Tryz.func134 rfl rfl _ _
 | 0,h,_ => absurd h (by omega)
 | n+9,_,h => absurd h (by omega)
theorem wf_i64 {k:Int} (h:InI64 k):(Lit.int .i64 k).wf=true:=by
 unfold InI64 at h
 simp only [Lit.wf,show IntKind.i64.min = -9223372036854775808 from rfl,show IntKind.i64.max=9223372036854775807 from rfl,Bool.and_eq_true,decide_eq_true_eq]
 omega
theorem fld_kind0 (S:ByteArray) (R:Int) (F:Value) (x:World):(Instr.field 145 (.agg #[.string S,.int .i64 R,F]) 0).run Tryz.prog x=.ok (.string S) x:=by rfl
theorem fld_kind1 (S:ByteArray) (R:Int) (F:Value) (x:World):(Instr.field 145 (.agg #[.string S,.int .i64 R,F]) 1).run Tryz.prog x=.ok (.int .i64 R) x:=by rfl
theorem from17 (k:Int) (w:World) (hk:InI64 k):Calls Tryz.prog 37 #[.int .i64 k] w fun e w' => e=.returned (.int .i64 (kfrom (knat k):Int))∧Below w.heap.size w w':=by
 obtain ⟨F,hor,hF⟩:=kget_any k
 have hf0:=fld_kind0
 have hf1:=fld_kind1
 have HF:=Lib.hid hF
 have HK:=Lib.hid (wf_i64 hk)
 clear hF hk
 generalize kname (knat k)=N at *
 generalize kfrom (knat k)=R at *
 rcases hor with rfl | ⟨n,rfl⟩
 · skip
   go_enter Tryz.func37,Tryz.ntmps37
   go_wp2_with (first |
    (go_at_call 79;refine (all17 _).mono ?_;rintro e w1 ⟨rfl,h1,b1⟩;have H1:=Lib.hid h1;have B1:=Lib.hid b1;clear h1 b1) |
    (at_lookup;refine wpList_look_v _ rfl _ _ 146 rfl 3 145 key_int Tryz.underlying146 (zero_kind _) _ _ rfl H1.out (.int .i64 k) (.int .i64 k) rfl (Maps.keyOf_int_mk Tryz.underlying3 HK.out) HF.out ?_))
   go_ret
   exact ⟨rfl,B1.out⟩
 · skip
   go_enter Tryz.func37,Tryz.ntmps37
   go_wp2_with (first |
    (go_at_call 79;refine (all17 _).mono ?_;rintro e w1 ⟨rfl,h1,b1⟩;have H1:=Lib.hid h1;have B1:=Lib.hid b1;clear h1 b1) |
    (at_lookup;refine wpList_look_v _ rfl _ _ 146 rfl 3 145 key_int Tryz.underlying146 (zero_kind _) _ _ rfl H1.out (.int .i64 k) (.int .i64 k) rfl (Maps.keyOf_int_mk Tryz.underlying3 HK.out) HF.out ?_))
   go_ret
   exact ⟨rfl,B1.out⟩
theorem name17 (k:Int) (w:World) (hk:InI64 k):Calls Tryz.prog 240 #[.int .i64 k] w fun e w' => e=.returned (.string (txt (kname (knat k))))∧Below w.heap.size w w':=by
 obtain ⟨F,hor,hF⟩:=kget_any k
 have hf0:=fld_kind0
 have hf1:=fld_kind1
 have HF:=Lib.hid hF
 have HK:=Lib.hid (wf_i64 hk)
 clear hF hk
 generalize kname (knat k)=N at *
 generalize kfrom (knat k)=R at *
 rcases hor with rfl | ⟨n,rfl⟩
 · skip
   go_enter Tryz.func240,Tryz.ntmps240
   go_wp2_with (first |
    (go_at_call 79;refine (all17 _).mono ?_;rintro e w1 ⟨rfl,h1,b1⟩;have H1:=Lib.hid h1;have B1:=Lib.hid b1;clear h1 b1) |
    (at_lookup;refine wpList_look_v _ rfl _ _ 146 rfl 3 145 key_int Tryz.underlying146 (zero_kind _) _ _ rfl H1.out (.int .i64 k) (.int .i64 k) rfl (Maps.keyOf_int_mk Tryz.underlying3 HK.out) HF.out ?_))
   go_ret
   exact ⟨rfl,B1.out⟩
 · skip
   go_enter Tryz.func240,Tryz.ntmps240
   go_wp2_with (first |
    (go_at_call 79;refine (all17 _).mono ?_;rintro e w1 ⟨rfl,h1,b1⟩;have H1:=Lib.hid h1;have B1:=Lib.hid b1;clear h1 b1) |
    (at_lookup;refine wpList_look_v _ rfl _ _ 146 rfl 3 145 key_int Tryz.underlying146 (zero_kind _) _ _ rfl H1.out (.int .i64 k) (.int .i64 k) rfl (Maps.keyOf_int_mk Tryz.underlying3 HK.out) HF.out ?_))
   go_ret
   exact ⟨rfl,B1.out⟩
def zspec:Value:=.agg #[.int .u64 0,.int .i64 0,.int .i64 0,.string ⟨#[]⟩]
theorem info_spec:(Tryz.prog.info? 94).map (fun i => (i.zero,i.size,i.bytes))=some (some zspec,4,40):=by kernel_rfl
theorem sapp_run {P:Program} {w:World} (t ty e:TypeId) (i:TypeInfo) (ht:P.underlying t=some (.slice e)) (hi:P.info? e=some i) (hz:i.zero=some zspec) (hsz:i.size=4) (hby:i.bytes=40)
 {base:Nat} {A:Option Addr} {g c d:Nat} {l:List Sp} {s:Sp} (hown:w.ownsRow base e 4 (.slice A l.length c) l.length (sps l)) (hB:∀ j u,(spv s)[j]? = some u→w.cell? ((⟨g,0,none⟩:Addr).add j)=some u) (hl:l.length≤100000) (hb:base≤w.heap.size) :
 ∃ (A':Option Addr) (c':Nat) (w':World),(Builtin.append_ #[t,t] ty #[.slice A l.length c,.slice (some ⟨g,0,none⟩) 1 d]).run P w=.ok (.slice A' (l++[s]).length c') w'∧w'.ownsRow base e 4 (.slice A' (l++[s]).length c') (l++[s]).length (sps (l++[s])) ∧
  w.grownBy w' (Value.slice A l.length c).ownBlock:=by
 have e1:sps [s]=spv s:=by simp [sps]
 obtain ⟨g',cap,w',hr,h2,h3,h4,h5⟩:=run_append_lies (P:=P) w t ty base e i zspec 4 40 ht hi hz hsz hby rfl (by decide) _ l.length (sps l) hown ⟨g,0,none⟩ 1 d (spv s) rfl hB (fun u hu => sps_one [s] u (by rw [e1];exact hu)) (by decide) (by unfold maxLen;omega) (by omega) hb w.heap.size rfl
 have e2:(l++[s]).length=l.length+1:=by simp
 refine ⟨some ⟨g',0,none⟩,cap,w',by rw [e2];exact hr,?_,h3⟩
 rw [sps_app,e1,e2]
 exact h2
def KnAt (w:World) (l:List Sp) (vv:Value) (wr:World):Prop:=∃ A c,vv=.slice A l.length c∧wr.ownsRow w.heap.size 94 4 vv l.length (sps l)∧Below w.heap.size w wr
def KnEnd (w:World) (l:List Sp) (e:Ending) (w':World):Prop:=∃ A c,e=.returned (.slice A l.length c)∧Rd w' A (sps l)∧l.length≤c∧Below w.heap.size w w'
theorem known17 (k v:Nat) (w:World) (h1:1≤k) (h8:k≤8) (hv:kfrom k≤v) (hv3:v≤3):Calls Tryz.prog 39 #[.int .i64 (k:Int),.int .i64 (v:Int)] w (KnEnd w (kknown k v)):=by
 obtain ⟨i0,hi0,hz0,hz1,hz2⟩:=info_parts info_spec
 obtain ⟨hG,hH⟩:=kget k h1 h8
 obtain ⟨N,hN⟩:∃ N,N=txt (kname k):=⟨_,rfl⟩
 obtain ⟨L,hL⟩:∃ L,L=kspecs k:=⟨_,rfl⟩
 have hG':getL zkind kindL (.int .i64 (k:Int))=.agg #[.string N,.int .i64 (kfrom k:Int),.func (.func (kfn k)) #[] #[]]:=by rw [hG,hN];rfl
 have HG:=Lib.hid hG'
 have HH:=Lib.hid hH
 have HW:=Lib.hid (wf_i64 (k:=(k:Int)) (by unfold InI64;omega))
 have HSP:Hid (∀ x:World,Calls Tryz.prog (kfn k) #[] x (SpEnd x k)):=fun x => specs_of x k h1 h8
 have hent:∀ x:World,(callFunc (kfn k) #[]).run Tryz.prog x=.ok (.enter (kfn k) #[]) x:=fun x => kfn_enter x k h1 h8
 have hLl:L.length≤5:=by
  subst hL
  clear hv hG hH hN hG' HG HH HW HSP hent
  revert h1 h8
  match k with
  | 0 | 1 | 2 | 3 | 4 | 5 | 6 | 7 | 8 => intros;decide
  | n+9 => intro _ h;omega
 have hv1:¬ (v:Int) < (kfrom k:Int):=by omega
 have hv2:¬ (3:Int) < (v:Int):=by omega
 have HKN:Hid (kknown k v=L.filter fun s => decide (s.from_≤v)):=by show _=_;rw [hL];rfl
 have HLL:=Lib.hid hL
 generalize kfn k=fn at *
 generalize kfrom k=fr at *
 clear hG hH hG' hN hL h1 h8
 go_enter Tryz.func39,Tryz.ntmps39
 go_wp2_with (first |
  (go_at_call 79;refine (all17 _).mono ?_;rintro e w1 ⟨rfl,h1,b1⟩;have H1:=Lib.hid h1;have B1:=Lib.hid b1;clear h1 b1) |
  (at_lookup;refine wpList_look_ok_v _ rfl _ _ 146 rfl 3 145 key_int Tryz.underlying146 (zero_kind _) _ _ rfl H1.out (.int .i64 (k:Int)) (.int .i64 (k:Int)) rfl (Maps.keyOf_int_mk Tryz.underlying3 HW.out) HG.out HH.out ?_))
 refine (HSP.out _).mono ?_
 rintro e w2 ⟨bs,rfl,hbs,hrd,hb2⟩
 rw [← HLL.out] at hrd ⊢
 have HB2:=Lib.hid (bb (ba B1.out _) hb2)
 have HRD:=Lib.hid hrd
 clear hrd hb2 H1 B1 HSP hent
 go_wp2_with fail
 have H0:Hid (KnAt w2 ((L.take 0).filter fun s => decide (s.from_≤v)) (.slice none 0 0) w2):=⟨none,0,rfl,World.ownsRow_nil _ _ _ _,b0⟩
 go_loopg [7,32] L.length (fun gk vv ki wr => ∃ j:Nat,j≤L.length∧L.length - j≤gk∧ki=.int .i64 (j:Int)∧Hid (KnAt w2 ((L.take j).filter fun s => decide (s.from_≤v)) vv wr))
 case atStart => exact ⟨0,Nat.zero_le _,by omega,rfl,H0⟩
 case round =>
  obtain ⟨j,hj,hgj,rfl,HS⟩:=hrel
  obtain ⟨A,c,rfl,hown,hbel⟩:=HS.out
  by_cases hlt:j < L.length
  · obtain ⟨b,off,hAe,hbl,c0,c1,c2,c3⟩:=rd_spec (HRD.out.below hbel) hlt
    injection hAe with hAe
    injection hAe with e1 e2
    subst e1 e2
    simp only [Nat.zero_add] at c0 c1 c2 c3
    have hst:(L.take (j+1)).filter (fun s => decide (s.from_≤v))=(L.take j).filter (fun s => decide (s.from_≤v))++(if L[j].from_≤v then [L[j]] else []):=by
     rw [← List.take_append_getElem hlt,List.filter_append,List.filter_cons,List.filter_nil]
     by_cases h:L[j].from_≤v <;> simp [h]
    have hln:((L.take j).filter fun s => decide (s.from_≤v)).length≤5:=Nat.le_trans (List.length_filter_le _ _) (by rw [List.length_take];omega)
    have HST:=Lib.hid hst
    generalize L[j]=s at *
    generalize (L.take j).filter (fun s => decide (s.from_≤v))=F at *
    have hbo:=ba (a:=wr) b0 (.cells #[.int .u64 (s.tag:Int),.int .i64 (s.use:Int),.int .i64 (s.from_:Int),.string (txt s.nm)] 94)
    have hbo2:=ba hbo (.cells #[.int .u64 (s.tag:Int),.int .i64 (s.use:Int),.int .i64 (s.from_:Int),.string (txt s.nm)] 94)
    have hyy:=World.news_of_block (cs:=#[.int .u64 (s.tag:Int),.int .i64 (s.use:Int),.int .i64 (s.from_:Int),.string (txt s.nm)]) (t:=94) (fr:=(0,0)) (heap_alloc_new (wr.alloc (.cells #[.int .u64 (s.tag:Int),.int .i64 (s.use:Int),.int .i64 (s.from_:Int),.string (txt s.nm)] 94)) (.cells #[.int .u64 (s.tag:Int),.int .i64 (s.use:Int),.int .i64 (s.from_:Int),.string (txt s.nm)] 94))
    simp only [World.size_alloc] at hyy
    have hw2:=hbel.size
    by_cases hf:s.from_≤v
    · obtain ⟨A2,c2',w3,hrun,hown3,hg3⟩:=sapp_run (g:=wr.heap.size+1) (d:=1) (s:=s) 91 91 94 i0 Tryz.underlying91 hi0 hz0 hz1 hz2 (own_below hown hbo2) hyy (by omega) (by simp;omega)
      have HRUN:=Lib.hid hrun
      have HN:Hid (KnAt w2 (F++[s]) (.slice A2 (F++[s]).length c2') w3):=⟨A2,c2',rfl,hown3,(hbel.trans (hbo2.mono hw2)).grown hg3 (by simp;omega) fun k hk => (hown.lt k hk).1⟩
      have hfi:(s.from_:Int)≤(v:Int):=by omega
      rw [if_pos hf] at HST
      clear hown hbel hrun hown3 hg3 hyy hbo hbo2 HS H0 hst hln
      go_wp2_with (at_builtin;(refine wpList_append_run rfl _ _ _ _ rfl _ _ _ rfl rfl HRUN.out ?_))
      go_roundg (L.length - (j+1))
      case measure => omega
      case rel => exact ⟨j+1,by omega,Nat.le_refl _,by go_num,by
       have h:=HN
       rw [List.length_append] at h
       rw [HST.out]
       exact h⟩
    · have HN:Hid (KnAt w2 F (.slice A F.length c) (wr.alloc (.cells #[.int .u64 (s.tag:Int),.int .i64 (s.use:Int),.int .i64 (s.from_:Int),.string (txt s.nm)] 94))):=⟨A,c,rfl,own_below hown hbo,hbel.trans (hbo.mono hw2)⟩
      have hfi:¬ (s.from_:Int)≤(v:Int):=by omega
      rw [if_neg hf,List.append_nil] at HST
      clear hown hbel hyy hbo hbo2 HS H0 hst hln
      go_wp2_with fail
      go_roundg (L.length - (j+1))
      case measure => omega
      case rel => exact ⟨j+1,by omega,Nat.le_refl _,by go_num,by rw [HST.out];exact HN⟩
  · obtain rfl:j=L.length:=by omega
    have HE:Hid (KnEnd w (kknown k v) (.returned (.slice A ((L.take L.length).filter fun s => decide (s.from_≤v)).length c)) wr):=by
     rw [List.take_of_length_le (Nat.le_refl _),← HKN.out] at hown ⊢
     obtain ⟨A',c',h1,h2,h3,_⟩:=Rd.own hown
     injection h1 with e1 _ e3
     subst e1 e3
     exact ⟨_,_,rfl,h2,h3,HB2.out.trans (hbel.mono HB2.out.size)⟩
    clear hown hbel HS H0
    generalize ((L.take L.length).filter fun s => decide (s.from_≤v)).length=n at *
    go_wp2_with fail
    go_ret
    exact HE.out
theorem info_ku64:(Tryz.prog.info? 22).map (fun i => (i.zero,i.size,i.bytes))=some (some (.int .u64 0),1,8):=by kernel_rfl
theorem tags17 (k v:Nat) (w:World) (h1:1≤k) (h8:k≤8) (hv:kfrom k≤v) (hv3:v≤3):Calls Tryz.prog 41 #[.int .i64 (k:Int),.int .i64 (v:Int)] w
 fun e w' => ∃ A c,e=.returned (.slice A (ktags k v).length c)∧Rd w' A (u64s (ktags k v))∧(ktags k v).length≤c∧Below w.heap.size w w':=by
 obtain ⟨i0,hi0,hz0,hz1,hz2⟩:=info_parts info_ku64
 have HK:=Lib.hid (known17 k v w h1 h8 hv hv3)
 obtain ⟨L,hL⟩:∃ L,L=kknown k v:=⟨_,rfl⟩
 have hkt:ktags k v=L.map Sp.tag:=by rw [hL];rfl
 have hLl:L.length≤100:=by
  rw [hL]
  refine Nat.le_trans (List.length_filter_le _ _) ?_
  clear HK hL hkt hv
  revert h1 h8
  match k with
  | 0 | 1 | 2 | 3 | 4 | 5 | 6 | 7 | 8 => intros;decide
  | n+9 => intro _ h;omega
 rw [hkt,List.length_map]
 rw [← hL] at HK
 clear hL hkt h1 h8 hv hv3
 go_enter Tryz.func41,Tryz.ntmps41
 go_wp2_with fail
 refine HK.out.mono ?_
 rintro e w2 ⟨A0,c0,rfl,hrd,hc0,hb2⟩
 have HB2:=Lib.hid hb2
 have HRD:=Lib.hid hrd
 clear hrd hb2 HK
 go_wp2_with fail
 have H0:Hid (w2.ownsRow w2.heap.size 22 1 (.slice none 0 0) 0 (u64s ((L.map Sp.tag).take 0))):=World.ownsRow_nil _ _ _ _
 go_loopg [5,12] L.length (fun gk vv ki wr => ∃ j:Nat,j≤L.length∧L.length - j≤gk∧ki=.int .i64 (j:Int)∧Hid (wr.ownsRow w2.heap.size 22 1 vv j (u64s ((L.map Sp.tag).take j)))∧Below w2.heap.size w2 wr)
 case atStart => exact ⟨0,Nat.zero_le _,by omega,rfl,H0,b0⟩
 case round =>
  obtain ⟨j,hj,hgj,rfl,HO,hb⟩:=hrel
  have HB:=Lib.hid hb
  by_cases hlt:j < L.length
  · obtain ⟨b,off,rfl,hbl,c0',c1,c2,c3⟩:=rd_spec (HRD.out.below hb) hlt
    have hst:Hid (u64s ((L.map Sp.tag).take (j+1))=u64s ((L.map Sp.tag).take j)++[.int .u64 (L[j].tag:Int)]):=by
     show _=_
     rw [← List.take_append_getElem (show j < (L.map Sp.tag).length by rw [List.length_map];exact hlt)]
     simp [u64s]
    generalize L[j]=s at *
    have hwz:=hb.size
    have hnew:=one_new (wr.alloc (.cells #[.int .u64 (s.tag:Int),.int .i64 (s.use:Int),.int .i64 (s.from_:Int),.string (txt s.nm)] 94)) (.int .u64 (s.tag:Int)) 22
    simp only [World.size_alloc] at hnew
    clear hb
    go_wp2_with (at_builtin;go_must (refine wpList_append_own _ rfl _ _ 97 rfl w2.heap.size 22 i0 (.int .u64 0) 1 8 Tryz.underlying97 hi0 hz0 hz1 hz2 rfl (by decide) _ _ _ rfl ((HO.out.alloc _).alloc _) ⟨wr.heap.size+1,0,none⟩ 1 1 [.int .u64 (s.tag:Int)] rfl rfl hnew (one_cell_int _ _) (by unfold maxLen;omega) (by omega) (by simp;omega) ?_);intro v1 w3 hown2 hg2 _)
    go_roundg (L.length - (j+1))
    case measure => omega
    case rel =>
     refine ⟨j+1,by omega,Nat.le_refl _,by go_num,?_,below_append (ba (ba HB.out _) _) ((HO.out.alloc _).alloc _) hg2⟩
     rw [hst.out]
     exact hown2
  · obtain rfl:j=L.length:=by omega
    have h:=HO.out
    rw [List.take_of_length_le (by simp)] at h
    obtain ⟨A',c',rfl,h2,h3,_⟩:=Rd.own h
    have HE2:Hid (Rd wr A' (u64s (L.map Sp.tag))∧L.length≤c'∧Below w.heap.size w wr):=⟨h2,h3,HB2.out.trans (hb.mono HB2.out.size)⟩
    clear hb h h2 h3 HO H0
    go_wp2_with fail
    go_ret
    exact ⟨A',c',rfl,HE2.out⟩
end Go.Proofs.YtgidfnhfgiehjaaGreatDoor
end

section
namespace Go.Proofs.YtgidfnhfgiehjaaGreatDoor
open Go.RowKit Go.PM
set_option maxRecDepth 100000
set_option maxHeartbeats 4000000
attribute [local go_sem ↓] Go.wp_at_zero Go.wp_at_succ
theorem specs17 (k:Nat) (w:World) (h1:1≤k) (h8:k≤8):Calls Tryz.prog 98 #[.int .i64 (k:Int)] w (SpEnd w k):=by
 obtain ⟨hG,hH⟩:=kget k h1 h8
 obtain ⟨N,hN⟩:∃ N,N=txt (kname k):=⟨_,rfl⟩
 have hG':getL zkind kindL (.int .i64 (k:Int))=.agg #[.string N,.int .i64 (kfrom k:Int),.func (.func (kfn k)) #[] #[]]:=by rw [hG,hN];rfl
 have HG:=Lib.hid hG'
 have HH:=Lib.hid hH
 have HW:=Lib.hid (wf_i64 (k:=(k:Int)) (by unfold InI64;omega))
 have HSP:Hid (∀ x:World,Calls Tryz.prog (kfn k) #[] x (SpEnd x k)):=fun x => specs_of x k h1 h8
 have hent:∀ x:World,(callFunc (kfn k) #[]).run Tryz.prog x=.ok (.enter (kfn k) #[]) x:=fun x => kfn_enter x k h1 h8
 generalize kfn k=fn at *
 generalize kfrom k=fr at *
 clear hG hH hG' hN h1 h8
 go_enter Tryz.func98,Tryz.ntmps98
 go_wp2_with (first |
  (go_at_call 79;refine (all17 _).mono ?_;rintro e w1 ⟨rfl,h1,b1⟩;have H1:=Lib.hid h1;have B1:=Lib.hid b1;clear h1 b1) |
  (at_lookup;refine wpList_look_ok_v _ rfl _ _ 146 rfl 3 145 key_int Tryz.underlying146 (zero_kind _) _ _ rfl H1.out (.int .i64 (k:Int)) (.int .i64 (k:Int)) rfl (Maps.keyOf_int_mk Tryz.underlying3 HW.out) HG.out HH.out ?_))
 refine (HSP.out _).mono ?_
 rintro e w2 ⟨bs,rfl,hbs,hrd,hb2⟩
 have hsz:=B1.out.size
 have HE:Hid (SpEnd w k (.returned (.slice (some ⟨bs,0,none⟩) (kspecs k).length (kspecs k).length)) w2):=⟨bs,rfl,by rw [World.size_alloc] at hbs;omega,hrd,bb (ba B1.out _) hb2⟩
 clear hrd hb2 H1 B1 HSP hent hsz
 generalize (kspecs k).length=n at *
 go_wp2_with fail
 go_ret
 exact HE.out
theorem zero_int (w:World):(zeroValue 3).run Tryz.prog w=.ok (.int .i64 0) w:=rfl
def typeL:List (Lit × Value):=[(.int .i64 0,.int .i64 0),(.int .i64 1,.int .i64 0),(.int .i64 2,.int .i64 0),(.int .i64 3,.int .i64 1),(.int .i64 4,.int .i64 1),(.int .i64 5,.int .i64 1)]
theorem tget:∀ u:Nat,u≤5→getL (.int .i64 0) typeL (.int .i64 (u:Int))=.int .i64 (if u≤2 then 0 else 1)∧hasL typeL (.int .i64 (u:Int))=true
 | 0,_ | 1,_ | 2,_ | 3,_ | 4,_ | 5,_ => ⟨rfl,rfl⟩
 | n+6,h => absurd h (by omega)
theorem type17 (u:Nat) (w:World) (hu:u≤5):Calls Tryz.prog 139 #[.int .i64 (u:Int)] w fun e w' => e=.returned (.int .i64 (if u≤2 then 0 else 1))∧Below w.heap.size w w':=by
 have hmm:=@run_makeMap Tryz.prog
 have H0:=Lib.hid (MapAt.made w Tryz.prog 3)
 have B0:=Lib.hid (ba (a:=w) b0 (.map #[] 0))
 obtain ⟨hG,hH⟩:=tget u hu
 have HG:=Lib.hid hG
 have HH:=Lib.hid hH
 have HW:=Lib.hid (wf_i64 (k:=(u:Int)) (by unfold InI64;omega))
 generalize (if u≤2 then (0:Int) else 1)=R at *
 clear hG hH
 go_enter Tryz.func139,Tryz.ntmps139
 go_wp2_with (first |
  (with_reducible show wpList _ _ _ (Oper.mk _ (Op.insert _ _ _ _) _ _ _ _ :: _) _ _;refine wpList_ins_v _ rfl _ _ _ 267 rfl 3 3 key_int Tryz.underlying267 _ _ rfl H0.out (by unfold maxLen;simp) (.int .i64 0) (.int .i64 0) (.int .i64 0) rfl rfl (Maps.keyOf_int_mk Tryz.underlying3 (by decide)) (isKey_int _ _) ?_;intro w1 h1 g1;have H1:=Lib.hid h1;have B1:=Lib.hid (bg B0.out g1 (Nat.le_refl _));clear h1 g1 H0 B0) |
  (with_reducible show wpList _ _ _ (Oper.mk _ (Op.insert _ _ _ _) _ _ _ _ :: _) _ _;refine wpList_ins_v _ rfl _ _ _ 267 rfl 3 3 key_int Tryz.underlying267 _ _ rfl H1.out (by unfold maxLen;simp) (.int .i64 1) (.int .i64 0) (.int .i64 1) rfl rfl (Maps.keyOf_int_mk Tryz.underlying3 (by decide)) (isKey_int _ _) ?_;intro w2 h2 g2;have H2:=Lib.hid h2;have B2:=Lib.hid (bg B1.out g2 (Nat.le_refl _));clear h2 g2 H1 B1) |
  (with_reducible show wpList _ _ _ (Oper.mk _ (Op.insert _ _ _ _) _ _ _ _ :: _) _ _;refine wpList_ins_v _ rfl _ _ _ 267 rfl 3 3 key_int Tryz.underlying267 _ _ rfl H2.out (by unfold maxLen;simp) (.int .i64 2) (.int .i64 0) (.int .i64 2) rfl rfl (Maps.keyOf_int_mk Tryz.underlying3 (by decide)) (isKey_int _ _) ?_;intro w3 h3 g3;have H3:=Lib.hid h3;have B3:=Lib.hid (bg B2.out g3 (Nat.le_refl _));clear h3 g3 H2 B2) |
  (with_reducible show wpList _ _ _ (Oper.mk _ (Op.insert _ _ _ _) _ _ _ _ :: _) _ _;refine wpList_ins_v _ rfl _ _ _ 267 rfl 3 3 key_int Tryz.underlying267 _ _ rfl H3.out (by unfold maxLen;simp) (.int .i64 3) (.int .i64 1) (.int .i64 3) rfl rfl (Maps.keyOf_int_mk Tryz.underlying3 (by decide)) (isKey_int _ _) ?_;intro w4 h4 g4;have H4:=Lib.hid h4;have B4:=Lib.hid (bg B3.out g4 (Nat.le_refl _));clear h4 g4 H3 B3) |
  (with_reducible show wpList _ _ _ (Oper.mk _ (Op.insert _ _ _ _) _ _ _ _ :: _) _ _;refine wpList_ins_v _ rfl _ _ _ 267 rfl 3 3 key_int Tryz.underlying267 _ _ rfl H4.out (by unfold maxLen;simp) (.int .i64 4) (.int .i64 1) (.int .i64 4) rfl rfl (Maps.keyOf_int_mk Tryz.underlying3 (by decide)) (isKey_int _ _) ?_;intro w5 h5 g5;have H5:=Lib.hid h5;have B5:=Lib.hid (bg B4.out g5 (Nat.le_refl _));clear h5 g5 H4 B4) |
  (with_reducible show wpList _ _ _ (Oper.mk _ (Op.insert _ _ _ _) _ _ _ _ :: _) _ _;refine wpList_ins_v _ rfl _ _ _ 267 rfl 3 3 key_int Tryz.underlying267 _ _ rfl H5.out (by unfold maxLen;simp) (.int .i64 5) (.int .i64 1) (.int .i64 5) rfl rfl (Maps.keyOf_int_mk Tryz.underlying3 (by decide)) (isKey_int _ _) ?_;intro w6 h6 g6;have H6:=Lib.hid h6;have B6:=Lib.hid (bg B5.out g6 (Nat.le_refl _));clear h6 g6 H5 B5) |
  (at_lookup;refine wpList_look_ok_v _ rfl _ _ 267 rfl 3 3 key_int Tryz.underlying267 (zero_int _) _ _ rfl H6.out (.int .i64 (u:Int)) (.int .i64 (u:Int)) rfl (Maps.keyOf_int_mk Tryz.underlying3 HW.out) HG.out HH.out ?_))
 go_ret
 exact ⟨rfl,B6.out⟩
end Go.Proofs.YtgidfnhfgiehjaaGreatDoor
end

section
namespace Go.Proofs.YtgidfnhfgiehjaaGreatDoor
open Go.RowKit Go.PM
set_option maxRecDepth 100000
set_option maxHeartbeats 4000000
attribute [local go_sem ↓] Go.wp_at_zero Go.wp_at_succ
def cellIx:Nat→Nat
 | 0 => 17
 | 1 => 11
 | 2 => 4
 | 3 => 14
 | 4 => 6
 | 5 => 8
 | 6 => 21
 | 7 => 12
 | 8 => 10
 | 9 => 5
 | 10 => 1
 | 11 => 13
 | 12 => 3
 | 13 => 2
 | 14 => 18
 | 15 => 20
 | 16 => 7
 | 17 => 19
 | 18 => 16
 | 19 => 9
 | 20 => 22
 | 21 => 15
 | _ => 0
def ptrT:Nat→TypeId
 | 0 => 159
 | 1 => 161
 | 2 => 162
 | 3 => 164
 | 4 => 166
 | _ => 167
def plc (b i:Nat):Value:=.iface (ptrT (nmUse i)) (.pointer (some ⟨b,cellIx i,none⟩))
def mvs (m:Mp) (dv tv rv:Value):Array Value:=#[.int .i64 m.kind,.int .u64 (m.id:Int),.int .u64 (m.min_:Int),.int .u64 (m.max_:Int),.int .u64 (m.chosen:Int),.int .u64 (m.flags:Int),.int .u64 (m.cost:Int),.int .u64 (m.prio:Int),.int .u64 (m.dead:Int),.int .u64 (m.retry:Int),.int .u64 (m.epoch:Int),.int .u64 (m.base:Int),.int .u64 (m.digest:Int),.int .u64 (m.lag:Int),.int .u64 (m.code:Int),.int .u64 (m.want:Int),.int .i64 m.rem,.bool m.al,.string (txt m.nm),.string (txt m.rg),.string (txt m.nt),dv,tv,rv]
def mvv (m:Mp) (dv tv:Value) (i:Nat):Value:=match m.val i with
 | .num n => .int .u64 (n:Int)
 | .flag b => .bool b
 | .sgn z => .int .i64 z
 | .word s => .string (txt s)
 | .of _ => dv
 | .rows _ => tv
theorem mvs_at (m:Mp) (dv tv rv:Value):∀ i,i < 22→(mvs m dv tv rv)[cellIx i]? = some (mvv m dv tv i):=by
 refine cases22 ?_ ?_ ?_ ?_ ?_ ?_ ?_ ?_ ?_ ?_ ?_ ?_ ?_ ?_ ?_ ?_ ?_ ?_ ?_ ?_ ?_ ?_ <;> rfl
theorem number1 (b:Nat) (w:World):Calls Tryz.prog 103 #[.pointer (some ⟨b,0,none⟩),.string (txt (nmAt 1))] w fun e w' => e=.returned (.pointer (some ⟨b,cellIx 1,none⟩))∧Below w.heap.size w w':=by
 have hs:(txt (nmAt 1)).toList=[98,97,115,101]:=by rw [ByteArray.toList_eq];rfl
 go_enter Tryz.func103,Tryz.ntmps103
 go_wp2_with fail
 go_ret
 exact ⟨rfl,b0⟩
theorem number2 (b:Nat) (w:World):Calls Tryz.prog 103 #[.pointer (some ⟨b,0,none⟩),.string (txt (nmAt 2))] w fun e w' => e=.returned (.pointer (some ⟨b,cellIx 2,none⟩))∧Below w.heap.size w w':=by
 have hs:(txt (nmAt 2)).toList=[99,104,111,115,101,110]:=by rw [ByteArray.toList_eq];rfl
 go_enter Tryz.func103,Tryz.ntmps103
 go_wp2_with fail
 go_ret
 exact ⟨rfl,b0⟩
theorem number3 (b:Nat) (w:World):Calls Tryz.prog 103 #[.pointer (some ⟨b,0,none⟩),.string (txt (nmAt 3))] w fun e w' => e=.returned (.pointer (some ⟨b,cellIx 3,none⟩))∧Below w.heap.size w w':=by
 have hs:(txt (nmAt 3)).toList=[99,111,100,101]:=by rw [ByteArray.toList_eq];rfl
 go_enter Tryz.func103,Tryz.ntmps103
 go_wp2_with fail
 go_ret
 exact ⟨rfl,b0⟩
theorem number4 (b:Nat) (w:World):Calls Tryz.prog 103 #[.pointer (some ⟨b,0,none⟩),.string (txt (nmAt 4))] w fun e w' => e=.returned (.pointer (some ⟨b,cellIx 4,none⟩))∧Below w.heap.size w w':=by
 have hs:(txt (nmAt 4)).toList=[99,111,115,116]:=by rw [ByteArray.toList_eq];rfl
 go_enter Tryz.func103,Tryz.ntmps103
 go_wp2_with fail
 go_ret
 exact ⟨rfl,b0⟩
theorem number5 (b:Nat) (w:World):Calls Tryz.prog 103 #[.pointer (some ⟨b,0,none⟩),.string (txt (nmAt 5))] w fun e w' => e=.returned (.pointer (some ⟨b,cellIx 5,none⟩))∧Below w.heap.size w w':=by
 have hs:(txt (nmAt 5)).toList=[100,101,97,100,108,105,110,101]:=by rw [ByteArray.toList_eq];rfl
 go_enter Tryz.func103,Tryz.ntmps103
 go_wp2_with fail
 go_ret
 exact ⟨rfl,b0⟩
theorem number7 (b:Nat) (w:World):Calls Tryz.prog 103 #[.pointer (some ⟨b,0,none⟩),.string (txt (nmAt 7))] w fun e w' => e=.returned (.pointer (some ⟨b,cellIx 7,none⟩))∧Below w.heap.size w w':=by
 have hs:(txt (nmAt 7)).toList=[100,105,103,101,115,116]:=by rw [ByteArray.toList_eq];rfl
 go_enter Tryz.func103,Tryz.ntmps103
 go_wp2_with fail
 go_ret
 exact ⟨rfl,b0⟩
theorem number8 (b:Nat) (w:World):Calls Tryz.prog 103 #[.pointer (some ⟨b,0,none⟩),.string (txt (nmAt 8))] w fun e w' => e=.returned (.pointer (some ⟨b,cellIx 8,none⟩))∧Below w.heap.size w w':=by
 have hs:(txt (nmAt 8)).toList=[101,112,111,99,104]:=by rw [ByteArray.toList_eq];rfl
 go_enter Tryz.func103,Tryz.ntmps103
 go_wp2_with fail
 go_ret
 exact ⟨rfl,b0⟩
theorem number9 (b:Nat) (w:World):Calls Tryz.prog 103 #[.pointer (some ⟨b,0,none⟩),.string (txt (nmAt 9))] w fun e w' => e=.returned (.pointer (some ⟨b,cellIx 9,none⟩))∧Below w.heap.size w w':=by
 have hs:(txt (nmAt 9)).toList=[102,108,97,103,115]:=by rw [ByteArray.toList_eq];rfl
 go_enter Tryz.func103,Tryz.ntmps103
 go_wp2_with fail
 go_ret
 exact ⟨rfl,b0⟩
theorem number10 (b:Nat) (w:World):Calls Tryz.prog 103 #[.pointer (some ⟨b,0,none⟩),.string (txt (nmAt 10))] w fun e w' => e=.returned (.pointer (some ⟨b,cellIx 10,none⟩))∧Below w.heap.size w w':=by
 have hs:(txt (nmAt 10)).toList=[105,100]:=by rw [ByteArray.toList_eq];rfl
 go_enter Tryz.func103,Tryz.ntmps103
 go_wp2_with fail
 go_ret
 exact ⟨rfl,b0⟩
theorem number11 (b:Nat) (w:World):Calls Tryz.prog 103 #[.pointer (some ⟨b,0,none⟩),.string (txt (nmAt 11))] w fun e w' => e=.returned (.pointer (some ⟨b,cellIx 11,none⟩))∧Below w.heap.size w w':=by
 have hs:(txt (nmAt 11)).toList=[108,97,103]:=by rw [ByteArray.toList_eq];rfl
 go_enter Tryz.func103,Tryz.ntmps103
 go_wp2_with fail
 go_ret
 exact ⟨rfl,b0⟩
theorem number12 (b:Nat) (w:World):Calls Tryz.prog 103 #[.pointer (some ⟨b,0,none⟩),.string (txt (nmAt 12))] w fun e w' => e=.returned (.pointer (some ⟨b,cellIx 12,none⟩))∧Below w.heap.size w w':=by
 have hs:(txt (nmAt 12)).toList=[109,97,120]:=by rw [ByteArray.toList_eq];rfl
 go_enter Tryz.func103,Tryz.ntmps103
 go_wp2_with fail
 go_ret
 exact ⟨rfl,b0⟩
theorem number13 (b:Nat) (w:World):Calls Tryz.prog 103 #[.pointer (some ⟨b,0,none⟩),.string (txt (nmAt 13))] w fun e w' => e=.returned (.pointer (some ⟨b,cellIx 13,none⟩))∧Below w.heap.size w w':=by
 have hs:(txt (nmAt 13)).toList=[109,105,110]:=by rw [ByteArray.toList_eq];rfl
 go_enter Tryz.func103,Tryz.ntmps103
 go_wp2_with fail
 go_ret
 exact ⟨rfl,b0⟩
theorem number16 (b:Nat) (w:World):Calls Tryz.prog 103 #[.pointer (some ⟨b,0,none⟩),.string (txt (nmAt 16))] w fun e w' => e=.returned (.pointer (some ⟨b,cellIx 16,none⟩))∧Below w.heap.size w w':=by
 have hs:(txt (nmAt 16)).toList=[112,114,105,111,114,105,116,121]:=by rw [ByteArray.toList_eq];rfl
 go_enter Tryz.func103,Tryz.ntmps103
 go_wp2_with fail
 go_ret
 exact ⟨rfl,b0⟩
theorem number19 (b:Nat) (w:World):Calls Tryz.prog 103 #[.pointer (some ⟨b,0,none⟩),.string (txt (nmAt 19))] w fun e w' => e=.returned (.pointer (some ⟨b,cellIx 19,none⟩))∧Below w.heap.size w w':=by
 have hs:(txt (nmAt 19)).toList=[114,101,116,114,121]:=by rw [ByteArray.toList_eq];rfl
 go_enter Tryz.func103,Tryz.ntmps103
 go_wp2_with fail
 go_ret
 exact ⟨rfl,b0⟩
theorem number21 (b:Nat) (w:World):Calls Tryz.prog 103 #[.pointer (some ⟨b,0,none⟩),.string (txt (nmAt 21))] w fun e w' => e=.returned (.pointer (some ⟨b,cellIx 21,none⟩))∧Below w.heap.size w w':=by
 have hs:(txt (nmAt 21)).toList=[119,97,110,116]:=by rw [ByteArray.toList_eq];rfl
 go_enter Tryz.func103,Tryz.ntmps103
 go_wp2_with fail
 go_ret
 exact ⟨rfl,b0⟩
theorem place0 (b:Nat) (w:World):Calls Tryz.prog 59 #[.pointer (some ⟨b,0,none⟩),.string (txt (nmAt 0))] w fun e w' => e=.returned (plc b 0)∧Below w.heap.size w w':=by
 have hs:(txt (nmAt 0)).toList=[97,108,108,111,119,101,100]:=by rw [ByteArray.toList_eq];rfl
 go_enter Tryz.func59,Tryz.ntmps59
 go_wp2_with fail
 go_ret
 exact ⟨rfl,b0⟩
theorem place1 (b:Nat) (w:World):Calls Tryz.prog 59 #[.pointer (some ⟨b,0,none⟩),.string (txt (nmAt 1))] w fun e w' => e=.returned (plc b 1)∧Below w.heap.size w w':=by
 have HC:=Lib.hid (number1 b w)
 have hs:(txt (nmAt 1)).toList=[98,97,115,101]:=by rw [ByteArray.toList_eq];rfl
 go_enter Tryz.func59,Tryz.ntmps59
 go_wp2_with fail
 refine HC.out.mono ?_
 rintro e w1 ⟨rfl,hb1⟩
 have HB:=Lib.hid hb1
 clear hb1
 go_wp2_with fail
 go_ret
 exact ⟨rfl,HB.out⟩
theorem place2 (b:Nat) (w:World):Calls Tryz.prog 59 #[.pointer (some ⟨b,0,none⟩),.string (txt (nmAt 2))] w fun e w' => e=.returned (plc b 2)∧Below w.heap.size w w':=by
 have HC:=Lib.hid (number2 b w)
 have hs:(txt (nmAt 2)).toList=[99,104,111,115,101,110]:=by rw [ByteArray.toList_eq];rfl
 go_enter Tryz.func59,Tryz.ntmps59
 go_wp2_with fail
 refine HC.out.mono ?_
 rintro e w1 ⟨rfl,hb1⟩
 have HB:=Lib.hid hb1
 clear hb1
 go_wp2_with fail
 go_ret
 exact ⟨rfl,HB.out⟩
theorem place3 (b:Nat) (w:World):Calls Tryz.prog 59 #[.pointer (some ⟨b,0,none⟩),.string (txt (nmAt 3))] w fun e w' => e=.returned (plc b 3)∧Below w.heap.size w w':=by
 have HC:=Lib.hid (number3 b w)
 have hs:(txt (nmAt 3)).toList=[99,111,100,101]:=by rw [ByteArray.toList_eq];rfl
 go_enter Tryz.func59,Tryz.ntmps59
 go_wp2_with fail
 refine HC.out.mono ?_
 rintro e w1 ⟨rfl,hb1⟩
 have HB:=Lib.hid hb1
 clear hb1
 go_wp2_with fail
 go_ret
 exact ⟨rfl,HB.out⟩
theorem place4 (b:Nat) (w:World):Calls Tryz.prog 59 #[.pointer (some ⟨b,0,none⟩),.string (txt (nmAt 4))] w fun e w' => e=.returned (plc b 4)∧Below w.heap.size w w':=by
 have HC:=Lib.hid (number4 b w)
 have hs:(txt (nmAt 4)).toList=[99,111,115,116]:=by rw [ByteArray.toList_eq];rfl
 go_enter Tryz.func59,Tryz.ntmps59
 go_wp2_with fail
 refine HC.out.mono ?_
 rintro e w1 ⟨rfl,hb1⟩
 have HB:=Lib.hid hb1
 clear hb1
 go_wp2_with fail
 go_ret
 exact ⟨rfl,HB.out⟩
theorem place5 (b:Nat) (w:World):Calls Tryz.prog 59 #[.pointer (some ⟨b,0,none⟩),.string (txt (nmAt 5))] w fun e w' => e=.returned (plc b 5)∧Below w.heap.size w w':=by
 have HC:=Lib.hid (number5 b w)
 have hs:(txt (nmAt 5)).toList=[100,101,97,100,108,105,110,101]:=by rw [ByteArray.toList_eq];rfl
 go_enter Tryz.func59,Tryz.ntmps59
 go_wp2_with fail
 refine HC.out.mono ?_
 rintro e w1 ⟨rfl,hb1⟩
 have HB:=Lib.hid hb1
 clear hb1
 go_wp2_with fail
 go_ret
 exact ⟨rfl,HB.out⟩
theorem place6 (b:Nat) (w:World):Calls Tryz.prog 59 #[.pointer (some ⟨b,0,none⟩),.string (txt (nmAt 6))] w fun e w' => e=.returned (plc b 6)∧Below w.heap.size w w':=by
 have hs:(txt (nmAt 6)).toList=[100,101,115,99,114]:=by rw [ByteArray.toList_eq];rfl
 go_enter Tryz.func59,Tryz.ntmps59
 go_wp2_with fail
 go_ret
 exact ⟨rfl,b0⟩
theorem place7 (b:Nat) (w:World):Calls Tryz.prog 59 #[.pointer (some ⟨b,0,none⟩),.string (txt (nmAt 7))] w fun e w' => e=.returned (plc b 7)∧Below w.heap.size w w':=by
 have HC:=Lib.hid (number7 b w)
 have hs:(txt (nmAt 7)).toList=[100,105,103,101,115,116]:=by rw [ByteArray.toList_eq];rfl
 go_enter Tryz.func59,Tryz.ntmps59
 go_wp2_with fail
 refine HC.out.mono ?_
 rintro e w1 ⟨rfl,hb1⟩
 have HB:=Lib.hid hb1
 clear hb1
 go_wp2_with fail
 go_ret
 exact ⟨rfl,HB.out⟩
theorem place8 (b:Nat) (w:World):Calls Tryz.prog 59 #[.pointer (some ⟨b,0,none⟩),.string (txt (nmAt 8))] w fun e w' => e=.returned (plc b 8)∧Below w.heap.size w w':=by
 have HC:=Lib.hid (number8 b w)
 have hs:(txt (nmAt 8)).toList=[101,112,111,99,104]:=by rw [ByteArray.toList_eq];rfl
 go_enter Tryz.func59,Tryz.ntmps59
 go_wp2_with fail
 refine HC.out.mono ?_
 rintro e w1 ⟨rfl,hb1⟩
 have HB:=Lib.hid hb1
 clear hb1
 go_wp2_with fail
 go_ret
 exact ⟨rfl,HB.out⟩
theorem place9 (b:Nat) (w:World):Calls Tryz.prog 59 #[.pointer (some ⟨b,0,none⟩),.string (txt (nmAt 9))] w fun e w' => e=.returned (plc b 9)∧Below w.heap.size w w':=by
 have HC:=Lib.hid (number9 b w)
 have hs:(txt (nmAt 9)).toList=[102,108,97,103,115]:=by rw [ByteArray.toList_eq];rfl
 go_enter Tryz.func59,Tryz.ntmps59
 go_wp2_with fail
 refine HC.out.mono ?_
 rintro e w1 ⟨rfl,hb1⟩
 have HB:=Lib.hid hb1
 clear hb1
 go_wp2_with fail
 go_ret
 exact ⟨rfl,HB.out⟩
theorem place10 (b:Nat) (w:World):Calls Tryz.prog 59 #[.pointer (some ⟨b,0,none⟩),.string (txt (nmAt 10))] w fun e w' => e=.returned (plc b 10)∧Below w.heap.size w w':=by
 have HC:=Lib.hid (number10 b w)
 have hs:(txt (nmAt 10)).toList=[105,100]:=by rw [ByteArray.toList_eq];rfl
 go_enter Tryz.func59,Tryz.ntmps59
 go_wp2_with fail
 refine HC.out.mono ?_
 rintro e w1 ⟨rfl,hb1⟩
 have HB:=Lib.hid hb1
 clear hb1
 go_wp2_with fail
 go_ret
 exact ⟨rfl,HB.out⟩
theorem place11 (b:Nat) (w:World):Calls Tryz.prog 59 #[.pointer (some ⟨b,0,none⟩),.string (txt (nmAt 11))] w fun e w' => e=.returned (plc b 11)∧Below w.heap.size w w':=by
 have HC:=Lib.hid (number11 b w)
 have hs:(txt (nmAt 11)).toList=[108,97,103]:=by rw [ByteArray.toList_eq];rfl
 go_enter Tryz.func59,Tryz.ntmps59
 go_wp2_with fail
 refine HC.out.mono ?_
 rintro e w1 ⟨rfl,hb1⟩
 have HB:=Lib.hid hb1
 clear hb1
 go_wp2_with fail
 go_ret
 exact ⟨rfl,HB.out⟩
theorem place12 (b:Nat) (w:World):Calls Tryz.prog 59 #[.pointer (some ⟨b,0,none⟩),.string (txt (nmAt 12))] w fun e w' => e=.returned (plc b 12)∧Below w.heap.size w w':=by
 have HC:=Lib.hid (number12 b w)
 have hs:(txt (nmAt 12)).toList=[109,97,120]:=by rw [ByteArray.toList_eq];rfl
 go_enter Tryz.func59,Tryz.ntmps59
 go_wp2_with fail
 refine HC.out.mono ?_
 rintro e w1 ⟨rfl,hb1⟩
 have HB:=Lib.hid hb1
 clear hb1
 go_wp2_with fail
 go_ret
 exact ⟨rfl,HB.out⟩
theorem place13 (b:Nat) (w:World):Calls Tryz.prog 59 #[.pointer (some ⟨b,0,none⟩),.string (txt (nmAt 13))] w fun e w' => e=.returned (plc b 13)∧Below w.heap.size w w':=by
 have HC:=Lib.hid (number13 b w)
 have hs:(txt (nmAt 13)).toList=[109,105,110]:=by rw [ByteArray.toList_eq];rfl
 go_enter Tryz.func59,Tryz.ntmps59
 go_wp2_with fail
 refine HC.out.mono ?_
 rintro e w1 ⟨rfl,hb1⟩
 have HB:=Lib.hid hb1
 clear hb1
 go_wp2_with fail
 go_ret
 exact ⟨rfl,HB.out⟩
theorem place14 (b:Nat) (w:World):Calls Tryz.prog 59 #[.pointer (some ⟨b,0,none⟩),.string (txt (nmAt 14))] w fun e w' => e=.returned (plc b 14)∧Below w.heap.size w w':=by
 have hs:(txt (nmAt 14)).toList=[110,97,109,101]:=by rw [ByteArray.toList_eq];rfl
 go_enter Tryz.func59,Tryz.ntmps59
 go_wp2_with fail
 go_ret
 exact ⟨rfl,b0⟩
theorem place15 (b:Nat) (w:World):Calls Tryz.prog 59 #[.pointer (some ⟨b,0,none⟩),.string (txt (nmAt 15))] w fun e w' => e=.returned (plc b 15)∧Below w.heap.size w w':=by
 have hs:(txt (nmAt 15)).toList=[110,111,116,101]:=by rw [ByteArray.toList_eq];rfl
 go_enter Tryz.func59,Tryz.ntmps59
 go_wp2_with fail
 go_ret
 exact ⟨rfl,b0⟩
theorem place16 (b:Nat) (w:World):Calls Tryz.prog 59 #[.pointer (some ⟨b,0,none⟩),.string (txt (nmAt 16))] w fun e w' => e=.returned (plc b 16)∧Below w.heap.size w w':=by
 have HC:=Lib.hid (number16 b w)
 have hs:(txt (nmAt 16)).toList=[112,114,105,111,114,105,116,121]:=by rw [ByteArray.toList_eq];rfl
 go_enter Tryz.func59,Tryz.ntmps59
 go_wp2_with fail
 refine HC.out.mono ?_
 rintro e w1 ⟨rfl,hb1⟩
 have HB:=Lib.hid hb1
 clear hb1
 go_wp2_with fail
 go_ret
 exact ⟨rfl,HB.out⟩
theorem place17 (b:Nat) (w:World):Calls Tryz.prog 59 #[.pointer (some ⟨b,0,none⟩),.string (txt (nmAt 17))] w fun e w' => e=.returned (plc b 17)∧Below w.heap.size w w':=by
 have hs:(txt (nmAt 17)).toList=[114,101,103,105,111,110]:=by rw [ByteArray.toList_eq];rfl
 go_enter Tryz.func59,Tryz.ntmps59
 go_wp2_with fail
 go_ret
 exact ⟨rfl,b0⟩
theorem place18 (b:Nat) (w:World):Calls Tryz.prog 59 #[.pointer (some ⟨b,0,none⟩),.string (txt (nmAt 18))] w fun e w' => e=.returned (plc b 18)∧Below w.heap.size w w':=by
 have hs:(txt (nmAt 18)).toList=[114,101,109,97,105,110,105,110,103]:=by rw [ByteArray.toList_eq];rfl
 go_enter Tryz.func59,Tryz.ntmps59
 go_wp2_with fail
 go_ret
 exact ⟨rfl,b0⟩
theorem place19 (b:Nat) (w:World):Calls Tryz.prog 59 #[.pointer (some ⟨b,0,none⟩),.string (txt (nmAt 19))] w fun e w' => e=.returned (plc b 19)∧Below w.heap.size w w':=by
 have HC:=Lib.hid (number19 b w)
 have hs:(txt (nmAt 19)).toList=[114,101,116,114,121]:=by rw [ByteArray.toList_eq];rfl
 go_enter Tryz.func59,Tryz.ntmps59
 go_wp2_with fail
 refine HC.out.mono ?_
 rintro e w1 ⟨rfl,hb1⟩
 have HB:=Lib.hid hb1
 clear hb1
 go_wp2_with fail
 go_ret
 exact ⟨rfl,HB.out⟩
theorem place20 (b:Nat) (w:World):Calls Tryz.prog 59 #[.pointer (some ⟨b,0,none⟩),.string (txt (nmAt 20))] w fun e w' => e=.returned (plc b 20)∧Below w.heap.size w w':=by
 have hs:(txt (nmAt 20)).toList=[116,97,98,108,101]:=by rw [ByteArray.toList_eq];rfl
 go_enter Tryz.func59,Tryz.ntmps59
 go_wp2_with fail
 go_ret
 exact ⟨rfl,b0⟩
theorem place21 (b:Nat) (w:World):Calls Tryz.prog 59 #[.pointer (some ⟨b,0,none⟩),.string (txt (nmAt 21))] w fun e w' => e=.returned (plc b 21)∧Below w.heap.size w w':=by
 have HC:=Lib.hid (number21 b w)
 have hs:(txt (nmAt 21)).toList=[119,97,110,116]:=by rw [ByteArray.toList_eq];rfl
 go_enter Tryz.func59,Tryz.ntmps59
 go_wp2_with fail
 refine HC.out.mono ?_
 rintro e w1 ⟨rfl,hb1⟩
 have HB:=Lib.hid hb1
 clear hb1
 go_wp2_with fail
 go_ret
 exact ⟨rfl,HB.out⟩
theorem place_any (b:Nat) (w:World):∀ i,i < 22→Calls Tryz.prog 59 #[.pointer (some ⟨b,0,none⟩),.string (txt (nmAt i))] w fun e w' => e=.returned (plc b i)∧Below w.heap.size w w' :=
 cases22 (place0 b w) (place1 b w) (place2 b w) (place3 b w) (place4 b w) (place5 b w) (place6 b w) (place7 b w) (place8 b w) (place9 b w) (place10 b w) (place11 b w) (place12 b w) (place13 b w) (place14 b w) (place15 b w) (place16 b w) (place17 b w) (place18 b w) (place19 b w) (place20 b w) (place21 b w)
end Go.Proofs.YtgidfnhfgiehjaaGreatDoor
end

section
namespace Go.PM
section
variable {X:Type} (key:X→Nat)
def kins (x:X):List X→List X
 | [] => [x]
 | y :: r => if key y < key x then y :: kins x r else x :: y :: r
def kfold:List X→List X→List X
 | acc,[] => acc
 | acc,x :: r => kfold (kins key x acc) r
def ksort (l:List X):List X:=kfold key [] l
theorem kins_perm (x:X):∀ l:List X,(kins key x l).Perm (x :: l)
 | [] => List.Perm.refl _
 | y :: r => by
   rw [kins]
   split
   · exact ((kins_perm x r).cons y).trans (List.Perm.swap x y r)
   · exact List.Perm.refl _
theorem kfold_perm:∀ (l acc:List X),(kfold key acc l).Perm (acc++l)
 | [],acc => by rw [kfold,List.append_nil]
 | x :: r,acc => by
   rw [kfold]
   refine (kfold_perm r _).trans (((kins_perm key x acc).append_right r).trans ?_)
   exact List.perm_middle.symm
theorem ksort_perm (l:List X):(ksort key l).Perm l:=kfold_perm key l []
theorem kins_le (x:X):∀ l:List X,l.Pairwise (fun a b => key a≤key b)→(kins key x l).Pairwise (fun a b => key a≤key b)
 | [],_ => by simp [kins]
 | y :: r,h => by
   rw [List.pairwise_cons] at h
   rw [kins]
   split
   · rename_i hlt
     rw [List.pairwise_cons]
     refine ⟨fun b hb => ?_,kins_le x r h.2⟩
     rcases List.mem_cons.1 ((kins_perm key x r).mem_iff.1 hb) with rfl | hb
     · omega
     · exact h.1 b hb
   · rename_i hlt
     rw [List.pairwise_cons]
     refine ⟨fun b hb => ?_,by rw [List.pairwise_cons];exact h⟩
     rcases List.mem_cons.1 hb with rfl | hb
     · omega
     · have:=h.1 b hb;omega
theorem kfold_le:∀ (l acc:List X),acc.Pairwise (fun a b => key a≤key b)→(kfold key acc l).Pairwise (fun a b => key a≤key b)
 | [],_,h => h
 | x :: r,acc,h => by rw [kfold];exact kfold_le r _ (kins_le key x acc h)
theorem ksort_le (l:List X):(ksort key l).Pairwise (fun a b => key a≤key b):=kfold_le key l [] List.Pairwise.nil
theorem krise_one:∀ l l':List X,l.Perm l'→l.Pairwise (fun a b => key a < key b)→l'.Pairwise (fun a b => key a < key b)→l=l'
 | [],l',hp,_,_ => (List.nil_perm.1 hp).symm
 | x :: r,[],hp,_,_ => absurd (List.perm_nil.1 hp) (by simp)
 | x :: r,y :: s,hp,h,h' => by
   rw [List.pairwise_cons] at h h'
   have hx:x ∈ y :: s:=hp.mem_iff.1 (by simp)
   have hy:y ∈ x :: r:=hp.mem_iff.2 (by simp)
   have e:x=y:=by
    rcases List.mem_cons.1 hx with e | hx
    · exact e
    rcases List.mem_cons.1 hy with e | hy
    · exact e.symm
    have h1:=h'.1 x hx
    have h2:=h.1 y hy
    omega
   subst e
   rw [krise_one r s (List.Perm.cons_inv hp) h.2 h'.2]
theorem krise_of {l:List X} (h:l.Pairwise (fun a b => key a≤key b)) (hn:(l.map key).Nodup):l.Pairwise (fun a b => key a < key b):=by
 rw [List.Nodup,List.pairwise_map] at hn
 exact (h.and hn).imp fun ⟨h1,h2⟩ => by omega
theorem krise_nodup {l:List X} (h:l.Pairwise (fun a b => key a < key b)):(l.map key).Nodup:=by
 rw [List.Nodup,List.pairwise_map]
 exact h.imp fun h => by omega
theorem ksort_of {l l':List X} (hp:l.Perm l') (hs:l'.Pairwise (fun a b => key a≤key b)) (hn:(l.map key).Nodup):l'=ksort key l :=
 krise_one key l' _ (hp.symm.trans (ksort_perm key l).symm) (krise_of key hs ((hp.map key).nodup hn)) (krise_of key (ksort_le key l) (((ksort_perm key l).symm.map key).nodup hn))
theorem krise_next:∀ {l:List X},l.Pairwise (fun a b => key a≤key b)→(∀ i (h:i+1 < l.length),key l[i]≠key l[i+1])→l.Pairwise (fun a b => key a < key b)
 | [],_,_ => List.Pairwise.nil
 | [x],_,_ => by simp
 | x :: y :: r,h,hn => by
   have ih:=krise_next (l:=y :: r) (List.pairwise_cons.1 h).2 fun i hi => hn (i+1) (by simp at hi ⊢;omega)
   have h0:key x≠key y:=hn 0 (by simp)
   have h1:=(List.pairwise_cons.1 h).1
   rw [List.pairwise_cons]
   refine ⟨fun b hb => ?_,ih⟩
   have hxy:=h1 y (by simp)
   rcases List.mem_cons.1 hb with rfl | hb
   · omega
   · have:=(List.pairwise_cons.1 ih).1 b hb;omega
theorem ktwice {l l':List X} (hp:l.Perm l') {i:Nat} (h:i+1 < l'.length) (he:key l'[i]=key l'[i+1]):¬ (l.map key).Nodup:=fun hn => by
 have hn':(l'.map key).Nodup:=(hp.map key).nodup hn
 rw [List.Nodup,List.pairwise_iff_getElem] at hn'
 exact hn' i (i+1) (by simp;omega) (by simp;omega) (by omega) (by simpa using he)
end
structure Fl where
 tag:Nat
 ty:Int
 num:Nat
 text:ByteArray
 inner:Fs
def Fs.toL:Fs→List Fl
 | .nil => []
 | .cons t y n s i r => ⟨t,y,n,s,i⟩ :: r.toL
def ofL:List Fl→Fs
 | [] => .nil
 | x :: r => .cons x.tag x.ty x.num x.text x.inner (ofL r)
theorem ofL_toL:∀ f:Fs,ofL f.toL=f
 | .nil => rfl
 | .cons t y n s i r => by rw [Fs.toL,ofL,ofL_toL r]
theorem toL_ofL:∀ l:List Fl,(ofL l).toL=l
 | [] => rfl
 | x :: r => by rw [ofL,Fs.toL,toL_ofL r]
theorem toL_len:∀ f:Fs,f.toL.length=f.len
 | .nil => rfl
 | .cons t y n s i r => by rw [Fs.toL,List.length_cons,toL_len r,Fs.len]
theorem ofL_len (l:List Fl):(ofL l).len=l.length:=by rw [← toL_len,toL_ofL]
theorem toL_app:∀ f g:Fs,(f.app g).toL=f.toL++g.toL
 | .nil,g => rfl
 | .cons t y n s i r,g => by rw [Fs.app,Fs.toL,toL_app r g,Fs.toL,List.cons_append]
theorem ofL_app (l m:List Fl):ofL (l++m)=(ofL l).app (ofL m):=by
 rw [← ofL_toL ((ofL l).app (ofL m)),toL_app,toL_ofL,toL_ofL]
theorem ofL_count:∀ l:List Fl,(ofL l).count=(l.map fun x => 1+x.inner.count).sum
 | [] => rfl
 | x :: r => by rw [ofL,Fs.count,ofL_count r,List.map_cons,List.sum_cons]
theorem ofL_count_perm {l m:List Fl} (h:l.Perm m):(ofL l).count=(ofL m).count:=by
 rw [ofL_count,ofL_count]
 exact (h.map _).sum_nat
theorem ofL_all {P:Nat→Int→Nat→ByteArray→Prop}:∀ l:List Fl,(ofL l).All P↔∀ x ∈ l,P x.tag x.ty x.num x.text∧x.inner.All P
 | [] => by simp [ofL,Fs.All]
 | x :: r => by
   rw [ofL,Fs.All,ofL_all r]
   simp [and_assoc]
theorem ofL_all_perm {P:Nat→Int→Nat→ByteArray→Prop} {l m:List Fl} (h:l.Perm m):(ofL l).All P↔(ofL m).All P:=by
 rw [ofL_all,ofL_all]
 exact ⟨fun k x hx => k x (h.mem_iff.2 hx),fun k x hx => k x (h.mem_iff.1 hx)⟩
def fmrg (f:Fs):Fs × Nat:=if (f.toL.map Fl.tag).Nodup then (ofL (ksort Fl.tag f.toL),0) else (.nil,14)
def fcat:List Fs→Fs
 | [] => .nil
 | f :: r => f.app (fcat r)
theorem fmrg_yes {l l':List Fl} (hp:l.Perm l') (hs:l'.Pairwise (fun a b => a.tag≤b.tag)) (hn:∀ i (h:i+1 < l'.length),l'[i].tag≠l'[i+1].tag):fmrg (ofL l)=(ofL l',0):=by
 have h1:=krise_next Fl.tag hs hn
 have h2:(l.map Fl.tag).Nodup:=(hp.symm.map _).nodup (krise_nodup Fl.tag h1)
 unfold fmrg
 rw [toL_ofL,if_pos h2,← ksort_of Fl.tag hp hs h2]
theorem fmrg_no {l l':List Fl} (hp:l.Perm l') {i:Nat} (h:i+1 < l'.length) (he:l'[i].tag=l'[i+1].tag):fmrg (ofL l)=(.nil,14):=by
 unfold fmrg
 rw [toL_ofL,if_neg (ktwice Fl.tag hp h he)]
end Go.PM
namespace Go.Proofs.YtgidfnhfgiehjaaGreatDoor
open Go.PM
def fbad:List Fs→Nat
 | [] => 0
 | f :: r => if fcheck f 0 0≠0 then fcheck f 0 0 else fbad r
def fmerge (l:List Fs):Fs × Nat:=if fbad l≠0 then (.nil,fbad l) else fmrg (fcat l)
end Go.Proofs.YtgidfnhfgiehjaaGreatDoor
end

section
namespace Go.PM
open Go.RowKit Go.Sort Go.Proofs
theorem flat_length {α:Type} {enc:α→List Value} {k:Nat} (hk:∀ x,(enc x).length=k):∀ l:List α,(l.flatMap enc).length=l.length * k
 | [] => by simp
 | a :: r => by rw [List.flatMap_cons,List.length_append,hk,flat_length hk r,List.length_cons,Nat.add_mul,Nat.one_mul,Nat.add_comm]
section
variable {α:Type} [Inhabited α] {enc:α→List Value} {k:Nat}
theorem flat_at (hk:∀ x,(enc x).length=k) (k0:0 < k):∀ (l:List α) (t:Nat),t < l.length * k→(l.flatMap enc)[t]? = some ((enc l[t / k]!)[t % k]!)
 | [],t,h => by simp at h
 | a :: r,t,h => by
   rw [List.flatMap_cons]
   by_cases ht:t < k
   · rw [List.getElem?_append_left (by rw [hk];exact ht),Nat.div_eq_of_lt ht,Nat.mod_eq_of_lt ht]
     have:t < (enc a).length:=by rw [hk];exact ht
     simp [this]
   · obtain ⟨u,rfl⟩:∃ u,t=u+k:=⟨t - k,by omega⟩
     rw [List.getElem?_append_right (by rw [hk];omega),hk,Nat.add_sub_cancel,flat_at hk k0 r u (by simp only [List.length_cons,Nat.add_mul,Nat.one_mul] at h;omega),Nat.add_div_right _ k0,Nat.add_mod_right]
     simp
theorem flatK_list (hk:∀ x,(enc x).length=k) (k0:0 < k) (d:Array α):(flatK enc k d).toList=d.toList.flatMap enc:=by
 apply List.ext_getElem?
 intro t
 by_cases h:t < d.size * k
 · rw [flat_at hk k0 d.toList t (by simpa using h)]
   have h1:=get_flatK enc k d t h
   rw [Array.getElem?_toList,Array.getElem?_eq_getElem (by rw [size_flatK];exact h)]
   rw [getElem!_pos _ _ (by rw [size_flatK];exact h)] at h1
   have hq:t / k < d.size:=(Nat.div_lt_iff_lt_mul k0).2 h
   rw [h1,getElem!_pos d.toList (t / k) (by simpa using hq),getElem!_pos d (t / k) hq,Array.getElem_toList]
 · rw [List.getElem?_eq_none (by rw [Array.length_toList,size_flatK];omega),List.getElem?_eq_none (by rw [flat_length hk,Array.length_toList];omega)]
theorem holdsK_own {w:World} {base n g cap:Nat} {e:TypeId} {xs:List Value} (hk:∀ x,(enc x).length=k) (k0:0 < k) (d:Array α) (hd:d.size=n) (h:w.ownsRow base e k (.slice (some ⟨g,0,none⟩) n cap) n xs) (hx:xs=d.toList.flatMap enc) :
 HoldsK enc k w g 0 d∧g < w.heap.size∧base≤g:=by
 rcases h.2 with ⟨h0,_⟩ | ⟨g',cap',cur,hv,hg,hb,hn,hm,hs,ht⟩
 · cases h0
 injection hv with h1 h2 h3
 injection h1 with h1
 injection h1 with h1
 subst h1 h3
 refine ⟨fun j hj => ?_,(Array.getElem?_eq_some_iff.1 hb).1,hg⟩
 rw [size_flatK] at hj
 refine ⟨?_,by simp [World.frozen?,hb]⟩
 have h5:(cur.toList.take (n * k))[j]? = (flatK enc k d).toList[j]?:=by rw [ht,hx,flatK_list hk k0]
 rw [List.getElem?_take_of_lt (by rw [← hd];exact hj),Array.getElem?_toList,Array.getElem?_toList,Array.getElem?_eq_getElem (xs:=flatK enc k d) (by rw [size_flatK];exact hj)] at h5
 simp only [World.cell?,hb,Nat.zero_add]
 simp only [Option.isSome_none,Bool.false_eq_true,if_false]
 rw [h5,getElem!_pos _ _ (by rw [size_flatK];exact hj)]
 rfl
theorem heap_sortedK {w:World} {g m:Nat} {os:Array Obj} {cur:Array Value} {e:TypeId} {fr:Nat × Nat} (d:Array α) (hb:w.heap[g]? = some (.cells cur e fr)) :
 (sortWorldK enc k w g 0 m d os).heap[g]? = some (.cells (putCells id 0 (flatK enc k d) cur) e fr):=by
 have hg:g < w.heap.size:=(Array.getElem?_eq_some_iff.1 hb).1
 unfold sortWorldK putRowK
 rw [heap_grow_old _ _ (by simpa [putRow,mapBlock,Sort.ahead] using hg)]
 simp [putRow,mapBlock,Sort.ahead,Array.getElem?_modify,hb,onCells]
theorem grownBy_sortedK {w:World} {g m:Nat} {os:Array Obj} (d:Array α):w.grownBy (sortWorldK enc k w g 0 m d os) (some g):=by
 unfold sortWorldK putRowK
 refine ⟨rfl,rfl,rfl,by simp [grow,putRow,mapBlock,Sort.ahead],fun j hj hne => ?_⟩
 rw [heap_grow_old _ _ (by simpa [putRow,mapBlock,Sort.ahead] using hj)]
 have:g≠j:=fun e => hne (by rw [e])
 simp [putRow,mapBlock,Sort.ahead,Array.getElem?_modify,this]
theorem take_putCellsK (cur:Array Value) (F:Array Value) (h:F.size≤cur.size):(putCells id 0 F cur).toList.take F.size=F.toList:=by
 apply List.ext_getElem?
 intro j
 by_cases hj:j < F.size
 · rw [List.getElem?_take_of_lt hj,Array.getElem?_toList,Array.getElem?_toList]
   simp [putCells,hj,show j < cur.size by omega]
 · rw [List.getElem?_take_eq_none (by omega),List.getElem?_eq_none (by simp;omega)]
theorem own_sortedK {w:World} {base n g cap m:Nat} {e:TypeId} {xs:List Value} {os:Array Obj} (hk:∀ x,(enc x).length=k) (k0:0 < k) (d:Array α) (hd:d.size=n) (h:w.ownsRow base e k (.slice (some ⟨g,0,none⟩) n cap) n xs) :
 (sortWorldK enc k w g 0 m d os).ownsRow base e k (.slice (some ⟨g,0,none⟩) n cap) n (d.toList.flatMap enc):=by
 rcases h.2 with ⟨h0,_⟩ | ⟨g',cap',cur,hv,hg,hb,hn,hm,hs,ht⟩
 · cases h0
 injection hv with h1 h2 h3
 injection h1 with h1
 injection h1 with h1
 subst h1 h3
 refine ⟨by rw [flat_length hk,Array.length_toList,hd],.inr ⟨g,cap,_,rfl,hg,heap_sortedK d hb,hn,hm,by simp [putCells,hs],?_⟩⟩
 have h6:=take_putCellsK cur (flatK enc k d) (by rw [size_flatK,hs,hd];exact Nat.mul_le_mul_right k hn)
 rw [size_flatK,hd,flatK_list hk k0] at h6
 exact h6
theorem permIn_all {d d':Array α} (h:PermIn 0 d.size d d'):d.toList.Perm d'.toList:=by
 obtain ⟨h1,_,h3⟩:=h
 have e:d'.extract 0 d.size=d':=by rw [← h1];simp
 rw [e] at h3
 simpa using h3.symm
theorem sortedIn_all {lt:α→α→Bool} {d:Array α} {n:Nat} (h:SortedIn lt 0 n d) (hn:d.size=n):d.toList.Pairwise (fun a b => lt b a=false):=by
 rw [List.pairwise_iff_getElem]
 intro i j hi hj hij
 have:=h i j (Nat.zero_le _) hij (by rw [← hn];simpa using hj)
 rw [getElem!_pos d i (by simpa using hi),getElem!_pos d j (by simpa using hj)] at this
 simpa using this
end
end Go.PM
end
