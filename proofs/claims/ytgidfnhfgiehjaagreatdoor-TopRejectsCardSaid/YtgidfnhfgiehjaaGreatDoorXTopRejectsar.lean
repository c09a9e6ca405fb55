/-
  Texts of the proof, joined: Msg4 PlainMsg3. Conditions: as each names.
-/
import Derived.Test.YtgidfnhfgiehjaaGreatDoorXTopRejectsaq
import Derived.Test.YtgidfnhfgiehjaaGreatDoorXTopRejectsad
import Derived.Test.YtgidfnhfgiehjaaGreatDoorXTopRejectsak
import Derived.StringKeys
import Derived.Test.YtgidfnhfgiehjaaGreatDoorXTopRejectsao

section
namespace Go.Proofs.YtgidfnhfgiehjaaGreatDoor
open Go.RowKit Go.PM
set_option maxRecDepth 100000
set_option maxHeartbeats 4000000
attribute [local go_sem ↓] Go.wp_at_zero Go.wp_at_succ
theorem key_str:Maps.Keyed Tryz.prog 9:=Maps.string_keyed Tryz.underlying9
theorem zero_bool18 (w:World):(zeroValue 4).run Tryz.prog w=.ok (.bool false) w:=rfl
def knE (L:List Sp):List (Lit × Value):=L.map fun s => (.string s.nm,.bool true)
theorem knE_get (n:List UInt8):∀ (L:List Sp) (z:Value),getL z (knE L) (.string n)=if (L.any fun s => decide (s.nm=n))=true then .bool true else z
 | [],z => rfl
 | s :: L,z => by
   show getL (bif (Lit.string s.nm).sameKey (.string n) then .bool true else z) (knE L) (.string n)=_
   rw [knE_get n L]
   by_cases h:s.nm=n
   · rw [h,WideAt.sameKey_self (isKey_str n)]
     simp [h]
   · rw [Maps.sameKey_ne (fun e => h (by injection e))]
     simp [h]
theorem map_below {w w':World} {P:Program} {k:TypeId} {b:Nat} {l:List (Lit × Value)} (h:MapAt w P k b l) (hb:Below w.heap.size w w'):MapAt w' P k b l:=h.kept (grown_of_below hb none) (by simp)
theorem nmAt_len:∀ i,i < 22→(nmAt i).length≤9:=by
 refine cases22 ?_ ?_ ?_ ?_ ?_ ?_ ?_ ?_ ?_ ?_ ?_ ?_ ?_ ?_ ?_ ?_ ?_ ?_ ?_ ?_ ?_ ?_ <;> decide
theorem key_of (n:List UInt8) (h:n.length≤100):keyOf Tryz.prog 9 (.string (txt n))=some (.string n):=WideMaps.keyOf_string_mk Tryz.underlying9 (by unfold maxLen;simp [txt,ByteArray.size];omega)
theorem nmv_at (j:Nat) (h2:j < (nmv mnames).length):(nmv mnames)[j]=.string (txt (nmAt j)):=by
 simp [nmv,mnames]
theorem mcheck_bad (v:Nat) (h1:1≤v) (h3:v≤3) {I:Nat→Prop} {m:Mp} {dv tv rv:Value} (w:World) (hv:MgV w I m dv tv rv) (hz:Msz m) (hb:kfrom (knat m.kind)=0∨v < kfrom (knat m.kind)) :
 Calls Tryz.prog 43 #[.agg (mvs m dv tv rv),.int .i64 (v:Int)] w fun e w' => e=.returned (.int .i64 15)∧Below w.heap.size w w':=by
 have HFR:Hid (∀ x,Calls Tryz.prog 37 #[.int .i64 m.kind] x fun e w' => e=.returned (.int .i64 (kfrom (knat m.kind):Int))∧Below x.heap.size x w'):=fun x => from17 m.kind x hz.kind
 have hlo:¬ (v:Int) < 1:=by omega
 have hhi:¬ (3:Int) < (v:Int):=by omega
 generalize kfrom (knat m.kind)=K at *
 clear hz
 obtain ⟨dA,dc,tA,tc,rA,rc,rfl,rfl,rfl⟩:=hv.slices
 have HM:Hid (BlkAt (w.alloc (.cells (mvs m (.slice dA m.d.length dc) (.slice tA m.t.length tc) (.slice rA m.rest.len rc)) 35)) w.heap.size 35 (mvs m (.slice dA m.d.length dc) (.slice tA m.t.length tc) (.slice rA m.rest.len rc))):=BlkAt.made w 35 (mvs m (.slice dA m.d.length dc) (.slice tA m.t.length tc) (.slice rA m.rest.len rc))
 have HBM:=Lib.hid (ba (a:=w) b0 (.cells (mvs m (.slice dA m.d.length dc) (.slice tA m.t.length tc) (.slice rA m.rest.len rc)) 35))
 have HV:=Lib.hid (hv.below HBM.out)
 obtain ⟨wz,hwz⟩:∃ wz,wz=w.alloc (.cells (mvs m (.slice dA m.d.length dc) (.slice tA m.t.length tc) (.slice rA m.rest.len rc)) 35):=⟨_,rfl⟩
 have hsz:wz.heap.size=w.heap.size+1:=by rw [hwz];simp
 rw [← hwz] at HM HBM HV
 clear hv
 simp only [mvs] at hwz
 show Calls _ _ #[.agg #[.int .i64 m.kind,.int .u64 (m.id:Int),.int .u64 (m.min_:Int),.int .u64 (m.max_:Int),.int .u64 (m.chosen:Int),.int .u64 (m.flags:Int),.int .u64 (m.cost:Int),.int .u64 (m.prio:Int),.int .u64 (m.dead:Int),.int .u64 (m.retry:Int),.int .u64 (m.epoch:Int),.int .u64 (m.base:Int),.int .u64 (m.digest:Int),.int .u64 (m.lag:Int),.int .u64 (m.code:Int),.int .u64 (m.want:Int),.int .i64 m.rem,.bool m.al,.string (txt m.nm),.string (txt m.rg),.string (txt m.nt),.slice dA m.d.length dc,.slice tA m.t.length tc,.slice rA m.rest.len rc],.int .i64 (v:Int)] _ _
 go_enter Tryz.func43,Tryz.ntmps43
 go_wp2_with fail
 rw [← hwz]
 refine (HFR.out _).mono ?_
 rintro e w1 ⟨rfl,hb1⟩
 have HB1:=Lib.hid (bb HBM.out hb1)
 clear hb1 HFR hwz HM HV
 rcases hb with hb | hb
 · subst hb
   go_wp2_with fail
   go_ret
   exact ⟨rfl,HB1.out⟩
 · have hb2:(v:Int) < (K:Int):=by omega
   have hb3:((K:Int) == 0)=false:=by rw [beq_eq_false_iff_ne];omega
   go_wp2_with fail
   go_ret
   exact ⟨rfl,HB1.out⟩
theorem run_makeMap_hint18 (w:World) (k:IntKind) (n:Int):(Instr.makeMap 156 (some (.int k n))).run Tryz.prog w=.ok (.map (some w.heap.size)) (w.alloc (.map #[] 0)):=by
 simp [Instr.makeMap,run_underlying Tryz.underlying156,asInt,asIntOf,Result.andThen]
theorem stray_yes {m:Mp} {L:List Sp} {j:Nat} (hj:j < 22) (hk:(L.any fun s => decide (s.nm=nmAt j))=false) (hn:(m.val j).nothing=false):mstray m L=true:=by
 unfold mstray
 rw [List.any_eq_true]
 exact ⟨j,List.mem_range.2 hj,by rw [hk,hn];rfl⟩
theorem stray_no {m:Mp} {L:List Sp} (h:∀ i,i < 22→(L.any fun s => decide (s.nm=nmAt i))=true∨(m.val i).nothing=true):mstray m L=false:=by
 unfold mstray
 rw [List.any_eq_false]
 intro i hi
 rcases h i (List.mem_range.1 hi) with h | h <;> simp [h]
theorem mmay_step (m:Mp) {L:List Sp} {j:Nat} (h:j < L.length):mmay m (L.drop j)=if (m.val (six L[j])).may≠0 then (m.val (six L[j])).may else mmay m (L.drop (j+1)):=by
 rw [List.drop_eq_getElem_cons h,mmay]
theorem info_msg (m:Mp) (dv tv rv:Value):(Tryz.prog.info? 35).map (·.size)=some (mvs m dv tv rv).size:=by kernel_rfl
theorem slv_fl {w:World} {I:Nat→Prop} {A:Option Addr} {c:Nat} {f:Fs} (h:SlV w I (.slice A f.len c) f) (k:Nat) (hk:k < f.len) :
 ∃ b o Ai ci,A=some ⟨b,o,none⟩∧b < w.heap.size∧w.cell? ⟨b,o+k * 5,none⟩=some (.int .u64 ((f.toL[k]'(by rw [toL_len];exact hk)).tag:Int))∧w.cell? ⟨b,o+k * 5+1,none⟩=some (.int .i64 (f.toL[k]'(by rw [toL_len];exact hk)).ty) ∧
  w.cell? ⟨b,o+k * 5+2,none⟩=some (.int .u64 ((f.toL[k]'(by rw [toL_len];exact hk)).num:Int))∧w.cell? ⟨b,o+k * 5+3,none⟩=some (.string (f.toL[k]'(by rw [toL_len];exact hk)).text) ∧
  w.cell? ⟨b,o+k * 5+4,none⟩=some (.slice Ai (f.toL[k]'(by rw [toL_len];exact hk)).inner.len ci):=by
 obtain ⟨A',c',hv,hc,hor⟩:=h
 injection hv with e1 e2 e3
 subst e1 e3
 rcases hor with h0 | ⟨b,o,rfl,hI,hb,hat⟩
 · omega
 · obtain ⟨t,y,n,s,i,hd,_⟩:=f.drop_cons k hk
   have h1:=hat.drop k
   rw [hd] at h1
   have h2:=toL_drop hd
   rw [List.getElem?_eq_getElem (by rw [toL_len];exact hk)] at h2
   injection h2 with h2
   rw [h2]
   obtain ⟨g0,g1,g2,g3,⟨Ai,ci,g4,_,_⟩,_⟩:=h1
   exact ⟨b,o,Ai,ci,rfl,hb,g0,g1,g2,g3,g4⟩
def CkMap (w2:World) (mb:Nat) (l:List Sp) (wr:World):Prop:=MapAt wr Tryz.prog 9 mb (knE l)∧Below w2.heap.size w2 wr
def CkNone (L:List Sp) (m:Mp) (j:Nat):Prop:=∀ i,i < j→(L.any fun s => decide (s.nm=nmAt i))=true∨(m.val i).nothing=true
def CkEnd (w:World) (m:Mp) (v:Nat) (e:Ending) (w':World):Prop:=e=.returned (.int .i64 (mcheck m v))∧Below w.heap.size w w'
theorem mcheck_good (k v:Nat) (h1:1≤v) (h3:v≤3) {I:Nat→Prop} {m:Mp} {dv tv rv:Value} (w:World) (hv:MgV w I m dv tv rv) (hz:Msz m) (hT:Tabs w) (hk:m.kind=(k:Int)) (hk1:1≤k) (hk8:k≤8) (hkv:kfrom k≤v) (hk0:kfrom k≠0) :
 Calls Tryz.prog 43 #[.agg (mvs m dv tv rv),.int .i64 (v:Int)] w (CkEnd w m v):=by
 have hkn:knat m.kind=k:=by rw [hk,knat_of hk1 hk8]
 have HFR:Hid (∀ x,Calls Tryz.prog 37 #[.int .i64 m.kind] x fun e w' => e=.returned (.int .i64 (kfrom k:Int))∧Below x.heap.size x w'):=fun x => by
  have:=from17 m.kind x hz.kind
  rw [hkn] at this
  exact this
 have HKN:Hid (∀ x,Calls Tryz.prog 39 #[.int .i64 m.kind,.int .i64 (v:Int)] x (KnEnd x (kknown k v))):=fun x => by
  rw [hk]
  exact known17 k v x hk1 hk8 hkv h3
 have hok:=known_ok k v
 have hll:(kknown k v).length≤5:=Nat.le_trans (List.length_filter_le _ _) (kspecs_len k)
 have HPO:Hid (∀ e w',e=.returned (.int .i64 (if mstray m (kknown k v) then 26
  else if mmay m (kknown k v)≠0 then mmay m (kknown k v)
  else if m.bounds≠0 then m.bounds
  else if fcheck m.rest 0 0≠0 then (fcheck m.rest 0 0:Int)
  else if m.rest.toL.any (fun f => decide (f.tag ∈ (kknown k v).map Sp.tag)) then 14 else 0))→Below w.heap.size w w'→CkEnd w m v e w'):=fun e w' he hb => by
  have e:mcheck m v=if mstray m (kknown k v) then 26
   else if mmay m (kknown k v)≠0 then mmay m (kknown k v)
   else if m.bounds≠0 then m.bounds
   else if fcheck m.rest 0 0≠0 then (fcheck m.rest 0 0:Int)
   else if m.rest.toL.any (fun f => decide (f.tag ∈ (kknown k v).map Sp.tag)) then 14 else 0:=by
   unfold mcheck
   rw [hkn,if_neg (by omega)]
   rfl
  exact ⟨by rw [he,e],hb⟩
 have hlo:¬ (v:Int) < 1:=by omega
 have hhi:¬ (3:Int) < (v:Int):=by omega
 have hkb:((kfrom k:Int) == 0)=false:=by rw [beq_eq_false_iff_ne];omega
 have hkb2:¬ (v:Int) < (kfrom k:Int):=by omega
 generalize kknown k v=L at *
 generalize kfrom k=K at *
 generalize CkEnd w m v=Q at *
 have HZ:=Lib.hid hz
 have HT:=Lib.hid hT
 have HOK:=Lib.hid hok
 clear hz hT hk hkn hk1 hk8 hok hkv hk0
 obtain ⟨dA,dc,tA,tc,rA,rc,rfl,rfl,rfl⟩:=hv.slices
 have HM:Hid (BlkAt (w.alloc (.cells (mvs m (.slice dA m.d.length dc) (.slice tA m.t.length tc) (.slice rA m.rest.len rc)) 35)) w.heap.size 35 (mvs m (.slice dA m.d.length dc) (.slice tA m.t.length tc) (.slice rA m.rest.len rc))):=BlkAt.made w 35 (mvs m (.slice dA m.d.length dc) (.slice tA m.t.length tc) (.slice rA m.rest.len rc))
 have HBM:=Lib.hid (ba (a:=w) b0 (.cells (mvs m (.slice dA m.d.length dc) (.slice tA m.t.length tc) (.slice rA m.rest.len rc)) 35))
 have HV:=Lib.hid (hv.below HBM.out)
 obtain ⟨wz,hwz⟩:∃ wz,wz=w.alloc (.cells (mvs m (.slice dA m.d.length dc) (.slice tA m.t.length tc) (.slice rA m.rest.len rc)) 35):=⟨_,rfl⟩
 have hsz:wz.heap.size=w.heap.size+1:=by rw [hwz];simp
 rw [← hwz] at HM HBM HV
 clear hv
 simp only [mvs] at hwz
 show Calls _ _ #[.agg #[.int .i64 m.kind,.int .u64 (m.id:Int),.int .u64 (m.min_:Int),.int .u64 (m.max_:Int),.int .u64 (m.chosen:Int),.int .u64 (m.flags:Int),.int .u64 (m.cost:Int),.int .u64 (m.prio:Int),.int .u64 (m.dead:Int),.int .u64 (m.retry:Int),.int .u64 (m.epoch:Int),.int .u64 (m.base:Int),.int .u64 (m.digest:Int),.int .u64 (m.lag:Int),.int .u64 (m.code:Int),.int .u64 (m.want:Int),.int .i64 m.rem,.bool m.al,.string (txt m.nm),.string (txt m.rg),.string (txt m.nt),.slice dA m.d.length dc,.slice tA m.t.length tc,.slice rA m.rest.len rc],.int .i64 (v:Int)] _ _
 go_enter Tryz.func43,Tryz.ntmps43
 go_wp2_with fail
 rw [← hwz]
 refine (HFR.out _).mono ?_
 rintro e w1 ⟨rfl,hb1⟩
 have HM1:=Lib.hid (HM.out.below hb1 HM.out.lt)
 have HB1:=Lib.hid hb1
 have hc0:w1.cell? ⟨w.heap.size,0,none⟩=some (.int .i64 m.kind):=HM1.out.cell 0
 have hl1:=HM1.out.lt
 clear hb1 HFR hwz
 go_wp2_with fail
 refine (HKN.out _).mono ?_
 rintro e w2 ⟨A,c,rfl,hrd,hlc,hb2⟩
 have HRD:=Lib.hid hrd
 have HB2:=Lib.hid (bb HB1.out hb2)
 have HBZ2:Hid (Below wz.heap.size wz w2):=HB2.out
 have hmm:=run_makeMap_hint18
 have H0:Hid (CkMap w2 w2.heap.size (L.take 0) (w2.alloc (.map #[] 0))):=⟨MapAt.made w2 Tryz.prog 9,ba b0 _⟩
 clear hrd hb2 HKN hc0 HM1 HB1 hkb hkb2 hlo hhi
 go_wp2_with fail
 go_loopg [46] L.length (fun gk ki wr => ∃ j:Nat,j≤L.length∧L.length - j≤gk∧ki=.int .i64 (j:Int)∧Hid (CkMap w2 w2.heap.size (L.take j) wr))
 case atStart => exact ⟨0,Nat.zero_le _,by omega,rfl,H0⟩
 case round =>
  obtain ⟨j,hj,hgj,rfl,HS⟩:=hrel
  obtain ⟨hmap,hbel⟩:=HS.out
  by_cases hlt:j < L.length
  · obtain ⟨b,off,rfl,hbl,c0,c1,c2,c3⟩:=rd_spec (HRD.out.below hbel) hlt
    have hst:L.take (j+1)=L.take j++[L[j]]:=(List.take_append_getElem hlt).symm
    have hnl:L[j].nm.length≤9:=by
     obtain ⟨h1,_,_,_,_,h2,_⟩:=HOK.out.2 L[j] (List.getElem_mem hlt)
     rw [h2]
     exact nmAt_len _ h1
    generalize L[j]=s at *
    have hbs:=ba (a:=wr) b0 (.cells #[.int .u64 (s.tag:Int),.int .i64 (s.use:Int),.int .i64 (s.from_:Int),.string (txt s.nm)] 94)
    have HMP:=Lib.hid (map_below hmap hbs)
    have HBS:=Lib.hid (hbel.trans (hbs.mono hbel.size))
    have HST:=Lib.hid hst
    have hjl:(knE (L.take j)).length≤5:=by rw [knE,List.length_map,List.length_take];omega
    clear hmap hbel hst HS H0 hbs
    go_wp2_with (with_reducible show wpList _ _ _ (Oper.mk _ (Op.mapUpdate _ _ _ _) _ _ _ _ :: _) _ _;refine wpList_put_v _ rfl _ _ _ 156 rfl 9 4 key_str Tryz.underlying156 _ _ rfl HMP.out (by unfold maxLen;omega) (.string (txt s.nm)) (.bool true) (.string s.nm) rfl rfl (key_of _ (by omega)) (isKey_str _) ?_;intro w3 hm3 hg3)
    go_roundg (L.length - (j+1))
    case measure => omega
    case rel =>
     refine ⟨j+1,by omega,Nat.le_refl _,by go_num,?_,HBS.out.grown hg3 HBS.out.size fun q hq => by injection hq with hq;omega⟩
     rw [HST.out,knE,List.map_append]
     exact hm3
  · obtain rfl:j=L.length:=by omega
    rw [List.take_of_length_le (Nat.le_refl _)] at hmap
    have HMP:=Lib.hid hmap
    have HBL:=Lib.hid hbel
    have HNM:=Lib.hid (names18 wr)
    clear hmap hbel HS H0
    go_wp2_with fail
    refine HNM.out.mono ?_
    rintro e w4 ⟨g,cg,rfl,hg,hnm,hb4⟩
    have HMP4:=Lib.hid (map_below HMP.out hb4)
    have HBL4:=Lib.hid (bb HBL.out hb4)
    have HBZ4:Hid (Below wz.heap.size wz w4):=bb HBZ2.out HBL4.out
    have HNR:=Lib.hid hnm
    have HN0:Hid (CkNone L m 0):=fun i hi => absurd hi (by omega)
    clear hnm hb4 HNM HMP HBL hg
    go_wp2_with fail
    go_loopg [56] 22 (fun gk ki wr => ∃ j:Nat,j≤22∧22 - j≤gk∧ki=.int .i64 (j:Int)∧Hid (CkNone L m j)∧Hid (Below w4.heap.size w4 wr))
    case atStart => exact ⟨0,by omega,by omega,rfl,HN0,b0⟩
    case round =>
     obtain ⟨j,hj,hgj,rfl,HN,HB⟩:=hrel
     by_cases hltj:j < 22
     · obtain ⟨b,off,hAe,hbl,hcn⟩:=(HNR.out.below HB.out).at_ (k:=j) (by simpa [nmv,mnames] using hltj)
       injection hAe with hAe
       injection hAe with e1 e2
       subst e1 e2
       rw [nmv_at,Nat.zero_add] at hcn
       have hnl:=nmAt_len j hltj
       have HMP:=Lib.hid (map_below HMP4.out HB.out)
       have hget:=knE_get (nmAt j) L (.bool false)
       have HNN:Hid ((L.any fun s => decide (s.nm=nmAt j))=true∨(m.val j).nothing=true→CkNone L m (j+1)):=fun h i hi => by
        rcases Nat.lt_or_ge i j with h2 | h2
        · exact HN.out i h2
        · obtain rfl:i=j:=by omega
          exact h
       have HPL:=Lib.hid (place_any w.heap.size wr j hltj)
       have HBW:=Lib.hid (bb HBZ4.out HB.out)
       have HNO:Hid (∀ x,Below wr.heap.size wr x→Calls Tryz.prog 84 #[plc w.heap.size j] x fun e w' => e=.returned (.bool (m.val j).nothing)∧Below x.heap.size x w'):=fun x hx =>
        nothing_any x (HM.out.below (bb HBW.out hx) HM.out.lt) (HV.out.below (bb HBW.out hx)) j hltj
       have HSY:Hid ((L.any fun s => decide (s.nm=nmAt j))=false→(m.val j).nothing=false→mstray m L=true):=fun h2 h3 => stray_yes hltj h2 h3
       generalize nmAt j=N at *
       generalize plc w.heap.size j=P at *
       clear HN HN0
       cases hk:(L.any fun s => decide (s.nm=N)) with
       | true =>
         rw [hk,if_pos rfl] at hget
         have HG:=Lib.hid hget
         have HN2:=Lib.hid (HNN.out (.inl hk))
         clear hget hk HNN HSY
         go_wp2_with (at_lookup;refine wpList_look_v _ rfl _ _ 156 rfl 9 4 key_str Tryz.underlying156 (zero_bool18 _) _ _ rfl HMP.out (.string (txt N)) (.string N) rfl (key_of _ (by omega)) HG.out ?_)
         go_roundg (22 - (j+1))
         case measure => omega
         case rel => exact ⟨j+1,by omega,Nat.le_refl _,by go_num,HN2,HB⟩
       | false =>
         rw [hk,if_neg (by simp)] at hget
         have HG:=Lib.hid hget
         have HNN2:Hid ((m.val j).nothing=true→CkNone L m (j+1)):=fun h => HNN.out (.inr h)
         have HSY2:Hid ((m.val j).nothing=false→mstray m L=true):=HSY.out hk
         clear hget hk HNN HSY
         generalize (m.val j).nothing=D at *
         go_wp2_with (at_lookup;refine wpList_look_v _ rfl _ _ 156 rfl 9 4 key_str Tryz.underlying156 (zero_bool18 _) _ _ rfl HMP.out (.string (txt N)) (.string N) rfl (key_of _ (by omega)) HG.out ?_)
         refine HPL.out.mono ?_
         rintro e w5 ⟨rfl,hb5⟩
         have HB5:=Lib.hid hb5
         clear hb5
         go_wp2_with fail
         refine (HNO.out _ HB5.out).mono ?_
         rintro e w6 ⟨rfl,hb6⟩
         have HB6:=Lib.hid (bb (bb HB.out HB5.out) hb6)
         clear hb6
         cases D with
         | true =>
           have HN2:=Lib.hid (HNN2.out rfl)
           clear HNN2 HSY2
           go_wp2_with fail
           go_roundg (22 - (j+1))
           case measure => omega
           case rel => exact ⟨j+1,by omega,Nat.le_refl _,by go_num,HN2,HB6⟩
         | false =>
           have hs:=HSY2.out rfl
           rw [hs] at HPO
           clear HNN2 HSY2 hs
           go_wp2_with fail
           exact HPO.out _ _ rfl (bb HBM.out (bb HBZ4.out HB6.out))
     · obtain rfl:j=22:=by omega
       obtain ⟨wo,rfl⟩:∃ wo,wo=wr:=⟨_,rfl⟩
       have hsn:mstray m L=false:=stray_no HN.out
       rw [hsn] at HPO
       have HPO2:Hid (∀ e w',e=.returned (.int .i64 (if mmay m L≠0 then mmay m L
        else if m.bounds≠0 then m.bounds
        else if fcheck m.rest 0 0≠0 then (fcheck m.rest 0 0:Int)
        else if m.rest.toL.any (fun f => decide (f.tag ∈ L.map Sp.tag)) then 14 else 0))→Below w.heap.size w w'→Q e w'):=fun e w' he hb => HPO.out e w' (by rw [he];rfl) hb
       have HBW:=Lib.hid (bb HBZ4.out HB.out)
       have HRW:Hid (Rd wo A (sps L)):=(HRD.out.below HBL4.out).below HB.out
       have HI:Hid (mmay m (L.drop 0)=mmay m L):=rfl
       clear HN hsn HPO HMP4 HNR HB HN0 HRD HBL4
       go_wp2_with fail
       go_loopg [73] L.length (fun gk ki wx => ∃ j:Nat,j≤L.length∧L.length - j≤gk∧ki=.int .i64 (j:Int)∧Hid (mmay m (L.drop j)=mmay m L)∧Hid (Below wo.heap.size wo wx))
       case atStart => exact ⟨0,by omega,by omega,rfl,HI,b0⟩
       case round =>
        obtain ⟨j,hj,hgj,rfl,HMM,HB⟩:=hrel
        obtain ⟨wx,rfl⟩:∃ wx,wx=wr:=⟨_,rfl⟩
        have HBX:=Lib.hid (bb HBW.out HB.out)
        by_cases hltj:j < L.length
        · obtain ⟨b,off,hAe,hbl,c0,c1,c2,c3⟩:=rd_spec (HRW.out.below HB.out) hltj
          have HAE:=Lib.hid hAe
          subst hAe
          have s1:=(HOK.out.2 L[j] (List.getElem_mem hltj)).1
          have s6:=(HOK.out.2 L[j] (List.getElem_mem hltj)).2.2.2.2.2.1
          have HST:=Lib.hid (mmay_step m hltj)
          generalize L[j]=s at *
          rw [s6] at c3
          have HPL:Hid (∀ x,Calls Tryz.prog 59 #[.pointer (some ⟨w.heap.size,0,none⟩),.string (txt (nmAt (six s)))] x fun e w' => e=.returned (plc w.heap.size (six s))∧Below x.heap.size x w'):=fun x => place_any w.heap.size x (six s) s1
          have HMY:Hid (∀ x,Below wx.heap.size wx x→Calls Tryz.prog 85 #[plc w.heap.size (six s)] x fun e w' => e=.returned (.int .i64 (m.val (six s)).may)∧Below x.heap.size x w'):=fun x hx =>
           may_any x (HM.out.below (bb HBX.out hx) HM.out.lt) (HV.out.below (bb HBX.out hx)) HZ.out (HT.out.below (bb HBM.out (bb HBX.out hx))) (six s) s1
          have hbs:=ba (a:=wx) b0 (.cells #[.int .u64 (s.tag:Int),.int .i64 (s.use:Int),.int .i64 (s.from_:Int),.string (txt (nmAt (six s)))] 94)
          have HBS:=Lib.hid hbs
          generalize nmAt (six s)=N at *
          generalize plc w.heap.size (six s)=P at *
          generalize (m.val (six s)).may=E at *
          clear hbs s6 HI
          go_wp2_with fail
          refine (HPL.out _).mono ?_
          rintro e w5 ⟨rfl,hb5⟩
          have HB5:=Lib.hid (bb HBS.out hb5)
          clear hb5 HPL HBS
          go_wp2_with fail
          refine (HMY.out _ HB5.out).mono ?_
          rintro e w6 ⟨rfl,hb6⟩
          have HB6:=Lib.hid (bb HB5.out hb6)
          clear hb6 HMY HB5
          by_cases hE:E=0
          · subst hE
            have HN2:Hid (mmay m (L.drop (j+1))=mmay m L):=by
             have h1:=HST.out
             rw [if_neg (by simp)] at h1
             exact h1.symm.trans HMM.out
            have HB7:=Lib.hid (bb HB.out HB6.out)
            clear HST HMM HAE
            go_wp2_with fail
            go_roundg (L.length - (j+1))
            case measure => omega
            case rel => exact ⟨j+1,by omega,Nat.le_refl _,by go_num,HN2,HB7⟩
          · have hL:mmay m L=E:=by
             have h1:=HST.out
             rw [if_pos hE] at h1
             exact HMM.out.symm.trans h1
            rw [hL,if_pos hE] at HPO2
            have hEb:(E == 0)=false:=by rw [beq_eq_false_iff_ne];exact hE
            clear hL HST HMM HAE
            go_wp2_with fail
            exact HPO2.out _ _ rfl (bb HBM.out (bb HBX.out HB6.out))
        · obtain rfl:j=L.length:=by omega
          have hm0:mmay m L=0:=by rw [← HMM.out,List.drop_length];rfl
          rw [hm0] at HPO2
          have HPO3:Hid (∀ e w',e=.returned (.int .i64 (if m.bounds≠0 then m.bounds else if fcheck m.rest 0 0≠0 then (fcheck m.rest 0 0:Int) else if m.rest.toL.any (fun f => decide (f.tag ∈ L.map Sp.tag)) then 14 else 0))→Below w.heap.size w w'→Q e w'):=fun e w' he hb => HPO2.out e w' (by rw [he];rfl) hb
          have hmx:=HM.out.below HBX.out HM.out.lt
          have HMX:=Lib.hid hmx
          have HBD:=Lib.hid (bounds18 wx (HV.out.below HBX.out))
          have HFC:Hid (∀ x,Below wx.heap.size wx x→Calls Tryz.prog 46 #[.slice rA m.rest.len rc] x fun e w' => e=.returned (.int .i64 (fcheck m.rest 0 0:Int))∧Below x.heap.size x w'):=fun x hx =>
           check_of (.slice rA m.rest.len rc) m.rest I x (HV.out.below (bb HBX.out hx)).2.2 HZ.out.good.2 (Nat.le_trans HZ.out.rest (by decide))
          have hc23:wx.cell? ⟨w.heap.size,23,none⟩=some (.slice rA m.rest.len rc):=hmx.cell 23
          have hlx:=hmx.lt
          have hrl:m.rest.len≤1000000:=Nat.le_trans m.rest.len_count (Nat.le_trans HZ.out.rest (by decide))
          have HRX:Hid (Rd wx A (sps L)):=HRW.out.below HB.out
          clear hm0 HPO2 hmx HMM HI HRW
          generalize m.bounds=BD at *
          go_wp2_with
           (with_reducible show wpList _ _ _ (Oper.mk _ (Op.load 35 _) _ _ _ _ :: _) _ _;refine wpList_load_blk rfl _ _ rfl _ rfl _ HMX.out Tryz.underlying35 rfl (info_msg _ _ _ _) ?_)
          refine HBD.out.mono ?_
          rintro e w7 ⟨rfl,hb7⟩
          have HB7:=Lib.hid hb7
          clear hb7 HBD HMX hc23 hlx
          by_cases hB0:BD=0
          · subst hB0
            have hm7:=HM.out.below (bb HBX.out HB7.out) HM.out.lt
            have hc23:w7.cell? ⟨w.heap.size,23,none⟩=some (.slice rA m.rest.len rc):=hm7.cell 23
            have hlx:=hm7.lt
            clear hm7
            go_wp2_with fail
            refine (HFC.out _ HB7.out).mono ?_
            rintro e w8 ⟨rfl,hb8⟩
            have HB8:=Lib.hid (bb (bb HBX.out HB7.out) hb8)
            have HR8:Hid (Rd w8 A (sps L)):=(HRX.out.below HB7.out).below hb8
            clear hb8 HFC HRX hc23 hlx
            generalize fcheck m.rest 0 0=FC at *
            by_cases hF0:FC=0
            · subst hF0
              have HPO4:Hid (∀ e w',e=.returned (.int .i64 (if m.rest.toL.any (fun f => decide (f.tag ∈ L.map Sp.tag)) then 14 else 0))→Below w.heap.size w w'→Q e w'):=fun e w' he hb => HPO3.out e w' (by rw [he];rfl) hb
              have hm8:=HM.out.below HB8.out HM.out.lt
              have hc23:w8.cell? ⟨w.heap.size,23,none⟩=some (.slice rA m.rest.len rc):=hm8.cell 23
              have hlx:=hm8.lt
              have HN0:Hid (∀ k h,k < 0→((m.rest.toL[k]'h).tag) ∉ L.map Sp.tag):=fun k _ h => absurd h (by omega)
              clear hm8 HPO3
              go_wp2_with fail
              clear hc23
              go_loopg [99] m.rest.len (fun gk ki wy => ∃ k:Nat,k≤m.rest.len∧m.rest.len - k≤gk∧ki=.int .i64 (k:Int)∧Hid (∀ q h,q < k→((m.rest.toL[q]'h).tag) ∉ L.map Sp.tag)∧Hid (Below w8.heap.size w8 wy))
              case atStart => exact ⟨0,by omega,by omega,rfl,HN0,b0⟩
              case round =>
               obtain ⟨k,hk,hgk,rfl,HN,HB⟩:=hrel
               obtain ⟨wy,rfl⟩:∃ wy,wy=wr:=⟨_,rfl⟩
               have HBY:=Lib.hid (bb HB8.out HB.out)
               by_cases hltk:k < m.rest.len
               · obtain ⟨b,o,Ai,ci,hre,hbl,d0,d1,d2,d3,d4⟩:=slv_fl (HV.out.below HBY.out).2.2 k hltk
                 subst hre
                 have hkt:k < m.rest.toL.length:=by rw [toL_len];exact hltk
                 have HNN:Hid ((m.rest.toL[k]'hkt).tag ∉ L.map Sp.tag→∀ q h,q < k+1→((m.rest.toL[q]'h).tag) ∉ L.map Sp.tag):=fun h q hq hlt => by
                  rcases Nat.lt_or_ge q k with h2 | h2
                  · exact HN.out q hq h2
                  · obtain rfl:q=k:=by omega
                    exact h
                 have HYE:Hid ((m.rest.toL[k]'hkt).tag ∈ L.map Sp.tag→m.rest.toL.any (fun f => decide (f.tag ∈ L.map Sp.tag))=true):=fun h => List.any_eq_true.2 ⟨_,List.getElem_mem hkt,by simpa using h⟩
                 generalize hfe:m.rest.toL[k]'hkt=F at *
                 obtain ⟨tg,ty,nu,tx,inn⟩:=F
                 simp only at d0 d1 d2 d3 d4 HNN HYE
                 have hfm:=BlkAt.made wy 47 #[.int .u64 (tg:Int),.int .i64 ty,.int .u64 (nu:Int),.string tx,.slice Ai inn.len ci]
                 have hbf:=ba (a:=wy) b0 (.cells #[.int .u64 (tg:Int),.int .i64 ty,.int .u64 (nu:Int),.string tx,.slice Ai inn.len ci] 47)
                 generalize inn.len=il at *
                 clear hfe hkt HN HN0
                 go_wp2_with fail
                 have HFM:=Lib.hid hfm
                 have HBF:=Lib.hid hbf
                 have HRF:Hid (Rd (wy.alloc (.cells #[.int .u64 (tg:Int),.int .i64 ty,.int .u64 (nu:Int),.string tx,.slice Ai il ci] 47)) A (sps L)):=(HR8.out.below HB.out).below hbf
                 have HI0:Hid (∀ q h,q < 0→(L[q]'h).tag≠tg):=fun q _ h => absurd h (by omega)
                 clear hfm hbf d0 d1 d2 d3 d4
                 generalize wy.alloc (.cells #[.int .u64 (tg:Int),.int .i64 ty,.int .u64 (nu:Int),.string tx,.slice Ai il ci] 47)=wf at HFM HBF HRF ⊢
                 obtain ⟨G,hG⟩:∃ G,G=gk:=⟨_,rfl⟩
                 rw [← hG] at hgk
                 go_loopg [105] L.length (fun gk ki wi => ∃ j:Nat,j≤L.length∧L.length - j≤gk∧ki=.int .i64 (j:Int)∧Hid (∀ q h,q < j→(L[q]'h).tag≠tg)∧Hid (Below wf.heap.size wf wi))
                 case atStart => exact ⟨0,by omega,by omega,rfl,HI0,b0⟩
                 case round =>
                  obtain ⟨j,hj,hgj,rfl,HJ,HBJ⟩:=hrel
                  obtain ⟨wi,rfl⟩:∃ wi,wi=wr:=⟨_,rfl⟩
                  by_cases hltj:j < L.length
                  · obtain ⟨b2,off2,hAe,hbl2,c0,c1,c2,c3⟩:=rd_spec (HRF.out.below HBJ.out) hltj
                    subst hAe
                    have hfc:=HFM.out.below HBJ.out HFM.out.lt
                    have q0:=hfc.cell 0
                    have hlf:=hfc.lt
                    simp at q0
                    have HJN:Hid ((L[j]'hltj).tag≠tg→∀ q h,q < j+1→(L[q]'h).tag≠tg):=fun h q hq hlt => by
                     rcases Nat.lt_or_ge q j with h2 | h2
                     · exact HJ.out q hq h2
                     · obtain rfl:q=j:=by omega
                       exact h
                    have HJY:Hid ((L[j]'hltj).tag=tg→tg ∈ L.map Sp.tag):=fun h => List.mem_map.2 ⟨_,List.getElem_mem hltj,h⟩
                    generalize L[j]'hltj=s at *
                    have HBN:=Lib.hid (ba HBJ.out (.cells #[.int .u64 (s.tag:Int),.int .i64 (s.use:Int),.int .i64 (s.from_:Int),.string (txt s.nm)] 94))
                    clear hfc HJ HI0
                    by_cases he:s.tag=tg
                    · have hany:=HYE.out (HJY.out he)
                      rw [hany] at HPO4
                      have heb:((tg:Int) == (s.tag:Int))=true:=by rw [he];simp
                      clear hany HYE HNN HJN HJY he
                      go_wp2_with fail
                      exact HPO4.out _ _ rfl (bb HBM.out (bb HBY.out (bb HBF.out HBN.out)))
                    · have HJ2:=Lib.hid (HJN.out he)
                      have heb:((tg:Int) == (s.tag:Int))=false:=by rw [beq_eq_false_iff_ne];omega
                      clear HJN HJY he
                      go_wp2_with fail
                      go_roundg (L.length - (j+1))
                      case measure => omega
                      case rel => exact ⟨j+1,by omega,Nat.le_refl _,by go_num,HJ2,HBN⟩
                  · obtain rfl:j=L.length:=by omega
                    have HN2:=Lib.hid (HNN.out fun hm => by
                     obtain ⟨s,hs,e⟩:=List.mem_map.1 hm
                     obtain ⟨q,hq,e2⟩:=List.getElem_of_mem hs
                     exact HJ.out q hq hq (by rw [e2];exact e))
                    have HBZ:=Lib.hid (bb HB.out (bb HBF.out HBJ.out))
                    clear HJ HI0 HNN HYE
                    go_wp2_with fail
                    go_roundg (m.rest.len - (k+1))
                    case measure => omega
                    case rel => exact ⟨k+1,by omega,Nat.le_refl _,by go_num,HN2,HBZ⟩
               · obtain rfl:k=m.rest.len:=by omega
                 have hany:m.rest.toL.any (fun f => decide (f.tag ∈ L.map Sp.tag))=false:=by
                  rw [List.any_eq_false]
                  intro f hf
                  obtain ⟨q,hq,e2⟩:=List.getElem_of_mem hf
                  rw [← e2]
                  simpa using HN.out q hq (by rw [toL_len] at hq;exact hq)
                 rw [hany] at HPO4
                 clear hany HN HN0
                 go_wp2_with fail
                 exact HPO4.out _ _ rfl (bb HBM.out HBY.out)
            · have hFp:¬ (FC:Int)=0:=by omega
              have hFb:((FC:Int) == 0)=false:=by rw [beq_eq_false_iff_ne];exact hFp
              have HPO4:Hid (∀ e w',e=.returned (.int .i64 (FC:Int))→Below w.heap.size w w'→Q e w'):=fun e w' he hb => HPO3.out e w' (by rw [he,if_neg (by simp),if_pos hF0]) hb
              clear HPO3 hF0
              go_wp2_with fail
              exact HPO4.out _ _ rfl (bb HBM.out HB8.out)
          · have hBb:(BD == 0)=false:=by rw [beq_eq_false_iff_ne];exact hB0
            have HPO4:Hid (∀ e w',e=.returned (.int .i64 BD)→Below w.heap.size w w'→Q e w'):=fun e w' he hb => HPO3.out e w' (by rw [he,if_pos hB0]) hb
            clear HPO3
            go_wp2_with fail
            exact HPO4.out _ _ rfl (bb HBM.out (bb HBX.out HB7.out))
theorem mcheck_any (v:Nat) (h1:1≤v) (h3:v≤3) {I:Nat→Prop} {m:Mp} {dv tv rv:Value} (w:World) (hv:MgV w I m dv tv rv) (hz:Msz m) (hT:Tabs w) :
 Calls Tryz.prog 43 #[.agg (mvs m dv tv rv),.int .i64 (v:Int)] w (CkEnd w m v):=by
 by_cases hb:kfrom (knat m.kind)=0∨v < kfrom (knat m.kind)
 · refine (mcheck_bad v h1 h3 w hv hz hb).mono fun e w' ⟨h4,h5⟩ => ⟨?_,h5⟩
   rw [h4]
   unfold mcheck
   rw [if_pos hb]
 · have h4:=kfrom_knat (k:=knat m.kind) (by omega)
   have hk:m.kind=(knat m.kind:Int):=by
    have h1:=h4.1
    unfold knat at h1 ⊢
    split at h1
    · rename_i h;rw [if_pos h];omega
    · omega
   exact mcheck_good (knat m.kind) v h1 h3 w hv hz hT hk h4.1 h4.2.1 (by omega) (by omega)
end Go.Proofs.YtgidfnhfgiehjaaGreatDoor
end

section
namespace Go.Proofs.YtgidfnhfgiehjaaGreatDoor
open Go.RowKit Go.PM
theorem ftx_len_ofL:∀ l:List Fl,(ftx (ofL l)).length=(l.map fun f => (ftx (ofL [f])).length).sum
 | [] => rfl
 | f :: r => by
   have e:ofL (f :: r)=(ofL [f]).app (ofL r):=rfl
   rw [e,ftx_app,List.length_append,ftx_len_ofL r,List.map_cons,List.sum_cons]
theorem ftx_len_perm {f g:Fs} (h:f.toL.Perm g.toL):(ftx f).length=(ftx g).length:=by
 rw [← ofL_toL f,← ofL_toL g,ftx_len_ofL,ftx_len_ofL]
 exact (h.map _).sum_nat
theorem count_ofL:∀ l:List Fl,(ofL l).count=(l.map fun f => 1+f.inner.count).sum
 | [] => rfl
 | f :: r => by
   show 1+f.inner.count+(ofL r).count=_
   rw [count_ofL r,List.map_cons,List.sum_cons]
theorem count_perm {f g:Fs} (h:f.toL.Perm g.toL):f.count=g.count:=by
 rw [← ofL_toL f,← ofL_toL g,count_ofL,count_ofL]
 exact (h.map _).sum_nat
theorem sum_le_len {α:Type} (f:α→Nat) (b:Nat):∀ l:List α,(∀ x ∈ l,f x≤b)→(l.map f).sum≤l.length * b
 | [],_ => by simp
 | x :: r,h => by
   have h1:=h x List.mem_cons_self
   have h2:=sum_le_len f b r fun y hy => h y (List.mem_cons_of_mem _ hy)
   rw [List.map_cons,List.sum_cons,List.length_cons,Nat.add_mul]
   omega
theorem ftx_one_len (t n:Nat) (u:Nat) (s:List UInt8) (ht:t≤5) (hn:n < 18446744073709551616) (hs:s.length≤2000000):(ftx (ofL [⟨t,if u≤2 then 0 else 1,n,txt s,.nil⟩])).length≤3000000:=by
 have e:ofL [(⟨t,if u≤2 then 0 else 1,n,txt s,.nil⟩:Fl)]=.cons t (if u≤2 then 0 else 1) n (txt s) .nil .nil:=rfl
 have h1:=vsz_le10 hn
 have h2:=vsz_le10 (n:=s.length) (by omega)
 rw [e]
 by_cases h:u≤2
 · rw [if_pos h]
   have h3:=vsz_le10 (n:=4 * t+(0:Int).toNat) (by simp;omega)
   simp only [ftx,List.length_append,vput_length,if_true,List.length_nil]
   omega
 · rw [if_neg h]
   have h3:=vsz_le10 (n:=4 * t+(1:Int).toNat) (by simp;omega)
   simp only [ftx,List.length_append,vput_length,if_true,List.length_nil,show ¬ (1:Int)=0 by decide,if_false,txt_size]
   have h4:(txt s).data.toList.length=s.length:=by simp [txt]
   omega
theorem uchk_nil:uchk [] 0 256=0:=by unfold uchk;rw [if_neg (by simp),if_pos ugood_nil]
theorem m0_may:∀ i,i < 22→(m0.val i).may=0:=by
 refine cases22 ?_ ?_ ?_ ?_ ?_ ?_ ?_ ?_ ?_ ?_ ?_ ?_ ?_ ?_ ?_ ?_ ?_ ?_ ?_ ?_ ?_ ?_ <;> first | rfl | exact uchk_nil
theorem m0_good:∀ i,i < 22→(m0.val i).good:=by
 refine cases22 ?_ ?_ ?_ ?_ ?_ ?_ ?_ ?_ ?_ ?_ ?_ ?_ ?_ ?_ ?_ ?_ ?_ ?_ ?_ ?_ ?_ ?_ <;> simp [m0,Mp.val,Mv.good,InI64]
theorem check_may {m:Mp} {v:Nat} (h:mcheck m v=0):∀ i,i < 22→(m.val i).may=0:=fun i hi => by
 obtain ⟨c1,c2,c3,c4,c5,c6,c7⟩:=mcheck_ok h
 by_cases hk:∃ s ∈ kknown (knat m.kind) v,six s=i
 · obtain ⟨s,hs,e⟩:=hk
   rw [← e]
   exact mmay_zero c4 s hs
 · rw [nothing_val m i hi (mstray_no (known_ok _ _) c3 hi fun s hs e => hk ⟨s,hs,e⟩)]
   exact m0_may i hi
theorem may_d {m:Mp} (h:(m.val 6).may=0):m.d=[]∨EMil m.d:=by
 by_cases hd:m.d=[]
 · exact .inl hd
 · have h2:(if m.d=[] then 0 else dchk echk m.d)=0:=h
   rw [if_neg hd] at h2
   exact .inr (dchk_mil h2).1
theorem dchk_esz {d:List Ent} (h:dchk echk d=0):ESz d∧d.length≤9223372036854775807:=by
 refine ⟨fun e he => ?_,?_⟩
 · have:=dchk_ents h e he
   omega
 · have:=(dchk_mil h).2.1
   omega
theorem msz_of {m:Mp} (hk:InI64 m.kind) (hm:∀ i,i < 22→(m.val i).may=0) (hg:∀ i,i < 22→(m.val i).good) (hr:m.rest.All FKd) (hc:m.rest.count≤900000) (hL:(ftx m.rest).length≤100000000):Msz m where
 good:=⟨hg,hr⟩
 kind:=hk
 nm:=by have:=uchk_len (l:=m.nm) (hm 14 (by decide));omega
 rg:=by have:=uchk_len (l:=m.rg) (hm 17 (by decide));omega
 nt:=by have:=uchk_len (l:=m.nt) (hm 15 (by decide));omega
 d:=by
  rcases Decidable.em (m.d=[]) with h | h
  · rw [h];intro e he;cases he
  · have h2:(if m.d=[] then 0 else dchk echk m.d)=0:=hm 6 (by decide)
    rw [if_neg h] at h2
    exact (dchk_esz h2).1
 dl:=by
  rcases may_d (hm 6 (by decide)) with h | h
  · rw [h];simp
  · have:=h.1;omega
 t:=fun r hr => by
  have h1:=tchk_len (l:=m.t) (hm 20 (by decide))
  exact dchk_esz (rwchk_d (tchk_rows h1.2 r hr))
 tl:=by
  have h1:=tchk_len (l:=m.t) (hm 20 (by decide))
  omega
 rest:=hc
 restL:=hL
theorem mfields_sz {m:Mp} {v:Nat} (hz:Msz m) (h:(mfields m v).2=0):(mfields m v).1.All FKd∧(mfields m v).1.count≤1000000∧(ftx (mfields m v).1).length≤1000000000000:=by
 obtain ⟨f1,f2,f3⟩:=mfields_ok h
 obtain ⟨c1,c2,c3,c4,c5,c6,c7⟩:=mcheck_ok f1
 have hka:=known_all c4 hz.good
 have hlen:((kknown (knat m.kind) v).filterMap (sfl m)).length≤5:=Nat.le_trans (List.length_filterMap_le _ _) (Nat.le_trans (List.length_filter_le _ _) (kspecs_len _))
 refine ⟨?_,?_,?_⟩
 · rw [← ofL_toL (mfields m v).1]
   refine (ofL_all_perm f2).1 ?_
   rw [ofL_all]
   intro x hx
   rw [toL_app,List.mem_append] at hx
   rcases hx with hx | hx
   · refine (ofL_all _).1 ?_ x hx
     rw [ofL_toL]
     exact hka
   · refine (ofL_all _).1 ?_ x hx
     rw [ofL_toL]
     exact hz.good.2
 · rw [← count_perm f2,Fs.app_count,mknown,count_ofL]
   have h1:(((kknown (knat m.kind) v).filterMap (sfl m)).map fun f => 1+f.inner.count).sum≤((kknown (knat m.kind) v).filterMap (sfl m)).length * 1:=by
    refine sum_le_len _ _ _ fun f hf => ?_
    obtain ⟨s,_,hs⟩:=List.mem_filterMap.1 hf
    rw [(sfl_some hs).2]
    exact Nat.le_refl _
   have:=hz.rest
   omega
 · rw [← ftx_len_perm f2,ftx_app,List.length_append,mknown,ftx_len_ofL]
   have h1:(((kknown (knat m.kind) v).filterMap (sfl m)).map fun f => (ftx (ofL [f])).length).sum≤((kknown (knat m.kind) v).filterMap (sfl m)).length * 3000000:=by
    refine sum_le_len _ _ _ fun f hf => ?_
    obtain ⟨s,hs,hsf⟩:=List.mem_filterMap.1 hf
    rw [(sfl_some hsf).2]
    obtain ⟨s1,_,_,_,s5,_⟩:=(known_ok (knat m.kind) v).2 s hs
    obtain ⟨h1,h2⟩:=field_len (mmay_zero c4 s hs) (hz.good.1 _ s1)
    exact ftx_one_len _ _ _ _ (by omega) h1 h2
   have:=hz.restL
   omega
end Go.Proofs.YtgidfnhfgiehjaaGreatDoor
end
