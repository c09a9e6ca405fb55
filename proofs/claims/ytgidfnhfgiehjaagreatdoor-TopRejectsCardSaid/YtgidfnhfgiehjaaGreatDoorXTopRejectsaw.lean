/-
  Texts of the proof, joined: Set3 PlainEx Tab3. Conditions: as each names.
-/
import Derived.Test.YtgidfnhfgiehjaaGreatDoorXTopRejectsat
import Derived.Test.YtgidfnhfgiehjaaGreatDoorXTopRejectsav
import Derived.Test.YtgidfnhfgiehjaaGreatDoorXTopRejectsal
import Derived.KernelRfl
import Derived.Test.YtgidfnhfgiehjaaGreatDoorXTopRejectsae
import Derived.Shelf.GgSortFunc.SmallK

section
namespace Go.Proofs.YtgidfnhfgiehjaaGreatDoor
open Go.RowKit Go.PM
set_option maxRecDepth 100000
set_option maxHeartbeats 4000000
attribute [local go_sem ↓] Go.wp_at_zero Go.wp_at_succ
def DecEnd (w:World) (q:Mp × Int) (e:Ending) (w':World):Prop:=∃ dv tv rv,e=.returned (.tuple #[.agg (mvs q.1 dv tv rv),.int .i64 q.2])∧MgN w.heap.size w' q.1 dv tv rv∧Below w.heap.size w w'
theorem DecEnd.bad {w w':World} {q:Mp × Int} {k:Int} (hq:q=(m0,k)) (hb:Below w.heap.size w w'):DecEnd w q (.returned (.tuple #[.agg zmvs,.int .i64 k])) w':=by
 rw [hq]
 exact ⟨_,_,_,by rw [zmvs_eq],mgn_zero _ _,hb⟩
def tgE (L:List Sp):List (Lit × Value):=L.map fun s => (.int .u64 (s.tag:Int),.string (txt s.nm))
theorem tgE_get (t:Nat) (nm:List UInt8):∀ (L:List Sp) (z:Value),(∀ a ∈ L,a.tag=t→a.nm=nm)→((∃ a ∈ L,a.tag=t)∨z=.string (txt nm))→getL z (tgE L) (.int .u64 (t:Int))=.string (txt nm)
 | [],z,_,h => by
   rcases h with ⟨a,ha,_⟩ | h
   · cases ha
   · exact h
 | s :: L,z,h,h2 => by
   show getL (bif (Lit.int .u64 (s.tag:Int)).sameKey (.int .u64 (t:Int)) then .string (txt s.nm) else z) (tgE L) _=_
   refine tgE_get t nm L _ (fun a ha => h a (List.mem_cons_of_mem _ ha)) ?_
   by_cases e:s.tag=t
   · right
     rw [e,WideAt.sameKey_self (isKey_int .u64 (t:Int)),h s List.mem_cons_self e]
     rfl
   · rw [Maps.sameKey_ne (fun h => e (by injection h with h1 h2;omega))]
     rcases h2 with ⟨a,ha,hat⟩ | h2
     · rcases List.mem_cons.1 ha with rfl | ha
       · exact absurd hat e
       · exact .inl ⟨a,ha,hat⟩
     · exact .inr h2
theorem key_tag:Maps.Keyed Tryz.prog 22:=Maps.int_keyed Tryz.underlying22
theorem zero_str (w:World):(zeroValue 9).run Tryz.prog w=.ok (.string ByteArray.empty) w:=rfl
theorem map_nocell {w:World} {P:Program} {k:TypeId} {b:Nat} {l:List (Lit × Value)} (h:MapAt w P k b l) (i:Nat):w.cell? ⟨b,i,none⟩=none:=by
 obtain ⟨⟨es,clock,h1,_⟩,_⟩:=h
 simp [World.cell?,h1]
theorem rd_map {w w':World} {A:Option Addr} {xs:List Value} {mb:Nat} (h:Rd w A xs) (hm:∀ i,w.cell? ⟨mb,i,none⟩=none) (ht:Tch (fun j => j=mb) w w'):Rd w' A xs:=by
 rcases h with h | ⟨b,off,e,hb,hc⟩
 · exact .inl h
 · cases xs with
   | nil => exact .inl rfl
   | cons x r =>
     have h0:=hc 0 x rfl
     refine Rd.tch (.inr ⟨b,off,e,hb,hc⟩) ht fun b' off' e' e2 => ?_
     rw [e] at e'
     injection e' with e'
     injection e' with e3 e4
     subst e2 e3
     rw [hm] at h0
     cases h0
def NgAt (w4:World) (mb:Nat) (l:List Sp) (wr:World):Prop:=MapAt wr Tryz.prog 22 mb (tgE l)∧Tch (fun j => j=mb) w4 wr
theorem tch_grow1 {w w':World} {b:Nat} (h:Tch (fun j => j=b) w w'):w.grownBy w' (some b):=⟨h.os,h.tape,h.output,h.size,fun k hk hne => h.block k hk fun e => hne (by rw [e])⟩
theorem mgn_none (B:Nat) (w:World) (k:Int):MgN B w { m0 with kind:=k } (.slice none 0 0) (.slice none 0 0) (.slice none 0 0):=⟨⟨none,0,rfl,Nat.le_refl _,.inl rfl⟩,tbn_nil B w,SlV.nil _ _ _ _⟩
def WtAt (w8:World) (bm:Nat) (L:List Sp) (M0:Mp) (F:List Fl) (j:Nat) (wr:World):Prop:=∃ M dv tv rv,Mok M∧M.rest=.nil∧M.kind=M0.kind∧mwiths L M0 F=mwiths L M (F.drop j)∧BlkAt wr bm 35 (mvs M dv tv rv)∧MgN w8.heap.size wr M dv tv rv∧Tch (fun k => k=bm) w8 wr
theorem mdecode_eq (s:List UInt8) (v:Nat):mdecode s v=if 65536 < s.length then (m0,4) else if (vget s).2.2≠0 then (m0,((vget s).2.2:Int))
 else if kfrom (kind8 (vget s).1)=0∨v < kfrom (kind8 (vget s).1) then (m0,15)
 else if (fgets (s.drop (vget s).2.1)).2≠0 then (m0,((fgets (s.drop (vget s).2.1)).2:Int)) else mread (kind8 (vget s).1) (fgets (s.drop (vget s).2.1)).1 v:=rfl
theorem decode19 (v:Nat) (h1:1≤v) (h3:v≤3) (s:ByteArray) (hs:s.size≤1000000) (w:World) (hT:Tabs w) :
 Calls Tryz.prog 12 #[.string s,.int .i64 (v:Int)] w (DecEnd w (mdecode s.data.toList v)):=by
 have hsl:s.data.toList.length=s.size:=by simp
 have HD:=Lib.hid (mdecode_eq s.data.toList v)
 rw [hsl] at HD
 have HT:=Lib.hid hT
 have hlo:¬ (v:Int) < 1:=by omega
 have hhi:¬ (3:Int) < (v:Int):=by omega
 have hbz:=ba (a:=w) b0 (.cells zmvs 35)
 have hmz:=BlkAt.made w 35 zmvs
 obtain ⟨wz,hwz⟩:∃ wz,wz=w.alloc (.cells zmvs 35):=⟨_,rfl⟩
 have HMA:=Lib.hid hmz
 rw [← hwz] at hbz hmz
 have HB0:=Lib.hid hbz
 have HR0:=Lib.hid hmz
 have HG:=Lib.hid (get_any s wz (by omega))
 obtain ⟨R,hR⟩:∃ R,R=mdecode s.data.toList v:=⟨_,rfl⟩
 rw [← hR] at HD ⊢
 obtain ⟨V,hV⟩:∃ V,V=vget s.data.toList:=⟨_,rfl⟩
 have HV:=Lib.hid hV
 rw [← hV] at HD HG
 simp only [zmvs] at hwz HMA
 clear hR hV hbz hmz hT hsl
 go_enter Tryz.func12,Tryz.ntmps12
 by_cases hbig:65536 < s.size
 · have hq:=HD.out
   rw [if_pos hbig] at hq
   have hbi:(65536:Int) < (s.size:Int):=by omega
   clear HD HG HV hwz
   go_wp2_with
    (with_reducible show wpList _ _ _ (Oper.mk _ (Op.store 35 _ _) _ _ _ _ :: _) _ _;apply pin)
   refine wpList_store_blk rfl _ _ _ rfl _ zmvs rfl rfl HMA.out rfl (info_msg m0 (.slice none 0 0) (.slice none 0 0) (.slice none 0 0)) zmvs_one ?_
   simp only [Act.put]
   go_wp2_with fail
   refine bodyPost_ret (v:=.tuple #[.agg zmvs,.int .i64 (4)]) (by exact results_blk_tmp rfl _ _ w.heap.size 35 _ _ (.int .i64 (4)) rfl (putAll_at HMA.out rfl) Tryz.underlying35 rfl (info_msg m0 (.slice none 0 0) (.slice none 0 0) (.slice none 0 0)) rfl) rfl ?_
   exact DecEnd.bad hq ((ba b0 _).trans ((putAll_tch _ w.heap.size zmvs).toBelowB (ba b0 _).size fun g hg e => by omega))
 · have hq:=HD.out
   rw [if_neg hbig] at hq
   have HD2:=Lib.hid hq
   have hbi:¬ (65536:Int) < (s.size:Int):=by omega
   clear HD hq
   go_wp2_with fail
   rw [← hwz]
   refine HG.out.mono ?_
   rintro e w1 ⟨rfl,hb1⟩
   have HB1:=Lib.hid (bb HB0.out hb1)
   have HR1:=Lib.hid (HR0.out.below hb1 HR0.out.lt)
   clear hb1 HG HMA HR0 hwz HB0
   have hvc:=vget_cases s.data.toList
   rw [← HV.out] at hvc
   obtain ⟨n,sz,ec⟩:=V
   simp only at HD2 ⊢
   by_cases hec:ec=0
   · subst hec
     have hq:=HD2.out
     rw [if_neg (by simp)] at hq
     have HD3:=Lib.hid hq
     have hnz:n < 18446744073709551616∧sz≤s.size:=by
      rcases hvc with ⟨e,h,h2⟩ | ⟨n',k,h,g1,_,_,g4,_⟩
      · injection h with h4 h5
        injection h5 with h5 h6
        omega
      · injection h with h4 h5
        injection h5 with h5 h6
        subst h4 h5
        simp at g4
        exact ⟨g1,g4⟩
     obtain ⟨hn64,hsz⟩:=hnz
     clear hvc hq HD2 HV
     by_cases hn8:n≤8
     · have hk8:kind8 n=n:=by unfold kind8;rw [if_pos hn8]
       rw [hk8] at HD3
       have hwn:IntKind.i64.wrap (n:Int)=(n:Int):=by rw [IntKind.wrap_i64];omega
       have hn8i:(n:Int)≤8:=by omega
       have HFR:Hid (∀ x,Calls Tryz.prog 37 #[.int .i64 (n:Int)] x fun e w' => e=.returned (.int .i64 (kfrom n:Int))∧Below x.heap.size x w'):=fun x => by
        have:=from17 (n:Int) x (by unfold InI64;omega)
        have h2:=knat_kind8 n
        rw [hk8] at h2
        rw [h2] at this
        exact this
       clear hk8
       go_wp2_with fail
       refine (HFR.out _).mono ?_
       rintro e w2 ⟨rfl,hb2⟩
       have HB2:=Lib.hid (bb HB1.out hb2)
       have HR2:=Lib.hid (HR1.out.below hb2 HR1.out.lt)
       clear hb2 HFR HB1 HR1
       by_cases hkf:kfrom n=0∨v < kfrom n
       · have hq:=HD3.out
         rw [if_pos hkf] at hq
         clear HD3
         generalize kfrom n=KF at *
         rcases hkf with h0 | h0
         · subst h0
           go_wp2_with
            (with_reducible show wpList _ _ _ (Oper.mk _ (Op.store 35 _ _) _ _ _ _ :: _) _ _;apply pin)
           refine wpList_store_blk rfl _ _ _ rfl _ zmvs rfl rfl HR2.out rfl (info_msg m0 (.slice none 0 0) (.slice none 0 0) (.slice none 0 0)) zmvs_one ?_
           simp only [Act.put]
           go_wp2_with fail
           refine bodyPost_ret (v:=.tuple #[.agg zmvs,.int .i64 (15)]) (by exact results_blk_tmp rfl _ _ w.heap.size 35 _ _ (.int .i64 (15)) rfl (putAll_at HR2.out rfl) Tryz.underlying35 rfl (info_msg m0 (.slice none 0 0) (.slice none 0 0) (.slice none 0 0)) rfl) rfl ?_
           exact DecEnd.bad hq ((HB2.out).trans ((putAll_tch _ w.heap.size zmvs).toBelowB (HB2.out).size fun g hg e => by omega))
         · have hvi:(v:Int) < (KF:Int):=by omega
           have hk0:((KF:Int) == 0)=false:=by rw [beq_eq_false_iff_ne];omega
           go_wp2_with
            (with_reducible show wpList _ _ _ (Oper.mk _ (Op.store 35 _ _) _ _ _ _ :: _) _ _;apply pin)
           refine wpList_store_blk rfl _ _ _ rfl _ zmvs rfl rfl HR2.out rfl (info_msg m0 (.slice none 0 0) (.slice none 0 0) (.slice none 0 0)) zmvs_one ?_
           simp only [Act.put]
           go_wp2_with fail
           refine bodyPost_ret (v:=.tuple #[.agg zmvs,.int .i64 (15)]) (by exact results_blk_tmp rfl _ _ w.heap.size 35 _ _ (.int .i64 (15)) rfl (putAll_at HR2.out rfl) Tryz.underlying35 rfl (info_msg m0 (.slice none 0 0) (.slice none 0 0) (.slice none 0 0)) rfl) rfl ?_
           exact DecEnd.bad hq ((HB2.out).trans ((putAll_tch _ w.heap.size zmvs).toBelowB (HB2.out).size fun g hg e => by omega))
       · have hq:=HD3.out
         rw [if_neg hkf] at hq
         have HD4:=Lib.hid hq
         have hkv:kfrom n≤v:=by omega
         have hk4:=kfrom_knat (k:=n) (by omega)
         have hk1:=hk4.1
         have hk4b:=hk4.2.1
         clear hq HD3
         have HKF:Hid (kfrom n≤v):=hkv
         have hvi:¬ (v:Int) < (kfrom n:Int):=by omega
         have hk0:((kfrom n:Int) == 0)=false:=by rw [beq_eq_false_iff_ne];omega
         clear hkv hk4 hkf
         generalize kfrom n=KF at hvi hk0 ⊢
         have hex:(s.extract sz s.size).data.toList=s.data.toList.drop sz:=by
          rw [ext_list]
          exact List.take_of_length_le (by rw [List.length_drop,len_list];exact Nat.le_refl _)
         have hexs:(s.extract sz s.size).size≤65536:=by
          have:(s.extract sz s.size).data.toList.length=(s.extract sz s.size).size:=len_list _
          rw [hex,List.length_drop,len_list] at this
          omega
         have HWG:Hid (∀ x,Calls Tryz.prog 38 #[.string (s.extract sz s.size)] x (GetEnd x (s.extract sz s.size))):=fun x => wget_any (s.extract sz s.size) x (by omega)
         unfold GetEnd at HWG
         rw [hex] at HWG
         have HFC:=Lib.hid (fgets_back (s:=s.data.toList.drop sz) (by rw [List.length_drop,len_list];omega))
         have HCT:=Lib.hid (fgets_count (s:=s.data.toList.drop sz) (by rw [List.length_drop,len_list];omega))
         have HLN:Hid ((s.data.toList.drop sz).length≤65536):=by
          show _≤65536
          rw [List.length_drop,len_list];omega
         clear hex hexs
         generalize hG:fgets (s.data.toList.drop sz)=G at *
         go_wp2_with fail
         refine (HWG.out _).mono ?_
         rintro e w3 ⟨A,c,rfl,hsl,hb3⟩
         have HB3:=Lib.hid (bb HB2.out hb3)
         have HB2a:=HB3
         have HR3:=Lib.hid (HR2.out.below hb3 HR2.out.lt)
         have HSL:=Lib.hid hsl
         clear hb3 hsl HWG HB2 HR2
         obtain ⟨GF,GC⟩:=G
         simp only at HD4 HFC HCT HSL ⊢
         by_cases hgc:GC=0
         · subst hgc
           have hq:=HD4.out
           rw [if_neg (by simp)] at hq
           have HD5:=Lib.hid hq
           obtain ⟨f1,f2,f3,f4,_,_⟩:=HFC.out rfl
           have f5:=HCT.out rfl
           have HF1:=Lib.hid f1
           have HF3:=Lib.hid ((fcheck_iff GF 0 0 f1 (by omega)).1 f3)
           have HF4:Hid ((ftx GF).length≤65536):=by
            show _≤65536
            rw [f4]
            exact HLN.out
           have HF5:Hid (GF.count≤65536):=Nat.le_trans f5 HLN.out
           have hk8l:=hk4b
           clear hq HD4 HFC HCT f1 f2 f3 f4 f5 HLN
           have HKN:Hid (∀ x,Calls Tryz.prog 39 #[.int .i64 (n:Int),.int .i64 (v:Int)] x (KnEnd x (kknown n v))):=fun x => known17 n v x hk1 hk8l HKF.out h3
           have HTG:Hid (∀ x,Calls Tryz.prog 41 #[.int .i64 (n:Int),.int .i64 (v:Int)] x fun e w' => ∃ A c,e=.returned (.slice A (ktags n v).length c)∧Rd w' A (u64s (ktags n v))∧(ktags n v).length≤c∧Below x.heap.size x w'):=fun x => tags17 n v x hk1 hk8l HKF.out h3
           have HOK:=Lib.hid (known_ok n v)
           have hll:(kknown n v).length≤5:=Nat.le_trans (List.length_filter_le _ _) (kspecs_len n)
           have hmm:=@run_makeMap Tryz.prog
           have H0:=Lib.hid (MapAt.made w3 Tryz.prog 22)
           have BM:=Lib.hid (ba (a:=w3) b0 (.map #[] 0))
           have hsm:(w3.alloc (.map #[] 0)).heap.size=w3.heap.size+1:=by simp
           have HSM3:=Lib.hid hsm
           clear hsm
           obtain ⟨L,hL⟩:∃ L,L=kknown n v:=⟨_,rfl⟩
           have HLE:=Lib.hid hL
           rw [← hL] at HKN HOK hll
           clear hL
           obtain ⟨GL,hGL⟩:∃ GL,GL=GF.len:=⟨_,rfl⟩
           rw [← hGL] at HSL ⊢
           have HGL:=Lib.hid hGL
           clear hGL
           go_wp2_with fail
           refine (HKN.out _).mono ?_
           rintro e w4 ⟨A4,c4,rfl,hrd,hlc,hb4⟩
           have HRD:=Lib.hid hrd
           have HMP0:=Lib.hid (map_below H0.out hb4)
           have HB4:=Lib.hid (bb BM.out hb4)
           have HN0:Hid (NgAt w4 w3.heap.size (L.take 0) w4):=⟨HMP0.out,Tch.refl _ _⟩
           have HS4:Hid (w3.heap.size < w4.heap.size):=by
            show _ < _
            have:=hb4.size
            rw [HSM3.out] at this
            omega
           clear hrd hb4 HKN BM H0 hmm
           go_wp2_with fail
           go_loopg [72] L.length (fun gk ki wr => ∃ j:Nat,j≤L.length∧L.length - j≤gk∧ki=.int .i64 (j:Int)∧Hid (NgAt w4 w3.heap.size (L.take j) wr))
           case atStart => exact ⟨0,Nat.zero_le _,by omega,rfl,HN0⟩
           case round =>
            obtain ⟨j,hj,hgj,rfl,HS⟩:=hrel
            obtain ⟨hmap,htch⟩:=HS.out
            have hrdj:=rd_map HRD.out (map_nocell HMP0.out) htch
            by_cases hlt:j < L.length
            · obtain ⟨b,off,hAe,hbl,c0,c1,c2,c3⟩:=rd_spec hrdj hlt
              subst hAe
              have hst:L.take (j+1)=L.take j++[L[j]]:=(List.take_append_getElem hlt).symm
              have ht5:=(HOK.out.2 L[j] (List.getElem_mem hlt)).2.2.2.2.1
              generalize L[j]=s' at *
              have hbs:=ba (a:=wr) b0 (.cells #[.int .u64 (s'.tag:Int),.int .i64 (s'.use:Int),.int .i64 (s'.from_:Int),.string (txt s'.nm)] 94)
              have HMP:=Lib.hid (map_below hmap hbs)
              have HTH:=Lib.hid (htch.bel hbs)
              have HST:=Lib.hid hst
              have hjl:(tgE (L.take j)).length≤5:=by rw [tgE,List.length_map,List.length_take];omega
              have hw64:(Lit.int .u64 (s'.tag:Int)).wf=true:=by
               simp only [Lit.wf,show IntKind.u64.min=0 from rfl,show IntKind.u64.max=18446744073709551615 from rfl,Bool.and_eq_true,decide_eq_true_eq]
               omega
              clear hmap htch hrdj hst HS HN0 hbs ht5
              go_wp2_with (with_reducible show wpList _ _ _ (Oper.mk _ (Op.mapUpdate _ _ _ _) _ _ _ _ :: _) _ _;refine wpList_put_v _ rfl _ _ _ 90 rfl 22 9 key_tag Tryz.underlying90 _ _ rfl HMP.out (by unfold maxLen;omega) (.int .u64 (s'.tag:Int)) (.string (txt s'.nm)) (.int .u64 (s'.tag:Int)) rfl rfl (Maps.keyOf_int_mk Tryz.underlying22 hw64) (isKey_int _ _) ?_;intro w5 hm5 hg5)
              go_roundg (L.length - (j+1))
              case measure => omega
              case rel =>
               refine ⟨j+1,by omega,Nat.le_refl _,by go_num,?_,HTH.out.trans (Tch.grown (S:=fun j => j=w3.heap.size) hg5 fun g hg _ => by injection hg with hg;exact hg.symm) fun g _ e => e⟩
               rw [HST.out,tgE,List.map_append]
               exact hm5
            · obtain rfl:j=L.length:=by omega
              rw [List.take_of_length_le (Nat.le_refl _)] at hmap
              have hbf:Below w3.heap.size w3 wr:=HB4.out.trans (htch.toBelowB (Nat.le_of_lt HS4.out) fun g hg e => by omega)
              have hm5:=BlkAt.made wr 35 zmvs
              have hmb:=putAll_at (ds:=mvs { m0 with kind:=(n:Int) } (.slice none 0 0) (.slice none 0 0) (.slice none 0 0)) hm5 rfl
              have hpt:=putAll_tch (wr.alloc (.cells zmvs 35)) wr.heap.size (mvs { m0 with kind:=(n:Int) } (.slice none 0 0) (.slice none 0 0) (.slice none 0 0))
              have hsa:(wr.alloc (.cells zmvs 35)).heap.size=wr.heap.size+1:=by simp
              have hsp:(World.putAll (wr.alloc (.cells zmvs 35)) wr.heap.size (mvs { m0 with kind:=(n:Int) } (.slice none 0 0) (.slice none 0 0) (.slice none 0 0))).heap.size=wr.heap.size+1:=by rw [putAll_size,hsa]
              have hb6:Below wr.heap.size wr (World.putAll (wr.alloc (.cells zmvs 35)) wr.heap.size (mvs { m0 with kind:=(n:Int) } (.slice none 0 0) (.slice none 0 0) (.slice none 0 0))) :=
               (ba (a:=wr) b0 (.cells zmvs 35)).trans (hpt.toBelowB (by omega) fun g hg e => by omega)
              obtain ⟨w6,hw6⟩:∃ w6,w6=World.putAll (wr.alloc (.cells zmvs 35)) wr.heap.size (mvs { m0 with kind:=(n:Int) } (.slice none 0 0) (.slice none 0 0) (.slice none 0 0)):=⟨_,rfl⟩
              rw [← hw6] at hmb hb6 hsp
              obtain ⟨bm,hbm⟩:∃ bm,bm=wr.heap.size:=⟨_,rfl⟩
              have HM5:=Lib.hid hm5
              rw [← hbm] at hmb
              have HMB:=Lib.hid hmb
              have HMP6:=Lib.hid (map_below hmap hb6)
              have HB6:Hid (Below w3.heap.size w3 w6):=hbf.trans (hb6.mono hbf.size)
              have HR6:=Lib.hid (HR3.out.below HB6.out HR3.out.lt)
              have HS6:Hid (w3.heap.size < bm∧bm < w6.heap.size):=by
               have:=htch.size
               have:=HS4.out
               exact ⟨by omega,by omega⟩
              have HSL6:=Lib.hid (HSL.out.below HB6.out)
              have hw6':∀ (P:World→Prop),P w6→P (World.putAll (wr.alloc (.cells zmvs 35)) wr.heap.size (mvs { m0 with kind:=(n:Int) } (.slice none 0 0) (.slice none 0 0) (.slice none 0 0))):=fun P h => by rw [← hw6];exact h
              simp only [zmvs] at HM5 hw6 hw6'
              clear hbf hm5 hmb hpt hsa hb6 hsp hmap htch hrdj HS HN0 HRD HMP0
              go_wp2_with
               (with_reducible show wpList _ _ _ (Oper.mk _ (Op.store 35 _ _) _ _ _ _ :: _) _ _;apply pin)
              refine wpList_store_blk rfl _ _ _ rfl _ (mvs { m0 with kind:=(n:Int) } (.slice none 0 0) (.slice none 0 0) (.slice none 0 0)) rfl rfl HM5.out rfl (info_msg _ _ _ _) mvs_one ?_
              rw [← hw6]
              clear hw6 hw6' HM5
              simp only [Act.put]
              rw [← hbm]
              clear hbm
              go_wp2_with fail
              refine (HTG.out _).mono ?_
              rintro e w7 ⟨At,ct,rfl,htr,htl,hb7⟩
              have hsl7:=HSL6.out.below hb7
              rw [HGL.out] at hsl7
              have hsp:=split_any A c GF At ct (ktags n v) _ w7 hsl7 htr (Nat.le_trans HF5.out (by decide)) (by rw [ktags,List.length_map,← HLE.out];omega) (fun t ht => by
               obtain ⟨s',hs',e⟩:=ktags_iff.1 ht
               have:=(HOK.out.2 s' (by rw [HLE.out];exact hs')).2.2.2.2.1
               omega) HF1.out
              rw [← HGL.out] at hsp
              have HSP:=Lib.hid hsp
              have HB7:Hid (Below w3.heap.size w3 w7):=HB6.out.trans (hb7.mono HB6.out.size)
              have HR7:=Lib.hid (HR6.out.below hb7 HR6.out.lt)
              have HM7:=Lib.hid (HMB.out.below hb7 HMB.out.lt)
              have HMP7:=Lib.hid (map_below HMP6.out hb7)
              have HS7:Hid (w3.heap.size < bm∧bm < w7.heap.size):=⟨HS6.out.1,by have:=HS6.out.2;have:=hb7.size;omega⟩
              have HRQ:Hid (R=if (mwiths L { m0 with kind:=(n:Int) } (fpick (ktags n v) true GF).toL).2≠0 then (m0,(mwiths L { m0 with kind:=(n:Int) } (fpick (ktags n v) true GF).toL).2)
               else if mcheck { (mwiths L { m0 with kind:=(n:Int) } (fpick (ktags n v) true GF).toL).1 with rest:=fpick (ktags n v) false GF } v≠0 then
                (m0,mcheck { (mwiths L { m0 with kind:=(n:Int) } (fpick (ktags n v) true GF).toL).1 with rest:=fpick (ktags n v) false GF } v)
               else ({ (mwiths L { m0 with kind:=(n:Int) } (fpick (ktags n v) true GF).toL).1 with rest:=fpick (ktags n v) false GF },0)):=by
               rw [HLE.out]
               exact HD5.out
              have HFX:Hid (∀ x ∈ (fpick (ktags n v) true GF).toL,(∃ s' ∈ L,s'.tag=x.tag)∧x.text.size≤1000000∧x.num < 18446744073709551616):=fun x hx => by
               have hk:=(ofL_all (P:=FKd) (fpick (ktags n v) true GF).toL).1 (by rw [ofL_toL];exact fpick_all _ _ HF1.out) x hx
               have ht:=text_len (fpick_checkP (ktags n v) true HF3.out) x hx
               have hp:=pick_sz (ktags n v) true GF
               refine ⟨?_,by have:=HF4.out;omega,hk.1.2.2.1⟩
               rw [fpick_toL] at hx
               obtain ⟨s',hs',e⟩:=ktags_iff.1 (by simpa using (List.mem_filter.1 hx).2)
               exact ⟨s',by rw [HLE.out];exact hs',e⟩
              have HRF:Hid ((fpick (ktags n v) false GF).All FKd∧(fpick (ktags n v) false GF).count≤900000∧(ftx (fpick (ktags n v) false GF)).length≤100000000) :=
               ⟨fpick_all _ _ HF1.out,by have:=fpick_count (ktags n v) false GF;have:=HF5.out;omega,by have:=pick_sz (ktags n v) false GF;have:=HF4.out;omega⟩
              have hfl5:(fpick (ktags n v) true GF).len≤65536:=Nat.le_trans (fpick_len _ _ _) (Nat.le_trans GF.len_count HF5.out)
              clear hsl7 hsp htr htl hb7 HTG HSL6 HB6 HR6 HMB HMP6 HS6 HD5 HF1 HF3 HF4 HF5
              generalize ktags n v=TG at *
              generalize hFP:fpick TG true GF=F at *
              generalize hFR:fpick TG false GF=Rf at *
              generalize TG.length=TL at *
              go_wp2_with fail
              refine HSP.out.mono ?_
              rintro e w8 ⟨Aw,Ar,cw,cr,rfl,hsw,hsr,hb8⟩
              rw [hFP] at hsw ⊢
              rw [hFR] at hsr ⊢
              have HSW:=Lib.hid hsw
              have HSR:=Lib.hid hsr
              have HB8:Hid (Below w3.heap.size w3 w8):=HB7.out.trans (hb8.mono HB7.out.size)
              have HR8:=Lib.hid (HR7.out.below hb8 HR7.out.lt)
              have HM8:=Lib.hid (HM7.out.below hb8 HM7.out.lt)
              have HMP8:=Lib.hid (map_below HMP7.out hb8)
              have HS8:Hid (w3.heap.size < bm∧bm < w7.heap.size∧w7.heap.size≤w8.heap.size∧w.heap.size < w3.heap.size):=⟨HS7.out.1,HS7.out.2,hb8.size,HR3.out.lt⟩
              have HW0:Hid (WtAt w8 bm L { m0 with kind:=(n:Int) } F.toL 0 w8):=⟨{ m0 with kind:=(n:Int) },_,_,_,Mok.zero n hk8l,rfl,rfl,rfl,HM8.out,mgn_none _ _ _,Tch.refl _ _⟩
              obtain ⟨FN,hFN⟩:∃ FN,FN=F.len:=⟨_,rfl⟩
              obtain ⟨RN,hRN⟩:∃ RN,RN=Rf.len:=⟨_,rfl⟩
              rw [← hFN,← hRN]
              rw [← hFN] at hfl5
              have HFN:=Lib.hid hFN
              have HRN:=Lib.hid hRN
              clear hFN hRN hsw hsr hb8 HSP HB7 HR7 HM7 HMP7 HS7 hFP hFR
              go_wp2_with fail
              go_loopg [94] FN (fun gk ki wr => ∃ j:Nat,j≤FN∧FN - j≤gk∧ki=.int .i64 (j:Int)∧Hid (WtAt w8 bm L { m0 with kind:=(n:Int) } F.toL j wr))
              case atStart => exact ⟨0,Nat.zero_le _,by omega,rfl,HW0⟩
              case round =>
               obtain ⟨j,hj,hgj,rfl,HS⟩:=hrel
               obtain ⟨M,dv,tv,rv,hMok,hMr,hMk,hmw,hbl,hmg,htch⟩:=HS.out
               obtain ⟨dA,dc,tA,tc,rA,rc,rfl,rfl,rfl⟩:=hmg.slices
               have hS8:=HS8.out
               have hBwr:Below w3.heap.size w3 wr:=HB8.out.trans (htch.toBelowB (by have:=HB8.out.size;omega) fun g hg e => by omega)
               have hrr:BlkAt wr w.heap.size 35 zmvs:=HR3.out.below hBwr HR3.out.lt
               by_cases hlt:j < FN
               · have hltF:j < F.len:=by rw [← HFN.out];exact hlt
                 have hsl:=HSW.out.tch htch (fun k hk e => by omega)
                 obtain ⟨b,o,Ai,ci,hre,hbl',d0,d1,d2,d3,d4⟩:=slv_fl hsl j hltF
                 subst hre
                 have hkt:j < F.toL.length:=by rw [toL_len];exact hltF
                 have hdrop:F.toL.drop j=F.toL[j]'hkt :: F.toL.drop (j+1):=List.drop_eq_getElem_cons hkt
                 obtain ⟨hs',htx,hnum⟩:=HFX.out (F.toL[j]'hkt) (List.getElem_mem hkt)
                 generalize F.toL[j]'hkt=x at *
                 obtain ⟨tg,ty,nu,tx,inn⟩:=x
                 simp only at d0 d1 d2 d3 d4 hs' htx hnum
                 obtain ⟨sp,hsp,hst⟩:=hs'
                 have hix:ktix L tg=six sp:=by
                  rw [← hst]
                  exact ktix_of HOK.out hsp
                 have hi22:=(HOK.out.2 sp hsp).1
                 have hnm:=(HOK.out.2 sp hsp).2.2.2.2.2.1
                 have hget:=tgE_get tg (nmAt (six sp)) L (.string ByteArray.empty) (fun a ha e => by rw [six_inj HOK.out a ha sp hsp (.inr (e.trans hst.symm))];exact hnm) (.inl ⟨sp,hsp,hst⟩)
                 have htg5:=(HOK.out.2 sp hsp).2.2.2.2.1
                 have hw64:(Lit.int .u64 (tg:Int)).wf=true:=by
                  simp only [Lit.wf,show IntKind.u64.min=0 from rfl,show IntKind.u64.max=18446744073709551615 from rfl,Bool.and_eq_true,decide_eq_true_eq]
                  omega
                 generalize six sp=ix at *
                 have hba:=ba (a:=wr) b0 (.cells #[.int .u64 (tg:Int),.int .i64 ty,.int .u64 (nu:Int),.string tx,.slice Ai inn.len ci] 47)
                 have HMA:=Lib.hid (hbl.more (.cells #[.int .u64 (tg:Int),.int .i64 ty,.int .u64 (nu:Int),.string tx,.slice Ai inn.len ci] 47))
                 have HRA:=Lib.hid (hrr.more (.cells #[.int .u64 (tg:Int),.int .i64 ty,.int .u64 (nu:Int),.string tx,.slice Ai inn.len ci] 47))
                 have HFA:=Lib.hid (BlkAt.made wr 47 #[.int .u64 (tg:Int),.int .i64 ty,.int .u64 (nu:Int),.string tx,.slice Ai inn.len ci])
                 have HMPA:=Lib.hid (map_below (HMP8.out.kept (tch_grow1 htch) (by intro e;injection e with e;omega)) hba)
                 have hsz:=hMok.sizes
                 have hwi:=with18 (wr.alloc (.cells #[.int .u64 (tg:Int),.int .i64 ty,.int .u64 (nu:Int),.string tx,.slice Ai inn.len ci] 47)) (hmg.v.below hba) hsz.1 hsz.2.1 hsz.2.2 (by rw [hMr];exact Nat.zero_le _) ix tg ty nu tx.data.toList Ai inn.len ci hi22 hnum (by rw [len_list];exact htx)
                  (HT.out.below ((HB2a.out.trans (hBwr.mono HB2a.out.size)).trans (hba.mono (by have:=HB2a.out.size;have:=hBwr.size;omega))))
                 rw [txt_eta] at hwi
                 have HWI:=Lib.hid hwi
                 have hstep:=mwiths_step L M ⟨tg,ty,nu,tx,inn⟩ (F.toL.drop (j+1))
                 rw [← hdrop,← hmw,hix] at hstep
                 simp only at hstep
                 have HSTEP:=Lib.hid hstep
                 have HGET:=Lib.hid hget
                 have HMOK:Hid (∀ h0:(setc (nmUse ix) ty nu tx.data.toList).2=0,Mok (M.put ix (setc (nmUse ix) ty nu tx.data.toList).1)):=fun h0 => hMok.put hi22 hnum h0
                 have HPK:=Lib.hid (Mp.put_kind M ix (setc (nmUse ix) ty nu tx.data.toList).1)
                 have HMR:=Lib.hid hMr
                 have HMK:=Lib.hid hMk
                 have HTC:=Lib.hid htch
                 have HBA:=Lib.hid hba
                 have HBW:=Lib.hid hBwr
                 have hS9:w8.heap.size≤wr.heap.size:=htch.size
                 clear hstep hget hMok hMr hMk hmw hbl hmg htch hBwr hrr hsl hdrop hkt htx hnum hst hix hi22 hnm htg5 hba hsz hwi HS HW0
                 generalize setc (nmUse ix) ty nu tx.data.toList=q at *
                 obtain ⟨V,E⟩:=q
                 generalize inn.len=il at *
                 simp only at HSTEP HMOK HPK HWI
                 go_wp2_with
                  (first | (with_reducible show wpList _ _ _ (Oper.mk _ (Op.load 35 _) _ _ _ _ :: _) _ _;refine wpList_load_blk rfl _ _ rfl _ rfl _ HMA.out Tryz.underlying35 rfl (info_msg _ _ _ _) ?_) | (at_lookup;refine wpList_look_v _ rfl _ _ 90 rfl 22 9 key_tag Tryz.underlying90 (zero_str _) _ _ rfl HMPA.out (.int .u64 (tg:Int)) (.int .u64 (tg:Int)) rfl (Maps.keyOf_int_mk Tryz.underlying22 hw64) HGET.out ?_))
                 refine HWI.out.mono ?_
                 rintro e w9 ⟨dv9,tv9,rv9,rfl,hmg9,hb9⟩
                 have HM9:=Lib.hid (HMA.out.below hb9 HMA.out.lt)
                 have HR9:=Lib.hid (HRA.out.below hb9 HRA.out.lt)
                 have HB9:=Lib.hid (bb HBA.out hb9)
                 simp only at hmg9 ⊢
                 by_cases hE:E=0
                 · subst hE
                   simp only [ne_eq,not_true_eq_false,if_false] at hmg9 ⊢
                   obtain ⟨dA9,dc9,tA9,tc9,rA9,rc9,rfl,rfl,rfl⟩:=hmg9.slices
                   have hm10:=putAll_at (ds:=mvs (M.put ix V) (.slice dA9 (M.put ix V).d.length dc9) (.slice tA9 (M.put ix V).t.length tc9) (.slice rA9 (M.put ix V).rest.len rc9)) HM9.out rfl
                   have hp10:=putAll_tch w9 bm (mvs (M.put ix V) (.slice dA9 (M.put ix V).d.length dc9) (.slice tA9 (M.put ix V).t.length tc9) (.slice rA9 (M.put ix V).rest.len rc9))
                   have hs9:=hb9.size
                   simp only [World.size_alloc] at hs9
                   have HN:Hid (WtAt w8 bm L { m0 with kind:=(n:Int) } F.toL (j+1) (World.putAll w9 bm (mvs (M.put ix V) (.slice dA9 (M.put ix V).d.length dc9) (.slice tA9 (M.put ix V).t.length tc9) (.slice rA9 (M.put ix V).rest.len rc9)))):=by
                    have h1:=HSTEP.out
                    rw [if_neg (by simp)] at h1
                    refine ⟨M.put ix V,_,_,_,HMOK.out rfl,by rw [HPK.out.2,HMR.out],by rw [HPK.out.1,HMK.out],h1,hm10,?_,?_⟩
                    · refine (hmg9.tch hp10 fun k hk e => ?_).mono ?_
                      · simp only [World.size_alloc] at hk;omega
                      · simp only [World.size_alloc];omega
                    · exact (HTC.out.bel HB9.out).trans hp10 fun g _ e => e
                   clear hmg9 hb9 hm10 hp10 HSTEP HMOK HPK HMR HMK HTC HWI
                   go_wp2_with
                    (with_reducible show wpList _ _ _ (Oper.mk _ (Op.store 35 _ _) _ _ _ _ :: _) _ _;apply pin)
                   refine wpList_store_blk rfl _ _ _ rfl _ _ rfl rfl HM9.out rfl (info_msg _ _ _ _) mvs_one ?_
                   simp only [Act.put]
                   go_wp2_with fail
                   go_roundg (FN - (j+1))
                   case measure => omega
                   case rel => exact ⟨j+1,by omega,Nat.le_refl _,by go_num,HN⟩
                 · simp only [ne_eq,hE,not_false_eq_true,if_true] at hmg9 ⊢
                   obtain ⟨dA9,dc9,tA9,tc9,rA9,rc9,rfl,rfl,rfl⟩:=hmg9.slices
                   have h1:=HSTEP.out
                   rw [if_pos hE] at h1
                   have hq:=HRQ.out
                   rw [h1,if_pos hE] at hq
                   have HQ:Hid (R=(m0,E)):=hq
                   have HR10:=Lib.hid (HR9.out.tch (putAll_tch w9 bm (mvs m0 (.slice dA9 m0.d.length dc9) (.slice tA9 m0.t.length tc9) (.slice rA9 m0.rest.len rc9))) (by omega))
                   have HB10:Hid (Below w.heap.size w (World.putAll w9 bm (mvs m0 (.slice dA9 m0.d.length dc9) (.slice tA9 m0.t.length tc9) (.slice rA9 m0.rest.len rc9)))) :=
                    (HB2a.out.trans ((HBW.out.trans (HB9.out.mono HBW.out.size)).mono HB2a.out.size)).trans ((putAll_tch w9 bm _).toBelowB (by have:=HB2a.out.size;have:=HBW.out.size;have:=HB9.out.size;omega) fun g hg e => by omega)
                   have hEb:(E == 0)=false:=by rw [beq_eq_false_iff_ne];exact hE
                   clear hmg9 hb9 HSTEP HMOK HPK HMR HMK HTC HWI h1 hq hE
                   go_wp2_with
                    (with_reducible show wpList _ _ _ (Oper.mk _ (Op.store 35 _ _) _ _ _ _ :: _) _ _;apply pin)
                   refine wpList_store_blk rfl _ _ _ rfl _ _ rfl rfl HM9.out rfl (info_msg _ _ _ _) mvs_one ?_
                   simp only [Act.put]
                   generalize World.putAll w9 bm (mvs m0 (.slice dA9 m0.d.length dc9) (.slice tA9 m0.t.length tc9) (.slice rA9 m0.rest.len rc9))=w10 at HR10 HB10 ⊢
                   go_wp2_with
                    (with_reducible show wpList _ _ _ (Oper.mk _ (Op.store 35 _ _) _ _ _ _ :: _) _ _;apply pin)
                   refine wpList_store_blk rfl _ _ _ rfl _ zmvs rfl rfl HR10.out rfl (info_msg m0 (.slice none 0 0) (.slice none 0 0) (.slice none 0 0)) zmvs_one ?_
                   simp only [Act.put]
                   go_wp2_with fail
                   refine bodyPost_ret (v:=.tuple #[.agg zmvs,.int .i64 (E)]) (by exact results_blk_tmp rfl _ _ w.heap.size 35 _ _ (.int .i64 (E)) rfl (putAll_at HR10.out rfl) Tryz.underlying35 rfl (info_msg m0 (.slice none 0 0) (.slice none 0 0) (.slice none 0 0)) rfl) rfl ?_
                   exact DecEnd.bad HQ.out ((HB10.out).trans ((putAll_tch _ w.heap.size zmvs).toBelowB (HB10.out).size fun g hg e => by omega))
               · obtain rfl:j=FN:=by omega
                 have hmw2:mwiths L { m0 with kind:=(n:Int) } F.toL=(M,0):=by
                  rw [hmw,List.drop_of_length_le (by rw [toL_len,HFN.out];exact Nat.le_refl _)]
                  rfl
                 have hq:=HRQ.out
                 rw [hmw2,if_neg (by simp)] at hq
                 simp only at hq
                 have HQ:=Lib.hid hq
                 obtain ⟨M',hM'⟩:∃ M':Mp,M' = { M with rest:=Rf }:=⟨_,rfl⟩
                 have hsr:=HSR.out.tch htch (fun k hk e => by omega)
                 have hbl2:BlkAt (wr.setCell ⟨bm,23,none⟩ (.slice Ar RN cr)) bm 35 (mvs M' (.slice dA M'.d.length dc) (.slice tA M'.t.length tc) (.slice Ar M'.rest.len cr)):=by
                  have:=hbl.put 23 (.slice Ar RN cr)
                  rw [hM']
                  rw [HRN.out] at this ⊢
                  exact this
                 have htp:Tch (fun k => k=bm) wr (wr.setCell ⟨bm,23,none⟩ (.slice Ar RN cr)):=(Tch.refl (fun k => k=bm) wr).put (p:=⟨bm,23,none⟩) (fun _ => rfl) _
                 have hmg2:MgN w7.heap.size (wr.setCell ⟨bm,23,none⟩ (.slice Ar RN cr)) M' (.slice dA M'.d.length dc) (.slice tA M'.t.length tc) (.slice Ar M'.rest.len cr):=by
                  have h1:=(hmg.tch htp fun k hk e => by omega).mono (C:=w7.heap.size) (by omega)
                  have h2:=hsr.tch htp fun k hk e => by omega
                  rw [hM']
                  exact ⟨h1.1,h1.2.1,h2⟩
                 have hmz2:Msz M':=by
                  rw [hM']
                  exact msz_of hMok.kind hMok.may hMok.good HRF.out.1 HRF.out.2.1 HRF.out.2.2
                 have hss:(wr.setCell ⟨bm,23,none⟩ (.slice Ar RN cr)).heap.size=wr.heap.size:=by simp [World.setCell]
                 have hS9:w8.heap.size≤wr.heap.size:=htch.size
                 have hc23:wr.cell? ⟨bm,23,none⟩=some (.slice rA M.rest.len rc):=hbl.cell 23
                 have hf23:=hbl.free 23
                 have hlb:=hbl.lt
                 have hBw:Below w.heap.size w (wr.setCell ⟨bm,23,none⟩ (.slice Ar RN cr)):=(HB2a.out.trans (hBwr.mono HB2a.out.size)).setCell (by show w.heap.size≤bm;omega) _
                 have HR10:Hid (BlkAt (wr.setCell ⟨bm,23,none⟩ (.slice Ar RN cr)) w.heap.size 35 zmvs):=hrr.far (by show w.heap.size≠bm;omega) _
                 have HCK:=Lib.hid (mcheck_any v h1 h3 _ hmg2.v hmz2 (HT.out.below hBw))
                 have HM10:=Lib.hid hbl2
                 have HG10:=Lib.hid hmg2
                 have HB10:=Lib.hid hBw
                 rw [← hM'] at HQ
                 clear hmw2 hq hM' hsr hbl2 htp hmg2 hmz2 hBw hMok hMr hMk hmw hbl hmg htch hBwr hrr HS HW0
                 go_wp2_with
                  (first | (with_reducible show wpList _ _ _ (Oper.mk _ (Op.load 35 _) _ _ _ _ :: _) _ _;refine wpList_load_blk rfl _ _ rfl _ rfl _ HM10.out Tryz.underlying35 rfl (info_msg _ _ _ _) ?_) | (with_reducible show wpList _ _ _ (Oper.mk _ (Op.store 35 _ _) _ _ _ _ :: _) _ _;apply pin))
                 refine HCK.out.mono ?_
                 rintro e w11 ⟨rfl,hb11⟩
                 have HM11:=Lib.hid (HM10.out.below hb11 HM10.out.lt)
                 have HR11:=Lib.hid (HR10.out.below hb11 HR10.out.lt)
                 have HB11:=Lib.hid (bb HB10.out hb11)
                 have HG11:=Lib.hid (HG10.out.below hb11)
                 clear hb11 HM10 HR10 HB10 HG10 HCK hc23 hf23 hss
                 by_cases hck:mcheck M' v=0
                 · have hq:=HQ.out
                   rw [if_neg (by simpa using hck)] at hq
                   have HQ2:Hid (R=(M',0)):=hq
                   rw [hck]
                   clear hq HQ hck
                   go_wp2_with
                    (first | (with_reducible show wpList _ _ _ (Oper.mk _ (Op.load 35 _) _ _ _ _ :: _) _ _;refine wpList_load_blk rfl _ _ rfl _ rfl _ HM11.out Tryz.underlying35 rfl (info_msg _ _ _ _) ?_) | (with_reducible show wpList _ _ _ (Oper.mk _ (Op.store 35 _ _) _ _ _ _ :: _) _ _;apply pin))
                   refine wpList_store_blk rfl _ _ _ rfl _ _ rfl rfl HR11.out rfl (info_msg _ _ _ _) mvs_one ?_
                   simp only [Act.put]
                   go_wp2_with fail
                   refine bodyPost_ret (v:=.tuple #[.agg (mvs M' (.slice dA M'.d.length dc) (.slice tA M'.t.length tc) (.slice Ar M'.rest.len cr)),.int .i64 0]) (by exact results_blk_tmp rfl _ _ w.heap.size 35 _ _ (.int .i64 0) rfl (putAll_at HR11.out rfl) Tryz.underlying35 rfl (info_msg _ _ _ _) rfl) rfl ?_
                   have hpa:=putAll_tch w11 w.heap.size (mvs M' (.slice dA M'.d.length dc) (.slice tA M'.t.length tc) (.slice Ar M'.rest.len cr))
                   rw [HQ2.out]
                   exact ⟨_,_,_,rfl,(HG11.out.tch hpa fun k hk e => by omega).mono (by omega),HB11.out.trans (hpa.toBelowB HB11.out.size fun g hg e => by omega)⟩
                 · have hq:=HQ.out
                   rw [if_pos (by simpa using hck)] at hq
                   have HQ2:Hid (R=(m0,mcheck M' v)):=hq
                   have hckb:(mcheck M' v == 0)=false:=by rw [beq_eq_false_iff_ne];exact hck
                   clear hq HQ
                   generalize mcheck M' v=CK at *
                   go_wp2_with
                    (with_reducible show wpList _ _ _ (Oper.mk _ (Op.store 35 _ _) _ _ _ _ :: _) _ _;apply pin)
                   refine wpList_store_blk rfl _ _ _ rfl _ zmvs rfl rfl HR11.out rfl (info_msg m0 (.slice none 0 0) (.slice none 0 0) (.slice none 0 0)) zmvs_one ?_
                   simp only [Act.put]
                   go_wp2_with fail
                   refine bodyPost_ret (v:=.tuple #[.agg zmvs,.int .i64 (CK)]) (by exact results_blk_tmp rfl _ _ w.heap.size 35 _ _ (.int .i64 (CK)) rfl (putAll_at HR11.out rfl) Tryz.underlying35 rfl (info_msg m0 (.slice none 0 0) (.slice none 0 0) (.slice none 0 0)) rfl) rfl ?_
                   exact DecEnd.bad HQ2.out ((HB11.out).trans ((putAll_tch _ w.heap.size zmvs).toBelowB (HB11.out).size fun g hg e => by omega))
         · have hq:=HD4.out
           rw [if_pos hgc] at hq
           have hgb:((GC:Int) == 0)=false:=by rw [beq_eq_false_iff_ne];omega
           clear HD4 HFC HCT HSL hgc
           generalize GF.len=GL at *
           go_wp2_with
            (with_reducible show wpList _ _ _ (Oper.mk _ (Op.store 35 _ _) _ _ _ _ :: _) _ _;apply pin)
           refine wpList_store_blk rfl _ _ _ rfl _ zmvs rfl rfl HR3.out rfl (info_msg m0 (.slice none 0 0) (.slice none 0 0) (.slice none 0 0)) zmvs_one ?_
           simp only [Act.put]
           go_wp2_with fail
           refine bodyPost_ret (v:=.tuple #[.agg zmvs,.int .i64 (GC:Int)]) (by exact results_blk_tmp rfl _ _ w.heap.size 35 _ _ (.int .i64 (GC:Int)) rfl (putAll_at HR3.out rfl) Tryz.underlying35 rfl (info_msg m0 (.slice none 0 0) (.slice none 0 0) (.slice none 0 0)) rfl) rfl ?_
           exact DecEnd.bad hq ((HB3.out).trans ((putAll_tch _ w.heap.size zmvs).toBelowB (HB3.out).size fun g hg e => by omega))
     · have hk8:kind8 n=0:=by unfold kind8;rw [if_neg hn8]
       have hq:=HD3.out
       rw [hk8,if_pos (show kfrom 0=0∨v < kfrom 0 from Or.inl rfl)] at hq
       have hn8i:¬ (n:Int)≤8:=by omega
       have HFR:Hid (∀ x,Calls Tryz.prog 37 #[.int .i64 0] x fun e w' => e=.returned (.int .i64 0)∧Below x.heap.size x w'):=fun x => from17 0 x (by unfold InI64;decide)
       clear hk8 HD3
       go_wp2_with fail
       refine (HFR.out _).mono ?_
       rintro e w2 ⟨rfl,hb2⟩
       have HB2:=Lib.hid (bb HB1.out hb2)
       have HR2:=Lib.hid (HR1.out.below hb2 HR1.out.lt)
       clear hb2 HFR HB1 HR1
       go_wp2_with
        (with_reducible show wpList _ _ _ (Oper.mk _ (Op.store 35 _ _) _ _ _ _ :: _) _ _;apply pin)
       refine wpList_store_blk rfl _ _ _ rfl _ zmvs rfl rfl HR2.out rfl (info_msg m0 (.slice none 0 0) (.slice none 0 0) (.slice none 0 0)) zmvs_one ?_
       simp only [Act.put]
       go_wp2_with fail
       refine bodyPost_ret (v:=.tuple #[.agg zmvs,.int .i64 (15)]) (by exact results_blk_tmp rfl _ _ w.heap.size 35 _ _ (.int .i64 (15)) rfl (putAll_at HR2.out rfl) Tryz.underlying35 rfl (info_msg m0 (.slice none 0 0) (.slice none 0 0) (.slice none 0 0)) rfl) rfl ?_
       exact DecEnd.bad hq ((HB2.out).trans ((putAll_tch _ w.heap.size zmvs).toBelowB (HB2.out).size fun g hg e => by omega))
   · have hq:=HD2.out
     rw [if_pos hec] at hq
     have hecb:((ec:Int) == 0)=false:=by rw [beq_eq_false_iff_ne];omega
     clear HD2 hvc HV hec
     go_wp2_with
      (with_reducible show wpList _ _ _ (Oper.mk _ (Op.store 35 _ _) _ _ _ _ :: _) _ _;apply pin)
     refine wpList_store_blk rfl _ _ _ rfl _ zmvs rfl rfl HR1.out rfl (info_msg m0 (.slice none 0 0) (.slice none 0 0) (.slice none 0 0)) zmvs_one ?_
     simp only [Act.put]
     go_wp2_with fail
     refine bodyPost_ret (v:=.tuple #[.agg zmvs,.int .i64 (ec:Int)]) (by exact results_blk_tmp rfl _ _ w.heap.size 35 _ _ (.int .i64 (ec:Int)) rfl (putAll_at HR1.out rfl) Tryz.underlying35 rfl (info_msg m0 (.slice none 0 0) (.slice none 0 0) (.slice none 0 0)) rfl) rfl ?_
     exact DecEnd.bad hq ((HB1.out).trans ((putAll_tch _ w.heap.size zmvs).toBelowB (HB1.out).size fun g hg e => by omega))
end Go.Proofs.YtgidfnhfgiehjaaGreatDoor
end

section
namespace Go.Proofs.YtgidfnhfgiehjaaGreatDoor
open Go.RowKit Go.PM
def e18:Mp:={ m0 with kind:=7 }
def e18b:Mp:={ m0 with kind:=7,lag:=3 }
def e19:Mp:={ m0 with kind:=7,epoch:=7 }
def e20:Mp:={ m0 with kind:=1,min_:=1,max_:=2,rg:=[101,117] }
def e20r:Mp:={ m0 with kind:=1,min_:=1,max_:=2,rest:=.cons 4 1 0 (txt [101,117]) .nil .nil }
theorem ex18a:mcheck e18 1=0:=by decide
theorem ex18b:mcheck e18b 2=26:=by decide
theorem ex18c:mcheck e18b 3=0:=by decide
theorem fput_of {f:Fs} {l:List UInt8} (h1:fcheck f 0 0=0) (h2:ftx f=l) (h3:l.length≤65536):fput f=(l,0):=by
 unfold fput
 rw [if_neg (by rw [h1];simp),h2,if_neg (by omega)]
theorem mencode_of {m:Mp} {v:Nat} {F:Fs} {l:List UInt8} (h0:mfields m v=(F,0)) (h1:fput F=(l,0)) (hk:knat m.kind < 128) (hl:l.length≤60000):mencode m v=(UInt8.ofNat (knat m.kind) :: l,0):=by
 unfold mencode
 rw [h0]
 simp only
 rw [if_neg (by simp),h1]
 simp only
 rw [if_neg (by simp),vput_small hk,if_neg (by simp;omega)]
 rfl
theorem mfields_of {m:Mp} {v:Nat} {F:Fs} (h0:mcheck m v=0) (h1:fmerge [mknown m (kknown (knat m.kind) v),m.rest]=(F,0)):mfields m v=(F,0):=by
 unfold mfields
 rw [if_neg (by rw [h0];simp),h1]
 rfl
def f19:Fs:=.cons 1 0 7 (txt []) .nil .nil
def f20:Fs:=.cons 1 0 1 (txt []) .nil (.cons 2 0 2 (txt []) .nil (.cons 4 1 0 (txt [101,117]) .nil .nil))
theorem ftx19:ftx f19=[4,7]:=by
 simp only [f19,ftx,if_true]
 rw [vput_small (by decide),vput_small (by decide)]
 rfl
theorem ftx20:ftx f20=[4,1,8,2,17,2,101,117]:=by
 simp only [f20,ftx,if_true,show ¬ (1:Int)=0 by decide,if_false]
 rw [vput_small (by decide),vput_small (by decide),vput_small (by decide),vput_small (by decide),vput_small (by decide),vput_small (by decide)]
 rfl
theorem ex19c:mcheck e19 1=0:=by decide
theorem ex19:mencode e19 1=([7,4,7],0):=mencode_of (F:=f19) (l:=[4,7]) (mfields_of ex19c rfl) (fput_of (by decide) ftx19 (by decide)) (by decide) (by decide)
theorem mmay_of {m:Mp}:∀ {l:List Sp},(∀ s ∈ l,(m.val (six s)).may=0)→mmay m l=0
 | [],_ => rfl
 | a :: r,h => by
   rw [mmay,if_neg (by rw [h a List.mem_cons_self];simp)]
   exact mmay_of fun s hs => h s (List.mem_cons_of_mem _ hs)
theorem uchk_eu:uchk [101,117] 0 256=0:=by
 unfold uchk
 rw [if_neg (by decide),if_pos (by rw [ugood_step (by decide)];show ugood [117]=true;rw [ugood_step (by decide)];exact ugood_nil)]
theorem known12:kknown 1 2=[⟨1,0,1,nmAt 13⟩,⟨2,0,1,nmAt 12⟩,⟨3,3,1,nmAt 14⟩,⟨4,3,2,nmAt 17⟩]:=rfl
theorem known11:kknown 1 1=[⟨1,0,1,nmAt 13⟩,⟨2,0,1,nmAt 12⟩,⟨3,3,1,nmAt 14⟩]:=rfl
theorem ex20m:mmay e20 (kknown 1 2)=0:=mmay_of fun s hs => by
 rw [known12] at hs
 simp only [List.mem_cons,List.not_mem_nil,or_false] at hs
 rcases hs with rfl | rfl | rfl | rfl
 · rfl
 · rfl
 · exact uchk_nil
 · exact uchk_eu
theorem mcheck_of {m:Mp} {v k:Nat} (hk:knat m.kind=k) (h1:kfrom k≠0) (h2:kfrom k≤v) (h3:mstray m (kknown k v)=false) (h4:mmay m (kknown k v)=0) (h5:m.bounds=0) (h6:fcheck m.rest 0 0=0) (h7:m.rest.toL.any (fun f => decide (f.tag ∈ ktags k v))=false):mcheck m v=0:=by
 unfold mcheck
 rw [hk,if_neg (by omega),if_neg (by rw [h3];simp),if_neg (by rw [h4];simp),if_neg (by rw [h5];simp),if_neg (by rw [h6];simp),if_neg (by rw [h7];simp)]
theorem ex20c:mcheck e20 2=0:=mcheck_of (k:=1) rfl (by decide) (by decide) (by decide) ex20m (by decide) rfl rfl
theorem ex20:mencode e20 2=([1,4,1,8,2,17,2,101,117],0):=mencode_of (F:=f20) (l:=[4,1,8,2,17,2,101,117]) (mfields_of ex20c rfl) (fput_of (by decide) ftx20 (by decide)) (by decide) (by decide)
theorem ex20rm:mmay e20r (kknown 1 1)=0:=mmay_of fun s hs => by
 rw [known11] at hs
 simp only [List.mem_cons,List.not_mem_nil,or_false] at hs
 rcases hs with rfl | rfl | rfl
 · rfl
 · rfl
 · exact uchk_nil
theorem ex20rc:mcheck e20r 1=0:=mcheck_of (k:=1) rfl (by decide) (by decide) (by decide) ex20rm (by decide) (by decide) (by decide)
theorem f20_kd:f20.All FKd:=by
 simp only [f20,Fs.All,FKd,In64,InI64,txt_size]
 decide
theorem ex20w:mwiths (kknown 1 1) { m0 with kind:=((1:Nat):Int) } (fpick (ktags 1 1) true f20).toL=({ m0 with kind:=1,min_:=1,max_:=2 },0):=by rfl
theorem ex20d:mdecode [1,4,1,8,2,17,2,101,117] 1=(e20r,0):=by
 unfold mdecode
 rw [if_neg (by decide),show vget [1,4,1,8,2,17,2,101,117]=(1,1,0) by decide]
 simp only
 rw [if_neg (by simp),if_neg (by decide)]
 have h:=fgets_text f20_kd (by decide) (by rw [ftx20];decide)
 rw [ftx20] at h
 rw [show List.drop 1 [(1:UInt8),4,1,8,2,17,2,101,117]=[4,1,8,2,17,2,101,117] from rfl,h]
 simp only
 rw [if_neg (by simp)]
 unfold mread
 rw [show kind8 1=1 from rfl,ex20w]
 simp only
 rw [if_neg (by simp)]
 have e:({ m0 with kind:=1,min_:=1,max_:=2,rest:=fpick (ktags 1 1) false f20 }:Mp)=e20r:=rfl
 rw [e,if_neg (by rw [ex20rc];simp)]
end Go.Proofs.YtgidfnhfgiehjaaGreatDoor
end

section
namespace Go.Proofs.YtgidfnhfgiehjaaGreatDoor
open Go.RowKit Go.PM Go.Sort
set_option maxRecDepth 100000
set_option maxHeartbeats 4000000
attribute [local go_sem ↓] Go.wp_at_zero Go.wp_at_succ
instance:Inhabited Rv:=⟨⟨[],none,0,0⟩⟩
def encK (r:Rv):List Value:=[.slice r.A r.d.length r.c,.int .u64 (r.n:Int),.string (txt (dkey r.d))]
def keyLess (x y:Rv):Bool:=Op.bytesLess (txt (dkey x.d)).toList (txt (dkey y.d)).toList
noncomputable def svT13:TypeInfo:=(Tryz.prog.info? 331).get (by kernel_rfl)
noncomputable def svE13:TypeInfo:=(Tryz.prog.info? 333).get (by kernel_rfl)
theorem svK13 (n:Nat) (h2:2≤n):Lib.swapperK n svE13 25=9:=by
 have a:svE13.hasPointers=true:=by kernel_rfl
 have b:svE13.bytes=48:=by kernel_rfl
 have c:(n == 0)=false:=by simp;omega
 have d:(n == 1)=false:=by simp;omega
 simp [Lib.swapperK,a,b,c,d]
theorem ins_two (x y:Rv) (h:keyLess y x=true):insertionSort keyLess #[x,y] 0 2=#[y,x]:=by
 unfold insertionSort
 rw [insOuter,insOuter]
 simp [insInner,h]
 rfl
theorem sort13_two {w:World} {base g cap R:Nat} {x y:Rv} (hown:w.ownsRow base 333 3 (.slice (some ⟨g,0,none⟩) 2 cap) 2 ([x,y].flatMap encK)) (hR:w.cell? ⟨R,0,none⟩=some (.slice (some ⟨g,0,none⟩) 2 cap)) (hne:R≠g) (hRl:R < w.heap.size) (hlt:keyLess y x=true) :
 Calls Tryz.prog 260 #[.iface 331 (.slice (some ⟨g,0,none⟩) 2 cap),.func (.func 261) #[] #[.pointer (some ⟨R,0,none⟩)]] w fun e w' => e=.returned (.tuple #[])∧w'.ownsRow base 333 3 (.slice (some ⟨g,0,none⟩) 2 cap) 2 ([y,x].flatMap encK)∧w.grownBy w' (some g):=by
 obtain ⟨hH,hg,hbg⟩:=holdsK_own (enc:=encK) (k:=3) (fun _ => rfl) (by decide) #[x,y] rfl hown (by simp)
 have hless:LessReadsK Tryz.prog 261 #[.pointer (some ⟨R,0,none⟩)] encK 3 keyLess g 0 2 w:=by
  intro m os dk hs i j hi hj
  have ho:=own_sortedK (enc:=encK) (m:=m) (os:=os) (fun _ => rfl) (by decide) dk hs hown
  have hgr:=grownBy_sortedK (enc:=encK) (k:=3) (w:=w) (g:=g) (m:=m) (os:=os) dk
  have hRc:(sortWorldK encK 3 w g 0 m dk os).cell? ⟨R,0,none⟩=some (.slice (some ⟨g,0,none⟩) 2 cap):=(World.cell?_of_block (a:=⟨R,0,none⟩) (hgr.block R hRl (by intro e;injection e with e;exact hne e))).trans hR
  obtain ⟨hH2,_,_⟩:=holdsK_own (enc:=encK) (k:=3) (fun _ => rfl) (by decide) dk hs ho rfl
  have ci:=(hH2.cell (i:=i) (c:=2) (by omega) (by omega)).1
  have cj:=(hH2.cell (i:=j) (c:=2) (by omega) (by omega)).1
  rw [Nat.zero_add] at ci cj
  exact less13_any R g 2 cap i j _ _ _ hRc hi hj ci cj
 have hS:=Any.sort_Slice_small_cells (ρ:=Tryz.laysGg6_ren) Tryz.laysGg6 331 333 svT13 svE13 (by kernel_rfl) (by kernel_rfl) (by kernel_rfl) (by kernel_rfl) 25 (fun _ => by kernel_rfl) encK 3 (fun _ => rfl) (by kernel_rfl) (fun _ => by kernel_rfl)
  (fun x v hv => by simp [encK] at hv;rcases hv with rfl | rfl | rfl <;> rfl) keyLess 261 _
  (enters_of Tryz.func261 (by kernel_rfl) rfl) g 0 cap #[x,y] (by simp) (by simp) 278 (by rw [svK13 _ (by simp)];kernel_rfl) false
  (fun args W => run_callFunc_extern Tryz.func278 (by kernel_rfl) (by kernel_rfl) (by kernel_rfl) (e:=Extern.ReflectliteSwapper.swap false) (by kernel_rfl) args W) w hless hH hg
 change Calls Tryz.prog 260 _ _ _ at hS
 refine hS.mono ?_
 rintro e w' ⟨rfl,n,os,rfl⟩
 rw [show (#[x,y]:Array Rv).size=2 from rfl,ins_two x y hlt]
 exact ⟨rfl,own_sortedK (enc:=encK) (m:=n) (os:=os) (fun _ => rfl) (by decide) #[y,x] rfl hown,grownBy_sortedK (enc:=encK) (k:=3) (w:=w) (g:=g) (m:=n) (os:=os) #[y,x]⟩
end Go.Proofs.YtgidfnhfgiehjaaGreatDoor
end
