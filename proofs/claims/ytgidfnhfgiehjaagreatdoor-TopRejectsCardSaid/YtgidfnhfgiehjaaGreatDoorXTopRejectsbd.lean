/-
  Texts of the proof, joined: TopR. Conditions: as each names.
-/
import Derived.Test.YtgidfnhfgiehjaaGreatDoorXTopRejectsba
import Derived.Test.YtgidfnhfgiehjaaGreatDoorXTopRejectsbc

section
namespace Go.Proofs.YtgidfnhfgiehjaaGreatDoor
open Go.RowKit Go.PM
set_option maxRecDepth 100000
set_option maxHeartbeats 4000000
attribute [local go_sem ↓] Go.wp_at_zero Go.wp_at_succ
theorem conv2 {w:World} {g k:Nat} (h:BlkAt w g 5 #[.int .u8 ((k:Int)+128),.int .u8 0]) (hk:k≤8):(convert 42 9 (.slice (some ⟨g,0,none⟩) 2 2)).run Tryz.prog w=.ok (.string (txt [UInt8.ofNat (k+128),0])) w :=
 run_row_string w 42 9 5 g 2 2 #[.int .u8 ((k:Int)+128),.int .u8 0] [UInt8.ofNat (k+128),0] Tryz.underlying42 Tryz.underlying5 Tryz.underlying9 h rfl (by
  have h1:(UInt8.ofNat (k+128)).toNat=k+128:=by rw [UInt8.toNat_ofNat'];omega
  simp only [bvals,List.length_cons,List.length_nil,List.map_cons,List.map_nil,h1]
  rfl)
theorem rest_first {G:Prop} (F:World→Prop) (R:Value→Value→Array Value→World→Prop) (h2:(∀ p q cs w,F w→R p q cs w)→G) (h1:∀ p q cs w,F w→R p q cs w):G:=h2 h1
def DpAt (w:World) (D k:Nat) (wr:World):Prop:=∃ A c,BlkAt wr D 47 #[.int .u64 4294967296,.int .i64 2,.int .u64 0,.string ByteArray.empty,.slice A (deepI k).len c]∧SlV wr (fun q => q≠D) (.slice A (deepI k).len c) (deepI k)∧Below w.heap.size w wr
theorem info_fld5:(Tryz.prog.info? 47).map (·.size)=some 5:=by kernel_rfl
theorem rejects_walk {m:Mp} {dv tv:Value} {oA:Option Addr} {oc:Nat} {ol:List One} (n:Nat) (w:World) (hT:Tabs w) (hv:RawV w m dv tv) (hz:RawSz m) (hr:OnesRd w.heap.size w oA ol) (hok:∀ x ∈ ol,x.ok) (hlc:ol.length≤oc) (hcm:oc≤maxLen) (hn:n < 256) :
 Calls Tryz.prog 3 #[.agg (mvs m dv tv (.slice oA ol.length oc)),.int .u8 (n:Int)] w fun e w' => e=.returned (.bool true)∧Below w.heap.size w w':=by
 have HFW:Hid (∀ x,Below w.heap.size w x→Calls Tryz.prog 9 #[.agg (mvs m dv tv (.slice oA ol.length oc))] x (FewEnd x m ol)):=fun x hx => rawfew w.heap.size x (hT.below hx) (hv.below hx) hz (hr.below hx) hok hlc hcm
 have HMK:Hid (RawFew m ol→∀ x,Below w.heap.size w x→Calls Tryz.prog 10 #[.agg (mvs m dv tv (.slice oA ol.length oc))] x (MadeEnd x m ol)):=fun hfw x hx => made18 w.heap.size x hx.size (hv.below hx) hz hfw (hr.below hx) hok hlc hcm
 have hr3:n % 3 < 3:=Nat.mod_lt _ (by omega)
 have hwm:(n:Int) % 3=((n % 3:Nat):Int):=by simp
 have hvi:((n % 3+1:Nat):Int)=((n % 3:Nat):Int)+1:=by omega
 have HEN:Hid (∀ M dv tv rv x,Below w.heap.size w x→Msz M→MgV x (fun _ => True) M dv tv rv→Calls Tryz.prog 11 #[.agg (mvs M dv tv rv),.int .i64 (((n % 3:Nat):Int)+1)] x (TxEnd x (mencode M (n % 3+1)))):=fun M dv tv rv x hx hM hV => by
  have:=encode19 (n % 3+1) (by omega) (by omega) x hV hM (hT.below hx)
  rw [hvi] at this
  exact this
 have HFI:Hid (∀ M dv tv rv x,Below w.heap.size w x→Msz M→MgV x (fun _ => True) M dv tv rv→Calls Tryz.prog 13 #[.agg (mvs M dv tv rv),.int .i64 (((n % 3:Nat):Int)+1)] x (FldEnd x (mfields M (n % 3+1)))):=fun M dv tv rv x hx hM hV => by
  have:=fields19 (n % 3+1) (by omega) (by omega) x hV hM (hT.below hx)
  rw [hvi] at this
  exact this
 have HDE:Hid (∀ s x,Below w.heap.size w x→s.length≤1000000→Calls Tryz.prog 12 #[.string (txt s),.int .i64 (((n % 3:Nat):Int)+1)] x (DecEnd x (mdecode s (n % 3+1)))):=fun s x hx hs => by
  have:=decode19 (n % 3+1) (by omega) (by omega) (txt s) (by rw [txt_size];exact hs) x (hT.below hx)
  rw [hvi,txt_list] at this
  exact this
 have HD3:=Lib.hid (rej_three (n % 3+1) (by omega) (by omega))
 obtain ⟨dA,dc,tA,tc,rfl,rfl⟩:=hv.slices
 have HM:Hid (BlkAt (w.alloc (.cells (mvs m (.slice dA m.d.length dc) (.slice tA m.t.length tc) (.slice oA ol.length oc)) 31)) w.heap.size 31 (mvs m (.slice dA m.d.length dc) (.slice tA m.t.length tc) (.slice oA ol.length oc))):=BlkAt.made w 31 (mvs m (.slice dA m.d.length dc) (.slice tA m.t.length tc) (.slice oA ol.length oc))
 have HBM:=Lib.hid (ba (a:=w) b0 (.cells (mvs m (.slice dA m.d.length dc) (.slice tA m.t.length tc) (.slice oA ol.length oc)) 31))
 obtain ⟨wz,hwz⟩:∃ wz,wz=w.alloc (.cells (mvs m (.slice dA m.d.length dc) (.slice tA m.t.length tc) (.slice oA ol.length oc)) 31):=⟨_,rfl⟩
 rw [← hwz] at HM HBM
 have HA:=Lib.hid (alive20 wz (hT.below HBM.out))
 clear hT hv hz hr hok hlc hcm hvi
 generalize n % 3=r at *
 have hwr:IntKind.i64.wrap ((r:Int)+1)=(r:Int)+1:=by rw [IntKind.wrap_i64];omega
 simp only [mvs] at hwz
 show Calls _ _ #[.agg #[.int .i64 m.kind,.int .u64 (m.id:Int),.int .u64 (m.min_:Int),.int .u64 (m.max_:Int),.int .u64 (m.chosen:Int),.int .u64 (m.flags:Int),.int .u64 (m.cost:Int),.int .u64 (m.prio:Int),.int .u64 (m.dead:Int),.int .u64 (m.retry:Int),.int .u64 (m.epoch:Int),.int .u64 (m.base:Int),.int .u64 (m.digest:Int),.int .u64 (m.lag:Int),.int .u64 (m.code:Int),.int .u64 (m.want:Int),.int .i64 m.rem,.bool m.al,.string (txt m.nm),.string (txt m.rg),.string (txt m.nt),.slice dA m.d.length dc,.slice tA m.t.length tc,.slice oA ol.length oc],.int .u8 (n:Int)] _ _
 go_enter Tryz.func3,Tryz.ntmps3
 go_wp2_with fail
 rw [← hwz]
 refine HA.out.mono ?_
 rintro e w1 ⟨rfl,hb1⟩
 have HB1:=Lib.hid (bb HBM.out hb1)
 have HR1:=Lib.hid (HM.out.below hb1 HM.out.lt)
 clear hb1 HA HBM HM hwz
 go_wp2_with
  (with_reducible show wpList _ _ _ (Oper.mk _ (Op.load 31 _) _ _ _ _ :: _) _ _;apply pin)
 refine wpList_load_blk rfl _ _ rfl _ rfl _ HR1.out Tryz.underlying31 rfl (info_raw m _ _ _) ?_
 go_wp2_with fail
 refine (HFW.out _ HB1.out).mono ?_
 rintro e w2 ⟨⟨F,rfl,hF⟩,hb2⟩
 have HB2:=Lib.hid (bb HB1.out hb2)
 have HR2:=Lib.hid (HR1.out.below hb2 HR1.out.lt)
 have HF:=Lib.hid hF
 clear hb2 hF HB1 HR1 HFW
 cases F with
 | false =>
   clear HF
   go_wp2_with fail
   go_ret
   exact ⟨rfl,HB2.out⟩
 | true =>
   have HMK2:=Lib.hid (HMK.out (HF.out rfl))
   clear HF HMK
   go_wp2_with
    (with_reducible show wpList _ _ _ (Oper.mk _ (Op.load 31 _) _ _ _ _ :: _) _ _;apply pin)
   refine wpList_load_blk rfl _ _ rfl _ rfl _ HR2.out Tryz.underlying31 rfl (info_raw m _ _ _) ?_
   go_wp2_with fail
   refine (HMK2.out _ HB2.out).mono ?_
   rintro e w3 ⟨M,dv,tv,rv,rfl,hsz,hM,hcnt,hall,hmg,hb3⟩
   have HB3:=Lib.hid (bb HB2.out hb3)
   have HSZ:=Lib.hid hsz
   clear hb3 hM hcnt hall hsz HB2 HR2 HMK2
   obtain ⟨dA1,dc1,tA1,tc1,rA1,rc1,rfl,rfl,rfl⟩:=hmg.slices
   have hm1:=BlkAt.made w3 35 zmvs
   have hm2:=putAll_at (ds:=mvs M (.slice dA1 M.d.length dc1) (.slice tA1 M.t.length tc1) (.slice rA1 M.rest.len rc1)) hm1 rfl
   have hb1:Below w3.heap.size w3 (World.putAll (w3.alloc (.cells zmvs 35)) w3.heap.size (mvs M (.slice dA1 M.d.length dc1) (.slice tA1 M.t.length tc1) (.slice rA1 M.rest.len rc1))) :=
    (ba (a:=w3) b0 (.cells zmvs 35)).trans ((putAll_tch _ w3.heap.size _).toBelowB (by simp) fun g hg e => by omega)
   obtain ⟨w4,hwv⟩:∃ wv,wv=World.putAll (w3.alloc (.cells zmvs 35)) w3.heap.size (mvs M (.slice dA1 M.d.length dc1) (.slice tA1 M.t.length tc1) (.slice rA1 M.rest.len rc1)):=⟨_,rfl⟩
   rw [← hwv] at hm2 hb1
   have HM1:=Lib.hid hm1
   have HX1:=Lib.hid hm2
   have HBT1:=Lib.hid hb1
   have HV1:=Lib.hid (hmg.below hb1)
   simp only [zmvs] at HM1 hwv
   clear hm1 hm2 hb1 hmg
   go_wp2_with
    (with_reducible show wpList _ _ _ (Oper.mk _ (Op.store 35 _ _) _ _ _ _ :: _) _ _;apply pin)
   refine wpList_store_blk rfl _ _ _ rfl _ (mvs M (.slice dA1 M.d.length dc1) (.slice tA1 M.t.length tc1) (.slice rA1 M.rest.len rc1)) rfl rfl HM1.out rfl (info_msg _ _ _ _) mvs_one ?_
   rw [← hwv]
   clear hwv HM1
   simp only [Act.put]
   have HB4:=Lib.hid (bb HB3.out HBT1.out)
   clear HBT1 HB3
   go_wp2_with
    (with_reducible show wpList _ _ _ (Oper.mk _ (Op.load 35 _) _ _ _ _ :: _) _ _;apply pin)
   refine wpList_load_blk_w (by rfl) _ _ rfl _ rfl _ HX1.out Tryz.underlying35 rfl (info_msg _ _ _ _) ?_
   go_wp2_with fail
   refine (HEN.out M _ _ _ _ HB4.out HSZ.out HV1.out).mono ?_
   rintro e w5 ⟨rfl,hb5⟩
   have HB5:=Lib.hid (bb HB4.out hb5)
   have HX2:=Lib.hid (HX1.out.below hb5 HX1.out.lt)
   have HV2:=Lib.hid (HV1.out.below hb5)
   have hHRJ:=rej_all (v:=r+1) HSZ.out
   have hff:mfields M (r+1)=((mfields M (r+1)).1,(mfields M (r+1)).2):=rfl
   have HFI2:=Lib.hid (fun dv tv rv x (hx:Below w.heap.size w x) (hV:MgV x (fun _ => True) M dv tv rv) => HFI.out M dv tv rv x hx HSZ.out hV)
   clear hb5 HB4 HX1 HV1 HEN HFI HSZ
   generalize mencode M (r+1)=X at *
   generalize mfields M (r+1)=Y at *
   obtain ⟨S,E⟩:=X
   obtain ⟨F,E2⟩:=Y
   simp only at hHRJ HFI2 ⊢
   have HRJ:=Lib.hid hHRJ
   clear hHRJ hff
   have hsz5:=txt_size S
   by_cases hE:E=0
   · subst hE
     by_cases hL:60000 < S.length
     · have hi:(60000:Int) < ((txt S).size:Int):=by omega
       clear hL HRJ HFI2 HDE HD3 HX2 HV2
       go_wp2_with fail
       go_ret
       exact ⟨rfl,HB5.out⟩
     · have hi:¬ (60000:Int) < ((txt S).size:Int):=by omega
       obtain ⟨T,k,hrj,rfl⟩:=HRJ.out rfl (by omega)
       have HRW:=Lib.hid hrj
       obtain ⟨Z0,hZ0⟩:∃ Z0,Z0=txt (S++[0]):=⟨_,rfl⟩
       have hadd0:∀ x:World,(Op.stringOp .add (txt S) ⟨#[0]⟩).run Tryz.prog x=.ok (.string Z0) x:=fun x => by
        rw [hZ0,← show txt S++⟨#[0]⟩=txt (S++[0]) from by apply ByteArray.ext;simp [txt,ByteArray.data_append]]
        exact run_string_add_sum x _ _ (by simp [txt,ByteArray.size];omega)
       have HD0:=Lib.hid (fun x (hx:Below w.heap.size w x) => HDE.out (S++[0]) x hx (by rw [List.length_append];simp;omega))
       rw [← hZ0] at HD0
       have hq0:=HRW.out.z
       generalize mdecode (S++[0]) (r+1)=Q0 at HD0 hq0
       obtain ⟨M0,E0⟩:=Q0
       simp only at hq0
       subst hq0
       clear hZ0 hrj HRJ
       go_wp2_with fail
       refine (HD0.out _ HB5.out).mono ?_
       rintro e w6 ⟨dv,tv,rv,rfl,hmg,hb6⟩
       have HB6:=Lib.hid (bb HB5.out hb6)
       have HX3:=Lib.hid (HX2.out.below hb6 HX2.out.lt)
       have HV3:=Lib.hid (HV2.out.below hb6)
       clear hb6 HB5 HX2 HV2 HD0 hadd0
       obtain ⟨dA2,dc2,tA2,tc2,rA2,rc2,rfl,rfl,rfl⟩:=hmg.slices
       have hm1:=BlkAt.made w6 35 zmvs
       have hm2:=putAll_at (ds:=mvs M0 (.slice dA2 M0.d.length dc2) (.slice tA2 M0.t.length tc2) (.slice rA2 M0.rest.len rc2)) hm1 rfl
       have hb1:Below w6.heap.size w6 (World.putAll (w6.alloc (.cells zmvs 35)) w6.heap.size (mvs M0 (.slice dA2 M0.d.length dc2) (.slice tA2 M0.t.length tc2) (.slice rA2 M0.rest.len rc2))) :=
        (ba (a:=w6) b0 (.cells zmvs 35)).trans ((putAll_tch _ w6.heap.size _).toBelowB (by simp) fun g hg e => by omega)
       obtain ⟨w7,hwv⟩:∃ wv,wv=World.putAll (w6.alloc (.cells zmvs 35)) w6.heap.size (mvs M0 (.slice dA2 M0.d.length dc2) (.slice tA2 M0.t.length tc2) (.slice rA2 M0.rest.len rc2)):=⟨_,rfl⟩
       rw [← hwv] at hm2 hb1
       have HM1:=Lib.hid hm1
       have HX2:=Lib.hid hm2
       have HBT2:=Lib.hid hb1
       have HV2:=Lib.hid (hmg.below hb1)
       simp only [zmvs] at HM1 hwv
       clear hm1 hm2 hb1 hmg
       go_wp2_with
        (with_reducible show wpList _ _ _ (Oper.mk _ (Op.store 35 _ _) _ _ _ _ :: _) _ _;apply pin)
       refine wpList_store_blk rfl _ _ _ rfl _ (mvs M0 (.slice dA2 M0.d.length dc2) (.slice tA2 M0.t.length tc2) (.slice rA2 M0.rest.len rc2)) rfl rfl HM1.out rfl (info_msg _ _ _ _) mvs_one ?_
       rw [← hwv]
       clear hwv HM1
       simp only [Act.put]
       have HB7:=Lib.hid (bb HB6.out HBT2.out)
       have HX4:=Lib.hid (HX3.out.below HBT2.out HX3.out.lt)
       have HV4:=Lib.hid (HV3.out.below HBT2.out)
       clear HB6 HX3 HV3 HBT2 HX2 HV2
       go_wp2_with fail
       obtain ⟨Z1,hZ1⟩:∃ Z1,Z1=txt (UInt8.ofNat (k+128) :: 0 :: T):=⟨_,rfl⟩
       obtain ⟨P2,hP2⟩:∃ P2,P2=txt [UInt8.ofNat (k+128),0]:=⟨_,rfl⟩
       have hadd1:∀ x:World,(Op.stringOp .add P2 ((txt S).extract 1 S.length)).run Tryz.prog x=.ok (.string Z1) x:=fun x => by
        have h1:P2++(txt S).extract 1 S.length=Z1:=by
         rw [hP2,hZ1,HRW.out.s]
         apply ByteArray.ext
         apply Array.ext'
         simp [txt,ByteArray.data_append,ByteArray.data_extract,List.extract_eq_take_drop]
        rw [← h1]
        exact run_string_add_sum x _ _ (by rw [hP2];simp [txt,ByteArray.size];omega)
       have HD1:=Lib.hid (fun x (hx:Below w.heap.size w x) => HDE.out (UInt8.ofNat (k+128) :: 0 :: T) x hx (by have:=congrArg List.length HRW.out.s;simp only [List.length_cons] at this ⊢;omega))
       rw [← hZ1] at HD1
       have hq1:=HRW.out.o
       generalize mdecode (UInt8.ofNat (k+128) :: 0 :: T) (r+1)=Q1 at HD1 hq1
       obtain ⟨M1,E1⟩:=Q1
       simp only at hq1
       subst hq1
       have HCV:Hid (∀ (x:World) (g:Nat),BlkAt x g 5 #[.int .u8 ((k:Int)+128),.int .u8 0]→(convert 42 9 (.slice (some ⟨g,0,none⟩) 2 2)).run Tryz.prog x=.ok (.string P2) x):=fun x g h => by
        rw [hP2]
        exact conv2 h HRW.out.k8
       have HD4:=Lib.hid (fun x (hx:Below w.heap.size w x) => HDE.out [7,4,0] x hx (by decide))
       have hq3:=HD3.out
       generalize mdecode [7,4,0] (r+1)=Q3 at HD4 hq3
       obtain ⟨M3,E3⟩:=Q3
       simp only at hq3
       subst hq3
       have HD5:Hid (∀ x,Below w.heap.size w x→Calls Tryz.prog 12 #[.string ⟨#[7,4,0]⟩,.int .i64 ((r:Int)+1)] x (DecEnd x (M3,17))):=HD4
       clear hZ1 hP2 HD4 HD3
       have hs0:0 < S.length:=by rw [HRW.out.s];simp
       have hx0:(txt S)[0]'(by rw [txt_size];exact hs0)=UInt8.ofNat k:=by
        have h1:=HRW.out.s
        subst h1
        rfl
       have hs1:(1:Int)≤(S.length:Int):=by omega
       have hk256:(k:Int) % 256=(k:Int):=by have:=HRW.out.k8;omega
       have hor:bits .or .u8 (k:Int) 128=(k:Int)+128:=by
        have h1:=or128 k
        rwa [show (k:Int) % 128=(k:Int) by have:=HRW.out.k8;omega] at h1
       apply rest_first (fun x => Below w7.heap.size w7 x)
       · intro HREST
         refine wp_region_held_drew (S:=fun _ => True) (by kernel_rfl) trivial (fun hHeld => ?_)
         refine wpAnyH_take (i:=0) (v:=?_) rfl (by kernel_rfl) (by kernel_rfl) (by kernel_rfl) (fun _ _ _ h => h) (Or.inl ⟨by rfl,?_⟩) (by assumption) ?_
         rotate_left
         · ((intro q hSq;(try dsimp only at hSq);go_simp);with_reducible rfl)
         generalize hd:Oper.dst _=dd
         obtain rfl:some 56=dd:=hd
         simp only [Act.put,List.setIfInBounds_toArray,List.set_cons_zero,List.set_cons_succ]
         refine wpAnyH_take (i:=1) (v:=?_) rfl (by kernel_rfl) (by kernel_rfl) (by kernel_rfl) (fun _ _ _ h => h) (Or.inl ⟨by rfl,?_⟩) (by assumption) ?_
         rotate_left
         · ((intro q hSq;(try dsimp only at hSq);go_simp);with_reducible rfl)
         generalize hd:Oper.dst _=dd
         obtain rfl:some 57=dd:=hd
         simp only [Act.put,List.setIfInBounds_toArray,List.set_cons_zero,List.set_cons_succ]
         refine wpAnyH_take (i:=2) (v:=?_) rfl (by kernel_rfl) (by kernel_rfl) (by kernel_rfl) (fun _ _ _ h => h) (Or.inl ⟨by rfl,?_⟩) (by assumption) ?_
         rotate_left
         · ((intro q hSq;(try dsimp only at hSq);go_simp);with_reducible rfl)
         generalize hd:Oper.dst _=dd
         obtain rfl:some 58=dd:=hd
         simp only [Act.put,List.setIfInBounds_toArray,List.set_cons_zero,List.set_cons_succ]
         refine wpAnyH_take (i:=5) (v:=?_) rfl (by kernel_rfl) (by kernel_rfl) (by kernel_rfl) (fun _ _ _ h => h) (Or.inl ⟨by rfl,?_⟩) (by assumption) ?_
         rotate_left
         · ((intro q hSq;(try dsimp only at hSq);go_simp);with_reducible rfl)
         generalize hd:Oper.dst _=dd
         obtain rfl:some 61=dd:=hd
         simp only [Act.put,List.setIfInBounds_toArray,List.set_cons_zero,List.set_cons_succ]
         refine wpAnyH_take (i:=6) (v:=?_) rfl (by kernel_rfl) (by kernel_rfl) (by kernel_rfl) (fun _ _ _ h => h) (Or.inl ⟨by rfl,?_⟩) (by assumption) ?_
         rotate_left
         · ((intro q hSq;(try dsimp only at hSq);go_simp);with_reducible rfl)
         generalize hd:Oper.dst _=dd
         obtain rfl:some 62=dd:=hd
         simp only [Act.put,List.setIfInBounds_toArray,List.set_cons_zero,List.set_cons_succ]
         refine wpAnyH_take (i:=8) (v:=?_) rfl (by kernel_rfl) (by kernel_rfl) (by kernel_rfl) (fun _ _ _ h => h) (Or.inl ⟨by rfl,?_⟩) (by assumption) ?_
         rotate_left
         · ((intro q hSq;(try dsimp only at hSq);go_simp);with_reducible rfl)
         generalize hd:Oper.dst _=dd
         obtain rfl:some 64=dd:=hd
         simp only [Act.put,List.setIfInBounds_toArray,List.set_cons_zero,List.set_cons_succ]
         refine wpAnyH_ready (rs:=[3,13]) (by kernel_rfl) (by simp) ?_
         refine AllReadyH.cons rfl (fun K hK => ?_) ?_
         · go_simp
           refine hK.out _ _ trivial (fun _ => ?_)
           clear hK K
           obtain ⟨WA,hY⟩:∃ Y,Y=(w7.alloc (.cells #[.int .u8 ((k:Int)+128),.int .u8 0] 5)).drew:=⟨_,rfl⟩
           have H3:Hid (BlkAt WA w7.heap.size 5 #[.int .u8 ((k:Int)+128),.int .u8 0]):=by rw [hY];exact BlkAt.made w7 _ _
           have HBWA:Hid (Below w7.heap.size w7 WA):=by rw [hY];exact (ba b0 _).drew
           have HGWA:Hid (Below w7.heap.size w7 WA):=by rw [hY];exact (ba b0 _).drew
           rw [← hY]
           clear hY
           refine wpAnyH_ready (rs:=[4,13]) (by kernel_rfl) (by simp) ?_
           refine AllReadyH.cons rfl (fun K hK => ?_) ?_
           · have hcv:=HCV.out _ _ H3.out
             go_simp
             refine hK.out _ _ trivial (fun _ => ?_)
             clear hK K
             clear hcv H3
             refine wpAnyH_take (i:=7) (v:=?_) rfl (by kernel_rfl) (by kernel_rfl) (by kernel_rfl) (fun _ _ _ h => h) (Or.inl ⟨by rfl,?_⟩) (by assumption) ?_
             rotate_left
             · ((intro q hSq;(try dsimp only at hSq);go_simp);with_reducible rfl)
             generalize hd:Oper.dst _=dd
             obtain rfl:some 63=dd:=hd
             simp only [Act.put,List.setIfInBounds_toArray,List.set_cons_zero,List.set_cons_succ]
             refine wpAnyH_ready (rs:=[9,13]) (by kernel_rfl) (by simp) ?_
             refine AllReadyH.cons rfl (fun K hK => ?_) ?_
             · go_simp
               refine (HD1.out _ (bb HB7.out HBWA.out)).mono ?_
               rintro e W1 ⟨dv,tv,rv,rfl,hmg,hb1'⟩
               obtain ⟨dA3,dc3,tA3,tc3,rA3,rc3,rfl,rfl,rfl⟩:=hmg.slices
               have HBW1:=Lib.hid (bb HBWA.out hb1')
               clear hmg
               go_simp
               refine hK.out _ _ trivial (fun _ => ?_)
               clear hK K
               refine wpAnyH_take (i:=10) (v:=?_) rfl (by kernel_rfl) (by kernel_rfl) (by kernel_rfl) (fun _ _ _ h => h) (Or.inl ⟨by rfl,?_⟩) (by assumption) ?_
               rotate_left
               · ((intro q hSq;(try dsimp only at hSq);go_simp);with_reducible rfl)
               generalize hd:Oper.dst _=dd
               obtain rfl:some 55=dd:=hd
               simp only [Act.put,List.setIfInBounds_toArray,List.set_cons_zero,List.set_cons_succ]
               refine wpAnyH_take (i:=11) (v:=?_) rfl (by kernel_rfl) (by kernel_rfl) (by kernel_rfl) (fun _ _ _ h => h) (Or.inl ⟨by rfl,?_⟩) (by assumption) ?_
               rotate_left
               · ((intro q hSq;(try dsimp only at hSq);go_simp);with_reducible rfl)
               generalize hd:Oper.dst _=dd
               obtain rfl:some 66=dd:=hd
               simp only [Act.put,List.setIfInBounds_toArray,List.set_cons_zero,List.set_cons_succ]
               refine wpAnyH_take (i:=12) (v:=?_) rfl (by kernel_rfl) (by kernel_rfl) (by kernel_rfl) (fun _ _ _ h => h) (Or.inl ⟨by rfl,?_⟩) (by assumption) ?_
               rotate_left
               · ((intro q hSq;(try dsimp only at hSq);go_simp);with_reducible rfl)
               generalize hd:Oper.dst _=dd
               obtain rfl:some 67=dd:=hd
               simp only [Act.put,List.setIfInBounds_toArray,List.set_cons_zero,List.set_cons_succ]
               refine wpAnyH_ready (rs:=[13]) (by kernel_rfl) (by simp) ?_
               refine AllReadyH.cons rfl (fun K hK => ?_) AllReadyH.nil
               go_simp
               refine hK.out _ _ trivial (fun _ => ?_)
               clear hK K
               obtain ⟨WB,hY⟩:∃ Y,Y=(W1.alloc (.cells zmvs 35))  :=⟨_,rfl⟩
               have HZ:Hid (BlkAt WB W1.heap.size 35 zmvs):=by rw [hY];exact BlkAt.made W1 _ _
               have HBWB:Hid (Below w7.heap.size w7 WB):=by rw [hY];exact (ba HBW1.out _)
               have HGWB:Hid (Below W1.heap.size W1 WB):=by rw [hY];exact (ba b0 _)
               simp only [zmvs] at hY
               rw [← hY]
               clear hY
               refine wpAnyH_ready (rs:=[14]) (by kernel_rfl) (by simp) ?_
               refine AllReadyH.cons rfl (fun K hK => ?_) AllReadyH.nil
               refine wp_store_mid 35 (.tmp 11) (.tmp 66) rfl W1.heap.size 0 (mvs M1 (.slice dA3 M1.d.length dc3) (.slice tA3 M1.t.length tc3) (.slice rA3 M1.rest.len rc3)) rfl rfl (fun j hj => by rw [Nat.zero_add];exact ⟨by rw [HZ.out.cell j,Array.getElem?_eq_getElem (show j < zmvs.size from hj)];rfl,HZ.out.free j⟩) (info_msg _ _ _ _) mvs_one ?_
               have hs:=putAll_tch WB W1.heap.size (mvs M1 (.slice dA3 M1.d.length dc3) (.slice tA3 M1.t.length tc3) (.slice rA3 M1.rest.len rc3))
               show K _ (World.putAll WB W1.heap.size (mvs M1 (.slice dA3 M1.d.length dc3) (.slice tA3 M1.t.length tc3) (.slice rA3 M1.rest.len rc3)))
               have HF9:Hid (Below w7.heap.size w7 (World.putAll WB W1.heap.size (mvs M1 (.slice dA3 M1.d.length dc3) (.slice tA3 M1.t.length tc3) (.slice rA3 M1.rest.len rc3)))):=Lib.hid (HBWB.out.trans (hs.toBelowB HBWB.out.size fun g hg e => by have:=HBW1.out.size;omega))
               generalize World.putAll WB W1.heap.size (mvs M1 (.slice dA3 M1.d.length dc3) (.slice tA3 M1.t.length tc3) (.slice rA3 M1.rest.len rc3))=w9 at HF9 ⊢
               clear hs HZ
               generalize hd:Oper.dst _=dd
               obtain rfl:none=dd:=hd
               simp only [Act.put]
               refine hK.out _ _ trivial (fun _ => ?_)
               clear hK K
               refine wpAnyH_take (i:=15) (v:=?_) rfl (by kernel_rfl) (by kernel_rfl) (by kernel_rfl) (fun _ _ _ h => h) (Or.inl ⟨by rfl,?_⟩) (by assumption) ?_
               rotate_left
               · ((intro q hSq;(try dsimp only at hSq);go_simp);with_reducible rfl)
               generalize hd:Oper.dst _=dd
               obtain rfl:some 12=dd:=hd
               simp only [Act.put,List.setIfInBounds_toArray,List.set_cons_zero,List.set_cons_succ]
               refine wpAnyH_done (by kernel_rfl) ?_ _
               generalize mvs M1 (.slice dA3 M1.d.length dc3) (.slice tA3 M1.t.length tc3) (.slice rA3 M1.rest.len rc3)=cs
               generalize Value.pointer (some { block:=W1.heap.size,off:=0 })=p
               generalize Value.slice (some { block:=w7.heap.size,off:=0 }) 2 2=q
               exact HREST p q cs w9 HF9.out
             · refine AllReadyH.cons rfl (fun K hK => ?_) AllReadyH.nil
               go_simp
               refine hK.out _ _ trivial (fun _ => ?_)
               clear hK K
               obtain ⟨WB,hY⟩:∃ Y,Y=(WA.alloc (.cells zmvs 35))  :=⟨_,rfl⟩
               have HZ:Hid (BlkAt WB WA.heap.size 35 zmvs):=by rw [hY];exact BlkAt.made WA _ _
               have HBWB:Hid (Below w7.heap.size w7 WB):=by rw [hY];exact (ba HBWA.out _)
               have HGWB:Hid (Below WA.heap.size WA WB):=by rw [hY];exact (ba b0 _)
               simp only [zmvs] at hY
               rw [← hY]
               clear hY
               refine wpAnyH_ready (rs:=[9]) (by kernel_rfl) (by simp) ?_
               refine AllReadyH.cons rfl (fun K hK => ?_) AllReadyH.nil
               go_simp
               refine (HD1.out _ (bb HB7.out HBWB.out)).mono ?_
               rintro e W1 ⟨dv,tv,rv,rfl,hmg,hb1'⟩
               obtain ⟨dA3,dc3,tA3,tc3,rA3,rc3,rfl,rfl,rfl⟩:=hmg.slices
               have HBW1:=Lib.hid (bb HBWB.out hb1')
               clear hmg
               go_simp
               refine hK.out _ _ trivial (fun _ => ?_)
               clear hK K
               refine wpAnyH_take (i:=10) (v:=?_) rfl (by kernel_rfl) (by kernel_rfl) (by kernel_rfl) (fun _ _ _ h => h) (Or.inl ⟨by rfl,?_⟩) (by assumption) ?_
               rotate_left
               · ((intro q hSq;(try dsimp only at hSq);go_simp);with_reducible rfl)
               generalize hd:Oper.dst _=dd
               obtain rfl:some 55=dd:=hd
               simp only [Act.put,List.setIfInBounds_toArray,List.set_cons_zero,List.set_cons_succ]
               refine wpAnyH_take (i:=11) (v:=?_) rfl (by kernel_rfl) (by kernel_rfl) (by kernel_rfl) (fun _ _ _ h => h) (Or.inl ⟨by rfl,?_⟩) (by assumption) ?_
               rotate_left
               · ((intro q hSq;(try dsimp only at hSq);go_simp);with_reducible rfl)
               generalize hd:Oper.dst _=dd
               obtain rfl:some 66=dd:=hd
               simp only [Act.put,List.setIfInBounds_toArray,List.set_cons_zero,List.set_cons_succ]
               refine wpAnyH_take (i:=12) (v:=?_) rfl (by kernel_rfl) (by kernel_rfl) (by kernel_rfl) (fun _ _ _ h => h) (Or.inl ⟨by rfl,?_⟩) (by assumption) ?_
               rotate_left
               · ((intro q hSq;(try dsimp only at hSq);go_simp);with_reducible rfl)
               generalize hd:Oper.dst _=dd
               obtain rfl:some 67=dd:=hd
               simp only [Act.put,List.setIfInBounds_toArray,List.set_cons_zero,List.set_cons_succ]
               replace HZ:=Lib.hid (HZ.out.below hb1' HZ.out.lt)
               refine wpAnyH_ready (rs:=[14]) (by kernel_rfl) (by simp) ?_
               refine AllReadyH.cons rfl (fun K hK => ?_) AllReadyH.nil
               refine wp_store_mid 35 (.tmp 11) (.tmp 66) rfl WA.heap.size 0 (mvs M1 (.slice dA3 M1.d.length dc3) (.slice tA3 M1.t.length tc3) (.slice rA3 M1.rest.len rc3)) rfl rfl (fun j hj => by rw [Nat.zero_add];exact ⟨by rw [HZ.out.cell j,Array.getElem?_eq_getElem (show j < zmvs.size from hj)];rfl,HZ.out.free j⟩) (info_msg _ _ _ _) mvs_one ?_
               have hs:=putAll_tch W1 WA.heap.size (mvs M1 (.slice dA3 M1.d.length dc3) (.slice tA3 M1.t.length tc3) (.slice rA3 M1.rest.len rc3))
               show K _ (World.putAll W1 WA.heap.size (mvs M1 (.slice dA3 M1.d.length dc3) (.slice tA3 M1.t.length tc3) (.slice rA3 M1.rest.len rc3)))
               have HF9:Hid (Below w7.heap.size w7 (World.putAll W1 WA.heap.size (mvs M1 (.slice dA3 M1.d.length dc3) (.slice tA3 M1.t.length tc3) (.slice rA3 M1.rest.len rc3)))):=Lib.hid (HBW1.out.trans (hs.toBelowB HBW1.out.size fun g hg e => by have:=HBWA.out.size;omega))
               generalize World.putAll W1 WA.heap.size (mvs M1 (.slice dA3 M1.d.length dc3) (.slice tA3 M1.t.length tc3) (.slice rA3 M1.rest.len rc3))=w9 at HF9 ⊢
               clear hs HZ
               generalize hd:Oper.dst _=dd
               obtain rfl:none=dd:=hd
               simp only [Act.put]
               refine hK.out _ _ trivial (fun _ => ?_)
               clear hK K
               refine wpAnyH_take (i:=15) (v:=?_) rfl (by kernel_rfl) (by kernel_rfl) (by kernel_rfl) (fun _ _ _ h => h) (Or.inl ⟨by rfl,?_⟩) (by assumption) ?_
               rotate_left
               · ((intro q hSq;(try dsimp only at hSq);go_simp);with_reducible rfl)
               generalize hd:Oper.dst _=dd
               obtain rfl:some 12=dd:=hd
               simp only [Act.put,List.setIfInBounds_toArray,List.set_cons_zero,List.set_cons_succ]
               refine wpAnyH_done (by kernel_rfl) ?_ _
               generalize mvs M1 (.slice dA3 M1.d.length dc3) (.slice tA3 M1.t.length tc3) (.slice rA3 M1.rest.len rc3)=cs
               generalize Value.pointer (some { block:=WA.heap.size,off:=0 })=p
               generalize Value.slice (some { block:=w7.heap.size,off:=0 }) 2 2=q
               exact HREST p q cs w9 HF9.out
           · refine AllReadyH.cons rfl (fun K hK => ?_) AllReadyH.nil
             go_simp
             refine hK.out _ _ trivial (fun _ => ?_)
             clear hK K
             obtain ⟨WB,hY⟩:∃ Y,Y=(WA.alloc (.cells zmvs 35))  :=⟨_,rfl⟩
             have HZ:Hid (BlkAt WB WA.heap.size 35 zmvs):=by rw [hY];exact BlkAt.made WA _ _
             have HBWB:Hid (Below w7.heap.size w7 WB):=by rw [hY];exact (ba HBWA.out _)
             have HGWB:Hid (Below WA.heap.size WA WB):=by rw [hY];exact (ba b0 _)
             simp only [zmvs] at hY
             rw [← hY]
             clear hY
             replace H3:=Lib.hid (H3.out.below HGWB.out H3.out.lt)
             refine wpAnyH_ready (rs:=[4]) (by kernel_rfl) (by simp) ?_
             refine AllReadyH.cons rfl (fun K hK => ?_) AllReadyH.nil
             have hcv:=HCV.out _ _ H3.out
             go_simp
             refine hK.out _ _ trivial (fun _ => ?_)
             clear hK K
             clear hcv H3
             refine wpAnyH_take (i:=7) (v:=?_) rfl (by kernel_rfl) (by kernel_rfl) (by kernel_rfl) (fun _ _ _ h => h) (Or.inl ⟨by rfl,?_⟩) (by assumption) ?_
             rotate_left
             · ((intro q hSq;(try dsimp only at hSq);go_simp);with_reducible rfl)
             generalize hd:Oper.dst _=dd
             obtain rfl:some 63=dd:=hd
             simp only [Act.put,List.setIfInBounds_toArray,List.set_cons_zero,List.set_cons_succ]
             refine wpAnyH_ready (rs:=[9]) (by kernel_rfl) (by simp) ?_
             refine AllReadyH.cons rfl (fun K hK => ?_) AllReadyH.nil
             go_simp
             refine (HD1.out _ (bb HB7.out HBWB.out)).mono ?_
             rintro e W1 ⟨dv,tv,rv,rfl,hmg,hb1'⟩
             obtain ⟨dA3,dc3,tA3,tc3,rA3,rc3,rfl,rfl,rfl⟩:=hmg.slices
             have HBW1:=Lib.hid (bb HBWB.out hb1')
             clear hmg
             go_simp
             refine hK.out _ _ trivial (fun _ => ?_)
             clear hK K
             refine wpAnyH_take (i:=10) (v:=?_) rfl (by kernel_rfl) (by kernel_rfl) (by kernel_rfl) (fun _ _ _ h => h) (Or.inl ⟨by rfl,?_⟩) (by assumption) ?_
             rotate_left
             · ((intro q hSq;(try dsimp only at hSq);go_simp);with_reducible rfl)
             generalize hd:Oper.dst _=dd
             obtain rfl:some 55=dd:=hd
             simp only [Act.put,List.setIfInBounds_toArray,List.set_cons_zero,List.set_cons_succ]
             refine wpAnyH_take (i:=11) (v:=?_) rfl (by kernel_rfl) (by kernel_rfl) (by kernel_rfl) (fun _ _ _ h => h) (Or.inl ⟨by rfl,?_⟩) (by assumption) ?_
             rotate_left
             · ((intro q hSq;(try dsimp only at hSq);go_simp);with_reducible rfl)
             generalize hd:Oper.dst _=dd
             obtain rfl:some 66=dd:=hd
             simp only [Act.put,List.setIfInBounds_toArray,List.set_cons_zero,List.set_cons_succ]
             refine wpAnyH_take (i:=12) (v:=?_) rfl (by kernel_rfl) (by kernel_rfl) (by kernel_rfl) (fun _ _ _ h => h) (Or.inl ⟨by rfl,?_⟩) (by assumption) ?_
             rotate_left
             · ((intro q hSq;(try dsimp only at hSq);go_simp);with_reducible rfl)
             generalize hd:Oper.dst _=dd
             obtain rfl:some 67=dd:=hd
             simp only [Act.put,List.setIfInBounds_toArray,List.set_cons_zero,List.set_cons_succ]
             replace HZ:=Lib.hid (HZ.out.below hb1' HZ.out.lt)
             refine wpAnyH_ready (rs:=[14]) (by kernel_rfl) (by simp) ?_
             refine AllReadyH.cons rfl (fun K hK => ?_) AllReadyH.nil
             refine wp_store_mid 35 (.tmp 11) (.tmp 66) rfl WA.heap.size 0 (mvs M1 (.slice dA3 M1.d.length dc3) (.slice tA3 M1.t.length tc3) (.slice rA3 M1.rest.len rc3)) rfl rfl (fun j hj => by rw [Nat.zero_add];exact ⟨by rw [HZ.out.cell j,Array.getElem?_eq_getElem (show j < zmvs.size from hj)];rfl,HZ.out.free j⟩) (info_msg _ _ _ _) mvs_one ?_
             have hs:=putAll_tch W1 WA.heap.size (mvs M1 (.slice dA3 M1.d.length dc3) (.slice tA3 M1.t.length tc3) (.slice rA3 M1.rest.len rc3))
             show K _ (World.putAll W1 WA.heap.size (mvs M1 (.slice dA3 M1.d.length dc3) (.slice tA3 M1.t.length tc3) (.slice rA3 M1.rest.len rc3)))
             have HF9:Hid (Below w7.heap.size w7 (World.putAll W1 WA.heap.size (mvs M1 (.slice dA3 M1.d.length dc3) (.slice tA3 M1.t.length tc3) (.slice rA3 M1.rest.len rc3)))):=Lib.hid (HBW1.out.trans (hs.toBelowB HBW1.out.size fun g hg e => by have:=HBWA.out.size;omega))
             generalize World.putAll W1 WA.heap.size (mvs M1 (.slice dA3 M1.d.length dc3) (.slice tA3 M1.t.length tc3) (.slice rA3 M1.rest.len rc3))=w9 at HF9 ⊢
             clear hs HZ
             generalize hd:Oper.dst _=dd
             obtain rfl:none=dd:=hd
             simp only [Act.put]
             refine hK.out _ _ trivial (fun _ => ?_)
             clear hK K
             refine wpAnyH_take (i:=15) (v:=?_) rfl (by kernel_rfl) (by kernel_rfl) (by kernel_rfl) (fun _ _ _ h => h) (Or.inl ⟨by rfl,?_⟩) (by assumption) ?_
             rotate_left
             · ((intro q hSq;(try dsimp only at hSq);go_simp);with_reducible rfl)
             generalize hd:Oper.dst _=dd
             obtain rfl:some 12=dd:=hd
             simp only [Act.put,List.setIfInBounds_toArray,List.set_cons_zero,List.set_cons_succ]
             refine wpAnyH_done (by kernel_rfl) ?_ _
             generalize mvs M1 (.slice dA3 M1.d.length dc3) (.slice tA3 M1.t.length tc3) (.slice rA3 M1.rest.len rc3)=cs
             generalize Value.pointer (some { block:=WA.heap.size,off:=0 })=p
             generalize Value.slice (some { block:=w7.heap.size,off:=0 }) 2 2=q
             exact HREST p q cs w9 HF9.out
         · refine AllReadyH.cons rfl (fun K hK => ?_) AllReadyH.nil
           go_simp
           refine hK.out _ _ trivial (fun _ => ?_)
           clear hK K
           obtain ⟨WA,hY⟩:∃ Y,Y=(w7.alloc (.cells zmvs 35)).drew:=⟨_,rfl⟩
           have HZ:Hid (BlkAt WA w7.heap.size 35 zmvs):=by rw [hY];exact BlkAt.made w7 _ _
           have HBWA:Hid (Below w7.heap.size w7 WA):=by rw [hY];exact (ba b0 _).drew
           have HGWA:Hid (Below w7.heap.size w7 WA):=by rw [hY];exact (ba b0 _).drew
           simp only [zmvs] at hY
           rw [← hY]
           clear hY
           refine wpAnyH_ready (rs:=[3]) (by kernel_rfl) (by simp) ?_
           refine AllReadyH.cons rfl (fun K hK => ?_) AllReadyH.nil
           go_simp
           refine hK.out _ _ trivial (fun _ => ?_)
           clear hK K
           obtain ⟨WB,hY⟩:∃ Y,Y=(WA.alloc (.cells #[.int .u8 ((k:Int)+128),.int .u8 0] 5))  :=⟨_,rfl⟩
           have H3:Hid (BlkAt WB WA.heap.size 5 #[.int .u8 ((k:Int)+128),.int .u8 0]):=by rw [hY];exact BlkAt.made WA _ _
           have HBWB:Hid (Below w7.heap.size w7 WB):=by rw [hY];exact (ba HBWA.out _)
           have HGWB:Hid (Below WA.heap.size WA WB):=by rw [hY];exact (ba b0 _)
           rw [← hY]
           clear hY
           replace HZ:=Lib.hid (HZ.out.below HGWB.out HZ.out.lt)
           refine wpAnyH_ready (rs:=[4]) (by kernel_rfl) (by simp) ?_
           refine AllReadyH.cons rfl (fun K hK => ?_) AllReadyH.nil
           have hcv:=HCV.out _ _ H3.out
           go_simp
           refine hK.out _ _ trivial (fun _ => ?_)
           clear hK K
           clear hcv H3
           refine wpAnyH_take (i:=7) (v:=?_) rfl (by kernel_rfl) (by kernel_rfl) (by kernel_rfl) (fun _ _ _ h => h) (Or.inl ⟨by rfl,?_⟩) (by assumption) ?_
           rotate_left
           · ((intro q hSq;(try dsimp only at hSq);go_simp);with_reducible rfl)
           generalize hd:Oper.dst _=dd
           obtain rfl:some 63=dd:=hd
           simp only [Act.put,List.setIfInBounds_toArray,List.set_cons_zero,List.set_cons_succ]
           refine wpAnyH_ready (rs:=[9]) (by kernel_rfl) (by simp) ?_
           refine AllReadyH.cons rfl (fun K hK => ?_) AllReadyH.nil
           go_simp
           refine (HD1.out _ (bb HB7.out HBWB.out)).mono ?_
           rintro e W1 ⟨dv,tv,rv,rfl,hmg,hb1'⟩
           obtain ⟨dA3,dc3,tA3,tc3,rA3,rc3,rfl,rfl,rfl⟩:=hmg.slices
           have HBW1:=Lib.hid (bb HBWB.out hb1')
           clear hmg
           go_simp
           refine hK.out _ _ trivial (fun _ => ?_)
           clear hK K
           refine wpAnyH_take (i:=10) (v:=?_) rfl (by kernel_rfl) (by kernel_rfl) (by kernel_rfl) (fun _ _ _ h => h) (Or.inl ⟨by rfl,?_⟩) (by assumption) ?_
           rotate_left
           · ((intro q hSq;(try dsimp only at hSq);go_simp);with_reducible rfl)
           generalize hd:Oper.dst _=dd
           obtain rfl:some 55=dd:=hd
           simp only [Act.put,List.setIfInBounds_toArray,List.set_cons_zero,List.set_cons_succ]
           refine wpAnyH_take (i:=11) (v:=?_) rfl (by kernel_rfl) (by kernel_rfl) (by kernel_rfl) (fun _ _ _ h => h) (Or.inl ⟨by rfl,?_⟩) (by assumption) ?_
           rotate_left
           · ((intro q hSq;(try dsimp only at hSq);go_simp);with_reducible rfl)
           generalize hd:Oper.dst _=dd
           obtain rfl:some 66=dd:=hd
           simp only [Act.put,List.setIfInBounds_toArray,List.set_cons_zero,List.set_cons_succ]
           refine wpAnyH_take (i:=12) (v:=?_) rfl (by kernel_rfl) (by kernel_rfl) (by kernel_rfl) (fun _ _ _ h => h) (Or.inl ⟨by rfl,?_⟩) (by assumption) ?_
           rotate_left
           · ((intro q hSq;(try dsimp only at hSq);go_simp);with_reducible rfl)
           generalize hd:Oper.dst _=dd
           obtain rfl:some 67=dd:=hd
           simp only [Act.put,List.setIfInBounds_toArray,List.set_cons_zero,List.set_cons_succ]
           replace HZ:=Lib.hid (HZ.out.below hb1' HZ.out.lt)
           refine wpAnyH_ready (rs:=[14]) (by kernel_rfl) (by simp) ?_
           refine AllReadyH.cons rfl (fun K hK => ?_) AllReadyH.nil
           refine wp_store_mid 35 (.tmp 11) (.tmp 66) rfl w7.heap.size 0 (mvs M1 (.slice dA3 M1.d.length dc3) (.slice tA3 M1.t.length tc3) (.slice rA3 M1.rest.len rc3)) rfl rfl (fun j hj => by rw [Nat.zero_add];exact ⟨by rw [HZ.out.cell j,Array.getElem?_eq_getElem (show j < zmvs.size from hj)];rfl,HZ.out.free j⟩) (info_msg _ _ _ _) mvs_one ?_
           have hs:=putAll_tch W1 w7.heap.size (mvs M1 (.slice dA3 M1.d.length dc3) (.slice tA3 M1.t.length tc3) (.slice rA3 M1.rest.len rc3))
           show K _ (World.putAll W1 w7.heap.size (mvs M1 (.slice dA3 M1.d.length dc3) (.slice tA3 M1.t.length tc3) (.slice rA3 M1.rest.len rc3)))
           have HF9:Hid (Below w7.heap.size w7 (World.putAll W1 w7.heap.size (mvs M1 (.slice dA3 M1.d.length dc3) (.slice tA3 M1.t.length tc3) (.slice rA3 M1.rest.len rc3)))):=Lib.hid (HBW1.out.trans (hs.toBelowB HBW1.out.size fun g hg e => by have:=Nat.le_refl w7.heap.size;omega))
           generalize World.putAll W1 w7.heap.size (mvs M1 (.slice dA3 M1.d.length dc3) (.slice tA3 M1.t.length tc3) (.slice rA3 M1.rest.len rc3))=w9 at HF9 ⊢
           clear hs HZ
           generalize hd:Oper.dst _=dd
           obtain rfl:none=dd:=hd
           simp only [Act.put]
           refine hK.out _ _ trivial (fun _ => ?_)
           clear hK K
           refine wpAnyH_take (i:=15) (v:=?_) rfl (by kernel_rfl) (by kernel_rfl) (by kernel_rfl) (fun _ _ _ h => h) (Or.inl ⟨by rfl,?_⟩) (by assumption) ?_
           rotate_left
           · ((intro q hSq;(try dsimp only at hSq);go_simp);with_reducible rfl)
           generalize hd:Oper.dst _=dd
           obtain rfl:some 12=dd:=hd
           simp only [Act.put,List.setIfInBounds_toArray,List.set_cons_zero,List.set_cons_succ]
           refine wpAnyH_done (by kernel_rfl) ?_ _
           generalize mvs M1 (.slice dA3 M1.d.length dc3) (.slice tA3 M1.t.length tc3) (.slice rA3 M1.rest.len rc3)=cs
           generalize Value.pointer (some { block:=w7.heap.size,off:=0 })=p
           generalize Value.slice (some { block:=WA.heap.size,off:=0 }) 2 2=q
           exact HREST p q cs w9 HF9.out
       · intro p q cs w8 hb8
         have HB8:=Lib.hid (bb HB7.out hb8)
         have HX5:=Lib.hid (HX4.out.below hb8 HX4.out.lt)
         have HV5:=Lib.hid (HV4.out.below hb8)
         clear hb8 HB7 HX4 HV4 HD1 HCV hadd1 hor hx0 hk256 hs0 hs1
         go_wp2_with
          (with_reducible show wpList _ _ _ (Oper.mk _ (Op.load 35 _) _ _ _ _ :: _) _ _;apply pin)
         refine wpList_load_blk_w (by rfl) _ _ rfl _ rfl _ HX5.out Tryz.underlying35 rfl (info_msg _ _ _ _) ?_
         go_wp2_with fail
         refine (HFI2.out _ _ _ _ HB8.out HV5.out).mono ?_
         rintro e w9 ⟨A,c,rfl,hsl,hb9⟩
         have HB9:=Lib.hid (bb HB8.out hb9)
         simp only at hsl
         have HSL:=Lib.hid hsl
         clear hb9 HB8 HX5 HV5 HFI2 hsl
         simp only
         by_cases h0:F.len=0
         focus
          have h0d:decide ((0:Int) < (F.len:Int))=false:=decide_eq_false (by omega)
          have h0e:decide (0 < F.len)=false:=decide_eq_false (by omega)
          clear HSL HRW HDE
          generalize F.len=FL at *
          go_wp2_with fail
          clear h0 h0d h0e
          obtain ⟨wq,rfl⟩:∃ wq,wq=w9:=⟨_,rfl⟩
          have HBQ:=HB9
          clear HB9
         rotate_left
         focus
          obtain ⟨y,nn,s,i,hd,hgk,hgc,hgl,hgp,h7⟩:=HRW.out.last h0
          have hfl:=HRW.out.len
          obtain ⟨K,hK⟩:∃ K,F.len=K+1:=⟨F.len - 1,by omega⟩
          obtain ⟨b,o,Ai,ci,hAe,hbl,d0,d1,d2,d3,d4,hsi⟩:=slv_at HSL.out (F.len - 1) (by omega) hd
          subst hAe
          rw [show F.len - 1=K by omega] at d0 d1 d2 d3 d4
          have hm10:=BlkAt.made w9 47 #[.int .u64 (F.last 0:Int),.int .i64 y,.int .u64 (nn:Int),.string s,.slice Ai i.len ci]
          have hb10:=ba (a:=w9) b0 (.cells #[.int .u64 (F.last 0:Int),.int .i64 y,.int .u64 (nn:Int),.string s,.slice Ai i.len ci] 47)
          have hs10:SlV (w9.alloc (.cells #[.int .u64 (F.last 0:Int),.int .i64 y,.int .u64 (nn:Int),.string s,.slice Ai i.len ci] 47)) (fun _ => True) (.slice (some ⟨w9.heap.size,0,none⟩) 1 1) (.cons (F.last 0) y nn s i .nil) :=
           slv_blk (f:=.cons (F.last 0) y nn s i .nil) hm10 (show Cls _ (fun _ => True) [.int .u64 (F.last 0:Int),.int .i64 y,.int .u64 (nn:Int),.string s,.slice Ai i.len ci] (.cons (F.last 0) y nn s i .nil) from ⟨rfl,rfl,rfl,rfl,(hsi.below hb10).imp fun _ _ => trivial,trivial⟩) trivial (Nat.le_refl _)
          have HPU:=Lib.hid (wput_of _ _ _ _ hs10 hgk hgc (by omega))
          rw [hgp] at HPU
          have HB10:=Lib.hid (bb HB9.out hb10)
          have HD2:=Lib.hid (fun x (hx:Below w.heap.size w x) => HDE.out (S++ftx (.cons (F.last 0) y nn s i .nil)) x hx (by rw [List.length_append];omega))
          have H7:=Lib.hid h7
          have HGL:=Lib.hid hgl
          clear hm10 hb10 hs10 hgk hgc hgp hsi hd h7 hgl HSL HRW HDE h0
          generalize ftx (.cons (F.last 0) y nn s i .nil)=LX at *
          generalize (fput (.cons (F.last 0) y nn s i .nil)).2=PE at *
          generalize F.last 0=LT at *
          rw [hK] at hfl ⊢
          clear hK
          have hw1:IntKind.i64.wrap ((K:Int)+1 - 1)=(K:Int):=by rw [IntKind.wrap_i64];omega
          go_wp2_with fail
          refine HPU.out.mono ?_
          rintro e w11 ⟨rfl,hb11⟩
          have HB11:=Lib.hid (bb HB10.out hb11)
          have hsLX:=txt_size LX
          obtain ⟨Z2,hZ2⟩:∃ Z2,Z2=txt (S++LX):=⟨_,rfl⟩
          have hadd2:∀ x:World,(Op.stringOp .add (txt S) (txt LX)).run Tryz.prog x=.ok (.string Z2) x:=fun x => by
           have h1:txt S++txt LX=Z2:=by
            rw [hZ2]
            apply ByteArray.ext
            simp [txt,ByteArray.data_append]
           rw [← h1]
           exact run_string_add_sum x _ _ (by rw [hsz5,hsLX];have:=HGL.out;omega)
          rw [← hZ2] at HD2
          have hml:65536 < (S++LX).length→(mdecode (S++LX) (r+1)).2=4:=fun h => by unfold mdecode;rw [if_pos h]
          rw [List.length_append] at H7 hml
          have HML:=Lib.hid hml
          have hgl:=HGL.out
          generalize mdecode (S++LX) (r+1)=Q2 at HD2 H7 HML
          obtain ⟨M2,E2⟩:=Q2
          simp only at H7 HML
          have hwl:IntKind.i64.wrap ((S.length:Int)+(LX.length:Int))=(S.length:Int)+(LX.length:Int):=by rw [IntKind.wrap_i64];omega
          clear hb11 HPU HB10 d0 d1 d2 d3 d4 hw1 hZ2 hml HB9 HGL
          go_wp2_with fail
          refine (HD2.out _ HB11.out).mono ?_
          rintro e w12 ⟨dv,tv,rv,rfl,hmg,hb12⟩
          have HB12:=Lib.hid (bb HB11.out hb12)
          clear hb12 HB11 HD2 hadd2
          obtain ⟨dA3,dc3,tA3,tc3,rA3,rc3,rfl,rfl,rfl⟩:=hmg.slices
          have hm1:=BlkAt.made w12 35 zmvs
          have hm2:=putAll_at (ds:=mvs M2 (.slice dA3 M2.d.length dc3) (.slice tA3 M2.t.length tc3) (.slice rA3 M2.rest.len rc3)) hm1 rfl
          have hb1:Below w12.heap.size w12 (World.putAll (w12.alloc (.cells zmvs 35)) w12.heap.size (mvs M2 (.slice dA3 M2.d.length dc3) (.slice tA3 M2.t.length tc3) (.slice rA3 M2.rest.len rc3))) :=
           (ba (a:=w12) b0 (.cells zmvs 35)).trans ((putAll_tch _ w12.heap.size _).toBelowB (by simp) fun g hg e => by omega)
          obtain ⟨w13,hwv⟩:∃ wv,wv=World.putAll (w12.alloc (.cells zmvs 35)) w12.heap.size (mvs M2 (.slice dA3 M2.d.length dc3) (.slice tA3 M2.t.length tc3) (.slice rA3 M2.rest.len rc3)):=⟨_,rfl⟩
          rw [← hwv] at hm2 hb1
          have HM1:=Lib.hid hm1
          have HX3:=Lib.hid hm2
          have HBT3:=Lib.hid hb1
          have HV3:=Lib.hid (hmg.below hb1)
          simp only [zmvs] at HM1 hwv
          clear hm1 hm2 hb1 hmg
          go_wp2_with
           (with_reducible show wpList _ _ _ (Oper.mk _ (Op.store 35 _ _) _ _ _ _ :: _) _ _;apply pin)
          refine wpList_store_blk rfl _ _ _ rfl _ (mvs M2 (.slice dA3 M2.d.length dc3) (.slice tA3 M2.t.length tc3) (.slice rA3 M2.rest.len rc3)) rfl rfl HM1.out rfl (info_msg _ _ _ _) mvs_one ?_
          rw [← hwv]
          clear hwv HM1
          simp only [Act.put]
          have HBQ:=Lib.hid (bb HB12.out HBT3.out)
          clear HX3 HBT3 HV3 HB12
          obtain ⟨wq,rfl⟩:∃ wq,wq=w13:=⟨_,rfl⟩
          by_cases h77:E2=7
         focus
          subst h77
          clear H7 HML
          go_wp2_with fail
         rotate_left
         focus
          have hne:(E2 != 7)=true:=by simpa using h77
          have hbig:decide ((S.length:Int)+(LX.length:Int)≤65536)=false:=by
           refine decide_eq_false fun h => h77 (H7.out ?_)
           omega
          clear H7 HML
          go_wp2_with fail
         rotate_left
         all_goals
          have hof:=oflist_sl 4294967296 (.slice none 0 0) .nil (fun _ => True) wq (SlV.nil _ _ _ _) (by decide)
          rw [show ((4294967296:Nat):Int)=4294967296 from rfl] at hof
          refine hof.mono ?_
          rintro e w20 ⟨A0,c0,rfl,hs20,hb20⟩
          have hz:=BlkAt.made w20 47 #[.int .u64 0,.int .i64 0,.int .u64 0,.string ByteArray.empty,.slice none 0 0]
          have hp1:=putAll_at (ds:=#[.int .u64 4294967296,.int .i64 2,.int .u64 0,.string ByteArray.empty,.slice A0 0 c0]) hz rfl
          have hb21:Below w20.heap.size w20 (World.putAll (w20.alloc (.cells #[.int .u64 0,.int .i64 0,.int .u64 0,.string ByteArray.empty,.slice none 0 0] 47)) w20.heap.size #[.int .u64 4294967296,.int .i64 2,.int .u64 0,.string ByteArray.empty,.slice A0 0 c0]) :=
           (ba (a:=w20) b0 (.cells #[.int .u64 0,.int .i64 0,.int .u64 0,.string ByteArray.empty,.slice none 0 0] 47)).trans ((putAll_tch _ w20.heap.size _).toBelowB (by simp) fun g hg e => by omega)
          have HZ:=Lib.hid hz
          obtain ⟨w21,hw21⟩:∃ w21,w21=World.putAll (w20.alloc (.cells #[.int .u64 0,.int .i64 0,.int .u64 0,.string ByteArray.empty,.slice none 0 0] 47)) w20.heap.size #[.int .u64 4294967296,.int .i64 2,.int .u64 0,.string ByteArray.empty,.slice A0 0 c0]:=⟨_,rfl⟩
          rw [← hw21] at hp1 hb21
          have H0:Hid (DpAt w w20.heap.size 0 w21):=⟨A0,c0,hp1,(hs20.lt.below hb21).imp fun k hk => by omega,bb (bb HBQ.out hb20) hb21⟩
          have HDW:=Lib.hid (bb HBQ.out hb20).size
          clear hof hs20 hb20 hz hp1 hb21 HBQ
          go_wp2_with
           (with_reducible show wpList _ _ _ (Oper.mk _ (Op.store 47 _ _) _ _ _ _ :: _) _ _;apply pin)
          refine wpList_store_blk rfl _ _ _ rfl _ #[.int .u64 4294967296,.int .i64 2,.int .u64 0,.string ByteArray.empty,.slice A0 0 c0] rfl rfl HZ.out rfl info_fld5 (by simp [Value.oneCell']) ?_
          have hw22:World.putAll (w20.alloc (.cells #[.int .u64 0,.int .i64 0,.int .u64 0,.string ⟨#[]⟩,.slice none 0 0] 47)) w20.heap.size #[.int .u64 4294967296,.int .i64 2,.int .u64 0,.string ByteArray.empty,.slice A0 0 c0]=w21:=hw21.symm
          rw [hw22]
          clear hw21 hw22 HZ
          simp only [Act.put]
          have hDw:w.heap.size≤w20.heap.size:=HDW.out
          clear HDW
          generalize w20.heap.size=D at *
          go_wp2_with fail
          go_loopg [113] 8 (fun gk kk wr => ∃ k:Nat,k≤8∧8 - k≤gk∧kk=.int .i64 (k:Int)∧Hid (DpAt w D k wr))
          case atStart => exact ⟨0,by omega,by omega,rfl,H0⟩
          case round =>
           obtain ⟨k9,hk9,hgk9,rfl,HS⟩:=hrel
           obtain ⟨A9,c9,hbk,hsl9,hbel9⟩:=HS.out
           have e0:=hbk.cell 0
           have e1:=hbk.cell 1
           have e2:=hbk.cell 2
           have e3:=hbk.cell 3
           have e4:=hbk.cell 4
           simp at e0 e1 e2 e3 e4
           have hlD:=hbk.lt
           have hm9:=BlkAt.made wr 47 #[.int .u64 4294967296,.int .i64 2,.int .u64 0,.string ByteArray.empty,.slice A9 (deepI k9).len c9]
           have hb9:=ba (a:=wr) b0 (.cells #[.int .u64 4294967296,.int .i64 2,.int .u64 0,.string ByteArray.empty,.slice A9 (deepI k9).len c9] 47)
           have hs9:SlV (wr.alloc (.cells #[.int .u64 4294967296,.int .i64 2,.int .u64 0,.string ByteArray.empty,.slice A9 (deepI k9).len c9] 47)) (fun _ => True) (.slice (some ⟨wr.heap.size,0,none⟩) 1 1) (deepF k9):=by
            rw [deepF_eq]
            exact slv_blk (f:=.cons 4294967296 2 0 ByteArray.empty (deepI k9) .nil) hm9 (show Cls _ (fun _ => True) [.int .u64 ((4294967296:Nat):Int),.int .i64 2,.int .u64 ((0:Nat):Int),.string ByteArray.empty,.slice A9 (deepI k9).len c9] (.cons 4294967296 2 0 ByteArray.empty (deepI k9) .nil) from ⟨rfl,rfl,rfl,rfl,(hsl9.below hb9).imp fun _ _ => trivial,trivial⟩) trivial (Nat.le_refl _)
           have HBK:=Lib.hid (hbk.below hb9 hlD)
           have HB9:=Lib.hid (bb hbel9 hb9)
           by_cases hk8:k9 < 8
           · have hk8i:(k9:Int) < 8:=by omega
             have hof:=oflist_sl 4294967296 (.slice (some ⟨wr.heap.size,0,none⟩) 1 1) (deepF k9) (fun _ => True) _ hs9 (by rw [deep_count];omega)
             rw [show ((4294967296:Nat):Int)=4294967296 from rfl,deep_len] at hof
             have HOF:=Lib.hid hof
             clear hof hs9 hm9 hb9 hbk hsl9 hbel9 HS H0
             generalize (deepI k9).len=il at *
             go_wp2_with fail
             refine HOF.out.mono ?_
             rintro e w22 ⟨A2,c2,rfl,hs22,hb22⟩
             have hbk2:=HBK.out.below hb22 HBK.out.lt
             have hp2:=putAll_at (ds:=#[.int .u64 4294967296,.int .i64 2,.int .u64 0,.string ByteArray.empty,.slice A2 1 c2]) hbk2 rfl
             have ht2:=putAll_tch w22 D #[.int .u64 4294967296,.int .i64 2,.int .u64 0,.string ByteArray.empty,.slice A2 1 c2]
             have hbx:=bb HB9.out hb22
             have HBK2:=Lib.hid hbk2
             obtain ⟨w23,hw23⟩:∃ w23,w23=World.putAll w22 D #[.int .u64 4294967296,.int .i64 2,.int .u64 0,.string ByteArray.empty,.slice A2 1 c2]:=⟨_,rfl⟩
             rw [← hw23] at hp2 ht2
             have HN:Hid (DpAt w D (k9+1) w23):=by
              refine ⟨A2,c2,?_,?_,hbx.trans (ht2.toBelowB hbx.size fun g hg e => by have:=hDw;omega)⟩
              · rw [show deepI (k9+1)=deepF k9 from rfl,deep_len];exact hp2
              · rw [show deepI (k9+1)=deepF k9 from rfl,deep_len]
                refine (hs22.tch ht2 fun q hq e => ?_).imp fun q hq e => ?_ <;> simp only [World.size_alloc] at hq <;> omega
             clear hs22 hb22 hbk2 hp2 ht2 hbx HOF HBK HB9 e0 e1 e2 e3 e4
             go_wp2_with
              (with_reducible show wpList _ _ _ (Oper.mk _ (Op.store 47 _ _) _ _ _ _ :: _) _ _;apply pin)
             refine wpList_store_blk rfl _ _ _ rfl _ #[.int .u64 4294967296,.int .i64 2,.int .u64 0,.string ByteArray.empty,.slice A2 1 c2] rfl rfl HBK2.out rfl info_fld5 (by simp [Value.oneCell']) ?_
             rw [← hw23]
             clear hw23 HBK2
             simp only [Act.put]
             go_wp2_with fail
             go_roundg (8 - (k9+1))
             case measure => omega
             case rel => exact ⟨k9+1,by omega,Nat.le_refl _,by go_num,HN⟩
           · obtain rfl:k9=8:=by omega
             have HPU:=Lib.hid (wput_of _ _ _ _ hs9 (deep_all 8) (by rw [deep_count];omega) deep_ftx)
             rw [deep_put] at HPU
             clear hs9 hm9 hb9 hbk hsl9 hbel9 HS H0 HBK
             generalize (deepI 8).len=il at *
             go_wp2_with fail
             refine HPU.out.mono ?_
             rintro e w22 ⟨rfl,hb22⟩
             have HB22:=Lib.hid (bb HB9.out hb22)
             clear hb22 HPU HB9 e0 e1 e2 e3 e4
             go_wp2_with fail
             refine (HD5.out _ HB22.out).mono ?_
             rintro e w23 ⟨dv,tv,rv,rfl,hmg,hb23⟩
             have HB23:=Lib.hid (bb HB22.out hb23)
             clear hb23 HB22 HD5
             obtain ⟨dA4,dc4,tA4,tc4,rA4,rc4,rfl,rfl,rfl⟩:=hmg.slices
             have hm1:=BlkAt.made w23 35 zmvs
             have hm2:=putAll_at (ds:=mvs M3 (.slice dA4 M3.d.length dc4) (.slice tA4 M3.t.length tc4) (.slice rA4 M3.rest.len rc4)) hm1 rfl
             have hb1:Below w23.heap.size w23 (World.putAll (w23.alloc (.cells zmvs 35)) w23.heap.size (mvs M3 (.slice dA4 M3.d.length dc4) (.slice tA4 M3.t.length tc4) (.slice rA4 M3.rest.len rc4))) :=
              (ba (a:=w23) b0 (.cells zmvs 35)).trans ((putAll_tch _ w23.heap.size _).toBelowB (by simp) fun g hg e => by omega)
             obtain ⟨w24,hwv⟩:∃ wv,wv=World.putAll (w23.alloc (.cells zmvs 35)) w23.heap.size (mvs M3 (.slice dA4 M3.d.length dc4) (.slice tA4 M3.t.length tc4) (.slice rA4 M3.rest.len rc4)):=⟨_,rfl⟩
             rw [← hwv] at hm2 hb1
             have HM1:=Lib.hid hm1
             have HX4:=Lib.hid hm2
             have HBT4:=Lib.hid hb1
             have HV4:=Lib.hid (hmg.below hb1)
             simp only [zmvs] at HM1 hwv
             clear hm1 hm2 hb1 hmg
             go_wp2_with
              (with_reducible show wpList _ _ _ (Oper.mk _ (Op.store 35 _ _) _ _ _ _ :: _) _ _;apply pin)
             refine wpList_store_blk rfl _ _ _ rfl _ (mvs M3 (.slice dA4 M3.d.length dc4) (.slice tA4 M3.t.length tc4) (.slice rA4 M3.rest.len rc4)) rfl rfl HM1.out rfl (info_msg _ _ _ _) mvs_one ?_
             rw [← hwv]
             clear hwv HM1
             simp only [Act.put]
             have HB24:=Lib.hid (bb HB23.out HBT4.out)
             clear HBT4 HB23 HX4 HV4
             go_wp2_with fail
             go_ret
             exact ⟨rfl,HB24.out⟩
   · have hz1:(E != 0)=true:=by simpa using hE
     clear hE HRJ HFI2 HDE HD3 HX2 HV2 hsz5
     go_wp2_with fail
     go_ret
     exact ⟨rfl,HB5.out⟩
end Go.Proofs.YtgidfnhfgiehjaaGreatDoor
end
