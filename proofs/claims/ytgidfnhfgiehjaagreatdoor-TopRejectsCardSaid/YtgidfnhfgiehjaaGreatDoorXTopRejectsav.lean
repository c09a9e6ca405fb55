/-
  Texts of the proof, joined: Schema1 Schema2 PlainMsg4. Conditions: as each names.
-/
import Derived.Test.YtgidfnhfgiehjaaGreatDoorXTopRejectsau
import Derived.Test.YtgidfnhfgiehjaaGreatDoorXTopRejectsar
import Derived.Test.YtgidfnhfgiehjaaGreatDoorXTopRejectsaj
import Derived.Test.YtgidfnhfgiehjaaGreatDoorXTopRejectsad
import Derived.Test.YtgidfnhfgiehjaaGreatDoorXTopRejectsak
import Derived.Test.YtgidfnhfgiehjaaGreatDoorXTopRejectsag

section
namespace Go.Proofs.YtgidfnhfgiehjaaGreatDoor
open Go.RowKit Go.PM
set_option maxRecDepth 100000
set_option maxHeartbeats 4000000
attribute [local go_sem ↓] Go.wp_at_zero Go.wp_at_succ
def FldEnd (w:World) (r:Fs × Int) (e:Ending) (w':World):Prop :=
 ∃ (A:Option Addr) (c:Nat),e=.returned (.tuple #[.slice A r.1.len c,.int .i64 r.2])∧SlV w' (w.heap.size≤·) (.slice A r.1.len c) r.1∧Below w.heap.size w w'
def KfAt (w:World) (f:Fs) (vv:Value) (wr:World):Prop:=∃ A c xs,vv=.slice A f.len c∧wr.ownsRow w.heap.size 47 5 (.slice A f.len c) f.len xs∧Cls wr (fun _ => False) xs f∧Below w.heap.size w wr
theorem Cls.bare {w:World} {I J:Nat→Prop}:∀ {xs:List Value} {f:Fs},Cls w I xs f→(∀ x ∈ f.toL,x.inner=.nil)→Cls w J xs f
 | [],.nil,_,_ => trivial
 | _ :: _ :: _ :: _ :: _ :: _,.cons t y n s i r,h,hn => by
   have hi:i=.nil:=hn ⟨t,y,n,s,i⟩ List.mem_cons_self
   subst hi
   obtain ⟨A,c,h1,h2,_⟩:=h.2.2.2.2.1
   exact ⟨h.1,h.2.1,h.2.2.1,h.2.2.2.1,⟨A,c,h1,h2,.inl rfl⟩,Cls.bare h.2.2.2.2.2 fun x hx => hn x (List.mem_cons_of_mem _ hx)⟩
 | [],.cons ..,h,_ => h.elim
 | _ :: _,.nil,h,_ => by simp [Cls] at h
 | [_],.cons ..,h,_ => by simp [Cls] at h
 | [_,_],.cons ..,h,_ => by simp [Cls] at h
 | [_,_,_],.cons ..,h,_ => by simp [Cls] at h
 | [_,_,_,_],.cons ..,h,_ => by simp [Cls] at h
theorem kapp_run {w2 wr W6:World} {i0:TypeInfo} (hi0:Tryz.prog.info? 47=some i0) (hz0:i0.zero=some zfield) (hz1:i0.size=5) (hz2:i0.bytes=64) {F:List Fl} {Av:Option Addr} {cv:Nat} {xs:List Value} {x:Fl} {g:Nat} (hown:wr.ownsRow w2.heap.size 47 5 (.slice Av (ofL F).len cv) (ofL F).len xs)
 (hcls:Cls wr (fun _ => False) xs (ofL F)) (hbel:Below w2.heap.size w2 wr) (hb:Below wr.heap.size wr W6) (hg:BlkAt W6 g 47 #[.int .u64 (x.tag:Int),.int .i64 x.ty,.int .u64 (x.num:Int),.string x.text,.slice none 0 0]) (hgl:wr.heap.size≤g) (hx:x.inner=.nil) (hF:∀ y ∈ F,y.inner=.nil) (h5:(ofL F).len≤100) :
 ∃ (A':Option Addr) (c':Nat) (w':World),(Builtin.append_ #[33,33] 33 #[.slice Av (ofL F).len cv,.slice (some ⟨g,0,none⟩) 1 1]).run Tryz.prog W6=.ok (.slice A' (ofL (F++[x])).len c') w'∧KfAt w2 (ofL (F++[x])) (.slice A' (ofL (F++[x])).len c') w':=by
 have hsl:SlV W6 (fun k => k=g) (.slice (some ⟨g,0,none⟩) (ofL [x]).len 1) (ofL [x]):=by
  refine ⟨_,1,rfl,Nat.le_refl _,.inr ⟨g,0,rfl,rfl,hg.lt,?_⟩⟩
  refine Cls.at_ (xs:=[.int .u64 (x.tag:Int),.int .i64 x.ty,.int .u64 (x.num:Int),.string x.text,.slice none 0 0]) ?_ fun j u hj => ?_
  · obtain ⟨t,y,n,s,i⟩:=x
    simp only at hx
    subst hx
    exact ⟨rfl,rfl,rfl,rfl,SlV.nil _ _ _ _,trivial⟩
  · rw [Nat.zero_add,hg.cell j,List.getElem?_toArray]
    exact hj
 obtain ⟨A',c',w',xs',hrun,hown',hcls',hgr,_⟩:=fapp_run (P:=Tryz.prog) 33 33 47 i0 Tryz.underlying33 hi0 hz0 hz1 hz2 (own_below hown hb) (hcls.below hb) (fun k hk => hk.elim) hsl (fun k hk e => by have:=(hown.lt k e).2;omega) (by
  have:(ofL [x]).len=1:=rfl
  omega) (Nat.le_trans hbel.size hb.size)
 rw [ofL_app]
 refine ⟨A',c',w',hrun,A',c',xs',rfl,hown',Cls.bare hcls' fun y hy => ?_,(hbel.trans (hb.mono hbel.size)).grown hgr (Nat.le_trans hbel.size hb.size) fun k hk => (hown.lt k hk).1⟩
 rw [toL_app,toL_ofL,toL_ofL,List.mem_append] at hy
 rcases hy with hy | hy
 · exact hF y hy
 · rw [List.mem_singleton.1 hy,hx]
theorem fields19 (v:Nat) (h1:1≤v) (h3:v≤3) {I:Nat→Prop} {m:Mp} {dv tv rv:Value} (w:World) (hv:MgV w I m dv tv rv) (hz:Msz m) (hT:Tabs w) :
 Calls Tryz.prog 13 #[.agg (mvs m dv tv rv),.int .i64 (v:Int)] w (FldEnd w (mfields m v)):=by
 obtain ⟨i0,hi0,hz0,hz1,hz2⟩:=info_parts info_field
 have HP0:Hid (mcheck m v≠0→mfields m v=(.nil,mcheck m v)):=fun h => by unfold mfields;rw [if_pos h]
 have HP1:Hid (mcheck m v=0→mfields m v=((fmerge [mknown m (kknown (knat m.kind) v),m.rest]).1,((fmerge [mknown m (kknown (knat m.kind) v),m.rest]).2:Int))):=fun h => by unfold mfields;rw [if_neg (by simpa using h)]
 have HZ:=Lib.hid hz
 have HT:=Lib.hid hT
 obtain ⟨dA,dc,tA,tc,rA,rc,rfl,rfl,rfl⟩:=hv.slices
 have HM:Hid (BlkAt (w.alloc (.cells (mvs m (.slice dA m.d.length dc) (.slice tA m.t.length tc) (.slice rA m.rest.len rc)) 35)) w.heap.size 35 (mvs m (.slice dA m.d.length dc) (.slice tA m.t.length tc) (.slice rA m.rest.len rc))):=BlkAt.made w 35 (mvs m (.slice dA m.d.length dc) (.slice tA m.t.length tc) (.slice rA m.rest.len rc))
 have HBM:=Lib.hid (ba (a:=w) b0 (.cells (mvs m (.slice dA m.d.length dc) (.slice tA m.t.length tc) (.slice rA m.rest.len rc)) 35))
 have HV:=Lib.hid (hv.below HBM.out)
 obtain ⟨wz,hwz⟩:∃ wz,wz=w.alloc (.cells (mvs m (.slice dA m.d.length dc) (.slice tA m.t.length tc) (.slice rA m.rest.len rc)) 35):=⟨_,rfl⟩
 have hsz:wz.heap.size=w.heap.size+1:=by rw [hwz];simp
 rw [← hwz] at HM HBM HV
 clear hv
 simp only [mvs] at hwz
 have HCK:=Lib.hid (mcheck_any v h1 h3 wz HV.out HZ.out (HT.out.below HBM.out))
 have HMA:=HM
 rw [hwz] at HMA
 show Calls _ _ #[.agg #[.int .i64 m.kind,.int .u64 (m.id:Int),.int .u64 (m.min_:Int),.int .u64 (m.max_:Int),.int .u64 (m.chosen:Int),.int .u64 (m.flags:Int),.int .u64 (m.cost:Int),.int .u64 (m.prio:Int),.int .u64 (m.dead:Int),.int .u64 (m.retry:Int),.int .u64 (m.epoch:Int),.int .u64 (m.base:Int),.int .u64 (m.digest:Int),.int .u64 (m.lag:Int),.int .u64 (m.code:Int),.int .u64 (m.want:Int),.int .i64 m.rem,.bool m.al,.string (txt m.nm),.string (txt m.rg),.string (txt m.nt),.slice dA m.d.length dc,.slice tA m.t.length tc,.slice rA m.rest.len rc],.int .i64 (v:Int)] _ _
 go_enter Tryz.func13,Tryz.ntmps13
 go_wp2_with
  (with_reducible show wpList _ _ _ (Oper.mk _ (Op.load 35 _) _ _ _ _ :: _) _ _;refine wpList_load_blk rfl _ _ rfl _ rfl _ HMA.out Tryz.underlying35 rfl (info_msg _ _ _ _) ?_)
 rw [← hwz]
 refine HCK.out.mono ?_
 rintro e w1 ⟨rfl,hb1⟩
 have HB1:=Lib.hid hb1
 clear hb1 HCK hwz HMA hz hT
 by_cases hc0:mcheck m v≠0
 · have h:=HP0.out hc0
   have hcb:(mcheck m v == 0)=false:=by rw [beq_eq_false_iff_ne];exact hc0
   have HE:Hid (∀ w',Below w.heap.size w w'→FldEnd w (mfields m v) (.returned (.tuple #[.slice none 0 0,.int .i64 (mcheck m v)])) w'):=fun w' hb => by
    rw [h]
    exact ⟨none,0,rfl,SlV.nil _ _ _ _,hb⟩
   clear h HP0 HP1
   generalize mcheck m v=E at *
   generalize FldEnd w (mfields m v)=Q at *
   go_wp2_with fail
   exact HE.out _ (bb HBM.out HB1.out)
 · have hce:mcheck m v=0:=by simpa using hc0
   have hmf:=HP1.out hce
   have hE:=may_d (check_may hce 6 (by decide))
   obtain ⟨c1,_,_,c4,_,_,_⟩:=mcheck_ok hce
   have hk4:=kfrom_knat c1
   have hkv:kfrom (knat m.kind)≤v:=(mcheck_ok hce).2.1
   have hkk:m.kind=(knat m.kind:Int):=by
    have h1:=hk4.1
    unfold knat at h1 ⊢
    split at h1
    · rename_i h;rw [if_pos h];omega
    · omega
   have HKN:Hid (∀ x,Calls Tryz.prog 39 #[.int .i64 m.kind,.int .i64 (v:Int)] x (KnEnd x (kknown (knat m.kind) v))):=fun x => by
    have:=known17 (knat m.kind) v x hk4.1 hk4.2.1 hkv h3
    rw [← hkk] at this
    exact this
   have HOK:=Lib.hid (known_ok (knat m.kind) v)
   have hll:(kknown (knat m.kind) v).length≤5:=Nat.le_trans (List.length_filter_le _ _) (kspecs_len (knat m.kind))
   have HKA:=Lib.hid (known_all c4 HZ.out.good)
   have HPO:Hid (∀ e w' w2,Below w.heap.size w w2→MergeEnd w2 (fmerge [mknown m (kknown (knat m.kind) v),m.rest]) e w'→FldEnd w (mfields m v) e w'):=fun e w' w2 hb hme => by
    rw [hmf]
    obtain ⟨A,c,h1,h2,h3⟩:=hme
    exact ⟨A,c,h1,h2.imp fun q hq => Nat.le_trans hb.size hq,bb hb h3⟩
   have HEM:=Lib.hid hE
   rw [hce]
   clear hmf HP0 HP1 hc0 hce c1 c4 hk4 hkv hkk hE
   generalize FldEnd w (mfields m v)=Q at *
   generalize kknown (knat m.kind) v=L at *
   have hm1:=HM.out.below HB1.out HM.out.lt
   have hc0:w1.cell? ⟨w.heap.size,0,none⟩=some (.int .i64 m.kind):=hm1.cell 0
   have hl1:=hm1.lt
   clear hm1
   go_wp2_with fail
   refine (HKN.out _).mono ?_
   rintro e w2 ⟨A,c,rfl,hrd,hlc,hb2⟩
   have HRD:=Lib.hid hrd
   have HB2:=Lib.hid (bb HB1.out hb2)
   have H0:Hid (KfAt w2 (ofL ((L.take 0).filterMap (sfl m))) (.slice none 0 0) w2):=⟨none,0,[],rfl,World.ownsRow_nil _ _ _ _,trivial,b0⟩
   clear hrd hb2 HKN hc0 hl1 HB1
   go_wp2_with fail
   go_loopg [7,23] L.length (fun gk vv ki wr => ∃ j:Nat,j≤L.length∧L.length - j≤gk∧ki=.int .i64 (j:Int)∧Hid (KfAt w2 (ofL ((L.take j).filterMap (sfl m))) vv wr))
   case atStart => exact ⟨0,Nat.zero_le _,by omega,rfl,H0⟩
   case round =>
    obtain ⟨j,hj,hgj,rfl,HS⟩:=hrel
    obtain ⟨Av,cv,xs,rfl,hown,hcls,hbel⟩:=HS.out
    have HBR:=Lib.hid (bb HB2.out hbel)
    by_cases hlt:j < L.length
    · obtain ⟨b,off,hAe,hbl,c0,c1,c2,c3⟩:=rd_spec (HRD.out.below hbel) hlt
      subst hAe
      obtain ⟨s1,s2,s3,_,_,s6,_⟩:=HOK.out.2 L[j] (List.getElem_mem hlt)
      have hst:(L.take (j+1)).filterMap (sfl m)=(L.take j).filterMap (sfl m)++(sfl m L[j]).toList:=by
       rw [← List.take_append_getElem hlt,List.filterMap_append,List.filterMap_cons,List.filterMap_nil]
       cases sfl m L[j] <;> rfl
      have HST:=Lib.hid hst
      have hfl5:(ofL ((L.take j).filterMap (sfl m))).len≤5:=by
       rw [ofL_len]
       exact Nat.le_trans (List.length_filterMap_le _ _) (by rw [List.length_take];omega)
      generalize hs:L[j]=s at *
      rw [s6] at c3
      have HFN:Hid (∀ y ∈ (L.take j).filterMap (sfl m),y.inner=.nil):=fun y hy => by
       obtain ⟨s',_,hs'⟩:=List.mem_filterMap.1 hy
       rw [(sfl_some hs').2]
      generalize (L.take j).filterMap (sfl m)=F at *
      have hbs:=ba (a:=wr) b0 (.cells #[.int .u64 (s.tag:Int),.int .i64 (s.use:Int),.int .i64 (s.from_:Int),.string (txt (nmAt (six s)))] 94)
      have hms:=BlkAt.made wr 94 #[.int .u64 (s.tag:Int),.int .i64 (s.use:Int),.int .i64 (s.from_:Int),.string (txt (nmAt (six s)))]
      have hmm:=(HM.out.below HBR.out HM.out.lt).below hbs (HM.out.below HBR.out HM.out.lt).lt
      have HVL:=Lib.hid (value_any (wr.alloc (.cells #[.int .u64 (s.tag:Int),.int .i64 (s.use:Int),.int .i64 (s.from_:Int),.string (txt (nmAt (six s)))] 94)) (HV.out.below (bb HBR.out hbs)) HZ.out HEM.out (HT.out.below (bb HBM.out (bb HBR.out hbs))) (six s) s1)
      have HBS:=Lib.hid hbs
      have HMS:=Lib.hid hms
      have HMM:=Lib.hid hmm
      have HOW:=Lib.hid hown
      have HCL:=Lib.hid hcls
      have HBE:=Lib.hid hbel
      have hlw:=HMM.out.lt
      simp only [World.size_alloc] at hlw
      have S2:=Lib.hid s2
      clear hbs hms hmm hown hcls hbel HS H0 hs hst s3 s6 s2
      generalize txt (nmAt (six s))=N at *
      go_wp2_with
       (with_reducible show wpList _ _ _ (Oper.mk _ (Op.load 35 _) _ _ _ _ :: _) _ _;refine wpList_load_blk rfl _ _ rfl _ rfl _ HMM.out Tryz.underlying35 rfl (info_msg _ _ _ _) ?_)
      refine HVL.out.mono ?_
      rintro e w5 ⟨rfl,hb5⟩
      have hm5:=HMS.out.below hb5 HMS.out.lt
      have q0:=hm5.cell 0
      have hlq:=hm5.lt
      simp at q0
      have HB5:=Lib.hid (bb HBS.out hb5)
      rw [← S2.out]
      clear hm5 hb5 HVL HBS HMS HMM
      have HSF:Hid (sfl m s=if (m.val (six s)).field.1=0∧(m.val (six s)).field.2=[] then none else some ⟨s.tag,if s.use≤2 then 0 else 1,(m.val (six s)).field.1,txt (m.val (six s)).field.2,.nil⟩):=rfl
      generalize (m.val (six s)).field.1=n at *
      generalize (m.val (six s)).field.2=S at *
      simp only [vfield]
      generalize (if s.use≤2 then (0:Int) else 1)=TY at *
      have hwb:=HBE.out.size
      have HB6:=Lib.hid (ba HB5.out (.cells #[.int .u64 0,.int .i64 TY,.int .u64 (n:Int),.string (txt S),.slice none 0 0] 47))
      rcases Decidable.em (n=0∧S=[]) with ⟨hn0,hS0⟩ | hne
      · have hst:=HST.out
        rw [HSF.out,if_pos ⟨hn0,hS0⟩,Option.toList_none,List.append_nil] at hst
        have HN:Hid (KfAt w2 (ofL ((L.take (j+1)).filterMap (sfl m))) (.slice Av (ofL F).len cv) (w5.alloc (.cells #[.int .u64 0,.int .i64 TY,.int .u64 (n:Int),.string (txt S),.slice none 0 0] 47))):=by
         rw [hst]
         exact ⟨Av,cv,xs,rfl,own_below HOW.out HB6.out,HCL.out.below HB6.out,HBE.out.trans (HB6.out.mono hwb)⟩
        have he:(txt S).toList.isEmpty=true:=by rw [eq0_str];simpa using hS0
        have hnb:((n:Int) == 0)=true:=by rw [beq_iff_eq];omega
        clear HST HSF hst hn0 hS0
        go_wp2_with fail
        go_roundg (L.length - (j+1))
        case measure => omega
        case rel => exact ⟨j+1,by omega,Nat.le_refl _,by go_num,HN⟩
      · have hst:=HST.out
        rw [HSF.out,if_neg hne,Option.toList_some] at hst
        have hbk:=ba (ba HB5.out (.cells #[.int .u64 (s.tag:Int),.int .i64 TY,.int .u64 (n:Int),.string (txt S),.slice none 0 0] 47)) (.cells #[.int .u64 (s.tag:Int),.int .i64 TY,.int .u64 (n:Int),.string (txt S),.slice none 0 0] 47)
        have hmk:=BlkAt.made (w5.alloc (.cells #[.int .u64 (s.tag:Int),.int .i64 TY,.int .u64 (n:Int),.string (txt S),.slice none 0 0] 47)) 47 #[.int .u64 (s.tag:Int),.int .i64 TY,.int .u64 (n:Int),.string (txt S),.slice none 0 0]
        rw [World.size_alloc] at hmk
        obtain ⟨A',c',w7,hrun,hkf⟩:=kapp_run (x:=⟨s.tag,TY,n,txt S,.nil⟩) hi0 hz0 hz1 hz2 HOW.out HCL.out HBE.out hbk hmk (by have:=HB5.out.size;omega) rfl HFN.out (by omega)
        rw [← hst] at hrun hkf
        have HRUN:=Lib.hid hrun
        have HN:=Lib.hid hkf
        obtain ⟨G,hG⟩:∃ G,G=ofL ((L.take (j+1)).filterMap (sfl m)):=⟨_,rfl⟩
        rw [← hG] at HRUN HN
        have HGE:=Lib.hid hG
        clear hst hbk hmk hrun hkf HST HSF hG HFN HOW HCL HBE HB6
        by_cases hn0:n=0
        · have hS0:S≠[]:=fun h => hne ⟨hn0,h⟩
          have he:(txt S).toList.isEmpty=false:=by rw [eq0_str];simpa using hS0
          have hnb:((n:Int) == 0)=true:=by rw [beq_iff_eq];omega
          clear hS0 hne hn0
          go_wp2_with (at_builtin;(refine wpList_append_run rfl _ _ _ _ rfl _ _ _ rfl rfl HRUN.out ?_))
          go_roundg (L.length - (j+1))
          case measure => omega
          case rel => exact ⟨j+1,by omega,Nat.le_refl _,by go_num,by rw [← HGE.out];exact HN⟩
        · have hnb:((n:Int) == 0)=false:=by rw [beq_eq_false_iff_ne];omega
          clear hne hn0
          go_wp2_with (at_builtin;(refine wpList_append_run rfl _ _ _ _ rfl _ _ _ rfl rfl HRUN.out ?_))
          go_roundg (L.length - (j+1))
          case measure => omega
          case rel => exact ⟨j+1,by omega,Nat.le_refl _,by go_num,by rw [← HGE.out];exact HN⟩
    · obtain rfl:j=L.length:=by omega
      rw [List.take_of_length_le (Nat.le_refl _)] at hown hcls
      have hsl:SlV wr (fun _ => True) (.slice Av (ofL (L.filterMap (sfl m))).len cv) (ofL (L.filterMap (sfl m))):=own_slT hown hcls
      have HSL:=Lib.hid hsl
      have HPO2:Hid (∀ e w' w2,Below w.heap.size w w2→MergeEnd w2 (fmerge [ofL (L.filterMap (sfl m)),m.rest]) e w'→Q e w'):=HPO
      have HKA2:Hid ((ofL (L.filterMap (sfl m))).All FKd):=HKA
      have hlc5:(ofL (L.filterMap (sfl m))).count≤100:=by
       rw [count_ofL]
       refine Nat.le_trans (sum_le_len _ 1 _ fun f hf => ?_) ?_
       · obtain ⟨s',_,hs'⟩:=List.mem_filterMap.1 hf
         rw [(sfl_some hs').2]
         exact Nat.le_refl _
       · have:=List.length_filterMap_le (sfl m) L
         omega
      have HLC:=Lib.hid hlc5
      have hm1:=HM.out.below HBR.out HM.out.lt
      have hc23:wr.cell? ⟨w.heap.size,23,none⟩=some (.slice rA m.rest.len rc):=hm1.cell 23
      have hlw:=hm1.lt
      rw [List.take_of_length_le (Nat.le_refl _)]
      clear hown hcls hsl hbel HS H0 hm1 HPO HKA hlc5
      generalize ofL (L.filterMap (sfl m))=F at *
      have hbk:=ba (a:=wr) b0 (.cells #[.slice Av F.len cv,.slice rA m.rest.len rc] 33)
      have hrd:Rd (wr.alloc (.cells #[.slice Av F.len cv,.slice rA m.rest.len rc] 33)) (some ⟨wr.heap.size,0,none⟩) [.slice Av F.len cv,.slice rA m.rest.len rc]:=rd_new wr _ [.slice Av F.len cv,.slice rA m.rest.len rc]
      have HME:=Lib.hid (merge_any (some ⟨wr.heap.size,0,none⟩) 2 [F,m.rest] [.slice Av F.len cv,.slice rA m.rest.len rc] (fun _ => True) (wr.alloc (.cells #[.slice Av F.len cv,.slice rA m.rest.len rc] 33)) hrd
       ⟨HSL.out.below hbk,((HV.out.below (bb HBR.out hbk)).2.2).imp fun _ _ => trivial,trivial⟩ (fun f hf => by
         simp only [List.mem_cons,List.not_mem_nil,or_false] at hf
         rcases hf with rfl | rfl
         · exact HKA2.out
         · exact HZ.out.good.2) (by
         show (F.app (m.rest.app .nil)).count≤1000000
         rw [Fs.app_count,Fs.app_nil]
         have:=HLC.out
         have:=HZ.out.rest
         omega) (by simp))
      have HBK:=Lib.hid hbk
      clear hbk hrd HSL
      generalize fmerge [F,m.rest]=R at *
      generalize F.len=FL at *
      generalize m.rest.len=RL at *
      simp only [List.length_cons,List.length_nil,Nat.zero_add,Nat.reduceAdd] at HME
      go_wp2_with fail
      refine HME.out.mono ?_
      rintro e w7 hme
      have HQ:=HPO2.out e w7 _ (bb HBM.out (bb HBR.out HBK.out)) hme
      obtain ⟨A',c',rfl,_,_⟩:=hme
      have HQ2:=Lib.hid HQ
      clear HQ HPO2 HME
      generalize R.1.len=RRL at *
      go_wp2_with fail
      exact HQ2.out
end Go.Proofs.YtgidfnhfgiehjaaGreatDoor
end

section
namespace Go.Proofs.YtgidfnhfgiehjaaGreatDoor
open Go.RowKit Go.PM
set_option maxRecDepth 100000
set_option maxHeartbeats 4000000
attribute [local go_sem ↓] Go.wp_at_zero Go.wp_at_succ
theorem fput_len {f:Fs} (h:(fput f).2=0):(fput f).1.length≤65536:=by
 unfold fput at h ⊢
 by_cases e1:fcheck f 0 0≠0
 · rw [if_pos e1] at h;exact absurd h e1
 · rw [if_neg e1] at h ⊢
   by_cases e2:65536 < (ftx f).length
   · rw [if_pos e2] at h;exact absurd h (by decide)
   · rw [if_neg e2]
     show (ftx f).length≤65536
     omega
theorem txt_add (V X:List UInt8):(⟨V.toArray⟩:ByteArray)++txt X=txt (V++X):=by
 apply ByteArray.ext
 simp [txt,ByteArray.data_append]
def TxEnd (w:World) (r:List UInt8 × Int) (e:Ending) (w':World):Prop:=e=.returned (.tuple #[.string (txt r.1),.int .i64 r.2])∧Below w.heap.size w w'
theorem encode19 (v:Nat) (h1:1≤v) (h3:v≤3) {I:Nat→Prop} {m:Mp} {dv tv rv:Value} (w:World) (hv:MgV w I m dv tv rv) (hz:Msz m) (hT:Tabs w) :
 Calls Tryz.prog 11 #[.agg (mvs m dv tv rv),.int .i64 (v:Int)] w (TxEnd w (mencode m v)):=by
 have HZ:=Lib.hid hz
 have HT:=Lib.hid hT
 have HME:Hid (mencode m v=if (mfields m v).2≠0 then ([],(mfields m v).2) else if (fput (mfields m v).1).2≠0 then ([],((fput (mfields m v).1).2:Int))
  else if 65536 < (vput (knat m.kind)++(fput (mfields m v).1).1).length then ([],4) else (vput (knat m.kind)++(fput (mfields m v).1).1,0)):=rfl
 have HSZ:Hid ((mfields m v).2=0→(mfields m v).1.All FKd∧(mfields m v).1.count≤1000000∧(ftx (mfields m v).1).length≤1000000000000):=fun h => mfields_sz hz h
 have HKI:Hid ((mfields m v).2=0→1≤knat m.kind∧knat m.kind≤8∧m.kind=(knat m.kind:Int)):=fun h => by
  have h4:=kfrom_knat (mcheck_ok (mfields_ok h).1).1
  refine ⟨h4.1,h4.2.1,?_⟩
  have h1:=h4.1
  unfold knat at h1 ⊢
  split at h1
  · rename_i h;rw [if_pos h];omega
  · omega
 obtain ⟨dA,dc,tA,tc,rA,rc,rfl,rfl,rfl⟩:=hv.slices
 have HM:Hid (BlkAt (w.alloc (.cells (mvs m (.slice dA m.d.length dc) (.slice tA m.t.length tc) (.slice rA m.rest.len rc)) 35)) w.heap.size 35 (mvs m (.slice dA m.d.length dc) (.slice tA m.t.length tc) (.slice rA m.rest.len rc))):=BlkAt.made w 35 (mvs m (.slice dA m.d.length dc) (.slice tA m.t.length tc) (.slice rA m.rest.len rc))
 have HBM:=Lib.hid (ba (a:=w) b0 (.cells (mvs m (.slice dA m.d.length dc) (.slice tA m.t.length tc) (.slice rA m.rest.len rc)) 35))
 have HV:=Lib.hid (hv.below HBM.out)
 obtain ⟨wz,hwz⟩:∃ wz,wz=w.alloc (.cells (mvs m (.slice dA m.d.length dc) (.slice tA m.t.length tc) (.slice rA m.rest.len rc)) 35):=⟨_,rfl⟩
 have hsz:wz.heap.size=w.heap.size+1:=by rw [hwz];simp
 rw [← hwz] at HM HBM HV
 clear hv
 simp only [mvs] at hwz
 have HFL:=Lib.hid (fields19 v h1 h3 wz HV.out HZ.out (HT.out.below HBM.out))
 have HMA:=HM
 rw [hwz] at HMA
 clear hz hT HV HZ HT
 generalize mencode m v=R at *
 generalize mfields m v=FE at *
 obtain ⟨F,E⟩:=FE
 simp only at HME HSZ HKI
 show Calls _ _ #[.agg #[.int .i64 m.kind,.int .u64 (m.id:Int),.int .u64 (m.min_:Int),.int .u64 (m.max_:Int),.int .u64 (m.chosen:Int),.int .u64 (m.flags:Int),.int .u64 (m.cost:Int),.int .u64 (m.prio:Int),.int .u64 (m.dead:Int),.int .u64 (m.retry:Int),.int .u64 (m.epoch:Int),.int .u64 (m.base:Int),.int .u64 (m.digest:Int),.int .u64 (m.lag:Int),.int .u64 (m.code:Int),.int .u64 (m.want:Int),.int .i64 m.rem,.bool m.al,.string (txt m.nm),.string (txt m.rg),.string (txt m.nt),.slice dA m.d.length dc,.slice tA m.t.length tc,.slice rA m.rest.len rc],.int .i64 (v:Int)] _ _
 go_enter Tryz.func11,Tryz.ntmps11
 go_wp2_with
  (with_reducible show wpList _ _ _ (Oper.mk _ (Op.load 35 _) _ _ _ _ :: _) _ _;refine wpList_load_blk rfl _ _ rfl _ rfl _ HMA.out Tryz.underlying35 rfl (info_msg _ _ _ _) ?_)
 rw [← hwz]
 refine HFL.out.mono ?_
 rintro e w1 ⟨A,c,rfl,hsl,hb1⟩
 simp only at hsl
 have HB1:=Lib.hid (bb HBM.out hb1)
 have HM1:=Lib.hid (HM.out.below hb1 HM.out.lt)
 have HSL:=Lib.hid hsl
 clear hb1 hsl HFL hwz HMA HM
 by_cases hE:E=0
 · subst hE
   obtain ⟨g1,g2,g3⟩:=HSZ.out rfl
   obtain ⟨k1,k8,kk⟩:=HKI.out rfl
   have KK:=Lib.hid kk
   clear kk
   have HWP:=Lib.hid (wput_of (.slice A F.len c) F _ w1 HSL.out g1 g2 g3)
   have hr2:=HME.out
   rw [if_neg (by simp)] at hr2
   have HR2:=Lib.hid hr2
   have HXL:=Lib.hid (fput_len (f:=F))
   clear hr2 HME HSZ HKI g1 g2 g3 HSL
   generalize fput F=PU at *
   obtain ⟨X,Y⟩:=PU
   simp only at HR2 HWP HXL
   generalize F.len=FL at *
   go_wp2_with fail
   refine HWP.out.mono ?_
   rintro e w2 ⟨rfl,hb2⟩
   have HB2:=Lib.hid (bb HB1.out hb2)
   have hm2:=HM1.out.below hb2 HM1.out.lt
   have hc0:w2.cell? ⟨w.heap.size,0,none⟩=some (.int .i64 m.kind):=hm2.cell 0
   have hl2:=hm2.lt
   clear hb2 HWP HM1 hm2 HB1
   by_cases hY:Y=0
   · subst hY
     have hr2:=HR2.out
     rw [if_neg (by simp)] at hr2
     have HR3:=Lib.hid hr2
     clear hr2 HR2
     rw [KK.out] at hc0
     clear KK
     generalize knat m.kind=k at *
     have HVP:=Lib.hid (fun x => put_any k x (by unfold In64;omega))
     have hcv:IntKind.u64.wrap (k:Int)=(k:Int):=by rw [IntKind.wrap_u64];omega
     have hXl:=HXL.out rfl
     have hVl:(vput k).length≤10:=by rw [vput_length];exact vsz_le10 (by omega)
     have hcat:∀ x:World,(Op.stringOp .add ⟨(vput k).toArray⟩ (txt X)).run Tryz.prog x=.ok (.string (txt (vput k++X))) x:=fun x => by
      rw [← txt_add]
      exact run_string_add_sum x _ _ (by simp [txt,ByteArray.size];omega)
     generalize hV:vput k=V at *
     go_wp2_with fail
     refine (HVP.out _).mono ?_
     rintro e w3 ⟨rfl,hb3⟩
     have HB3:=Lib.hid (bb HB2.out hb3)
     have HR4:Hid (R=if 65536 < (V++X).length then ([],4) else (V++X,0)):=HR3.out
     have HSZ:Hid ((txt (V++X)).size=(V++X).length):=txt_size _
     obtain ⟨Z,hZ⟩:∃ Z,Z=txt (V++X):=⟨_,rfl⟩
     rw [← hZ] at hcat HSZ
     have HZZ:=Lib.hid hZ
     clear hb3 HVP HR3 hc0 hl2 hXl hVl hZ
     generalize V++X=U at *
     by_cases hbig:65536 < Z.size
     · have hr3:=HR4.out
       rw [if_pos (by rw [← HSZ.out];exact hbig)] at hr3
       have hbi:(65536:Int) < (Z.size:Int):=by omega
       clear HR4 HSZ HZZ
       go_wp2_with fail
       go_ret2
       rw [hr3]
       exact ⟨rfl,HB3.out⟩
     · have hr3:=HR4.out
       rw [if_neg (by rw [← HSZ.out];exact hbig)] at hr3
       have hbi:¬ (65536:Int) < (Z.size:Int):=by omega
       clear HR4 HSZ
       go_wp2_with fail
       go_ret2
       rw [hr3]
       exact ⟨by rw [HZZ.out];rfl,HB3.out⟩
   · have hYp:¬ (Y:Int)=0:=by omega
     have hYb:((Y:Int) == 0)=false:=by rw [beq_eq_false_iff_ne];exact hYp
     have hr2:=HR2.out
     rw [if_pos hY] at hr2
     clear HR2
     go_wp2_with fail
     go_ret2
     rw [hr2]
     exact ⟨rfl,HB2.out⟩
 · have hEb:(E == 0)=false:=by rw [beq_eq_false_iff_ne];exact hE
   have hr2:=HME.out
   rw [if_pos hE] at hr2
   clear HME HSZ HKI HSL
   generalize F.len=FL at *
   go_wp2_with fail
   go_ret2
   rw [hr2]
   exact ⟨rfl,HB1.out⟩
end Go.Proofs.YtgidfnhfgiehjaaGreatDoor
end

section
namespace Go.Proofs.YtgidfnhfgiehjaaGreatDoor
open Go.RowKit Go.PM
theorem pkloop_num:∀ (n:Nat) (o:Option (List UInt8)) (s:List UInt8),(pkloop echk n o s).2.2=0→∀ x ∈ (pkloop echk n o s).1,x.2 < 18446744073709551616
 | 0,o,s,_,x,hx => by simp [pkloop] at hx
 | n+1,o,s,h,x,hx => by
   rw [pkloop] at h hx
   split at h
   · rename_i k;exact absurd h k
   rename_i k1
   rw [if_neg k1] at hx
   split at h
   · rename_i k;exact absurd h k
   rename_i k2
   rw [if_neg k2] at hx
   split at h
   · rename_i k;exact absurd h k
   rename_i k3
   rw [if_neg k3] at hx
   simp only at hx
   rcases List.mem_cons.1 hx with rfl | hx
   · exact (pkrow_ok (chk:=echk) (by simpa using k2)).2.2.2.2
   · exact pkloop_num n _ _ (by simpa using k3) x hx
theorem pkget_num {s:List UInt8} (h:(pkget echk s).2=0):∀ x ∈ (pkget echk s).1,x.2 < 18446744073709551616:=fun x hx => by
 unfold pkget at h hx
 split at h
 · rename_i k;exact absurd h k
 rename_i k1
 rw [if_neg k1] at hx
 split at h
 · exact absurd h (by decide)
 rename_i k2
 rw [if_neg k2] at hx
 simp only at hx
 have k1':(pknext echk s).2.2=0:=by simpa using k1
 unfold pknext at k1' hx
 split at k1'
 · rename_i k;simp at k1';exact absurd k1' k
 rename_i k3
 rw [if_neg k3] at hx
 split at k1'
 · exact absurd k1' (by decide)
 rename_i k4
 rw [if_neg k4] at hx
 split at k1'
 · rename_i k;exact absurd k1' k
 rename_i k5
 rw [if_neg k5] at hx
 exact pkloop_num _ _ _ (by simpa using k5) x hx
theorem setc_good {use:Nat} {ty:Int} {n:Nat} {s:List UInt8} (hn:n < 18446744073709551616) (h:(setc use ty n s).2=0):(setc use ty n s).1.good:=by
 unfold setc at h ⊢
 by_cases h2:use≤2
 · simp only [if_pos h2] at h ⊢
   by_cases ht:ty≠0
   · simp only [if_pos ht] at h;exact absurd h (by decide)
   simp only [if_neg ht] at h ⊢
   by_cases hn0:n=0
   · simp only [if_pos hn0] at h;exact absurd h (by decide)
   simp only [if_neg hn0] at h ⊢
   by_cases h0:use=0
   · simp only [if_pos h0];exact hn
   simp only [if_neg h0] at h ⊢
   by_cases h1:use=1
   · simp only [if_pos h1] at h ⊢
     by_cases hn1:n≠1
     · simp only [if_pos hn1] at h;exact absurd h (by decide)
     simp only [if_neg hn1];trivial
   simp only [if_neg h1]
   exact zback_64 (by unfold In64;exact hn)
 · simp only [if_neg h2] at h ⊢
   by_cases ht:ty≠1
   · simp only [if_pos ht] at h;exact absurd h (by decide)
   simp only [if_neg ht] at h ⊢
   by_cases hs:s=[]
   · simp only [if_pos hs] at h;exact absurd h (by decide)
   simp only [if_neg hs] at h ⊢
   by_cases h3:use=3
   · simp only [if_pos h3] at h ⊢
     by_cases hu:uchk s 0 256≠0
     · simp only [if_pos hu] at h;exact absurd h hu
     simp only [if_neg hu];trivial
   simp only [if_neg h3] at h ⊢
   by_cases h4:use=4
   · simp only [if_pos h4] at h ⊢
     by_cases hd:(dparse echk s).2≠0
     · simp only [if_pos hd] at h;exact absurd h hd
     simp only [if_neg hd];trivial
   simp only [if_neg h4] at h ⊢
   by_cases hd:(pkget echk s).2≠0
   · simp only [if_pos hd] at h;exact absurd h hd
   simp only [if_neg hd] at h ⊢
   by_cases he:(pkget echk s).1=[]
   · simp only [if_pos he] at h;exact absurd h (by decide)
   simp only [if_neg he]
   exact pkget_num (by simpa using hd)
structure Mok (m:Mp):Prop where
 kind:InI64 m.kind
 may:∀ i,i < 22→(m.val i).may=0
 good:∀ i,i < 22→(m.val i).good
theorem Mok.zero (k:Nat) (hk:k≤8):Mok { m0 with kind:=(k:Int) } where
 kind:=by unfold InI64;show _≤(k:Int)∧(k:Int)≤_;omega
 may:=m0_may
 good:=m0_good
theorem nmUse_le:∀ i,i < 22→nmUse i≤5:=by
 refine cases22 ?_ ?_ ?_ ?_ ?_ ?_ ?_ ?_ ?_ ?_ ?_ ?_ ?_ ?_ ?_ ?_ ?_ ?_ ?_ ?_ ?_ ?_ <;> decide
theorem Mok.put {m:Mp} (h:Mok m) {i:Nat} (hi:i < 22) {ty:Int} {n:Nat} {s:List UInt8} (hn:n < 18446744073709551616) (h0:(setc (nmUse i) ty n s).2=0):Mok (m.put i (setc (nmUse i) ty n s).1):=by
 obtain ⟨g1,g2,g3,_⟩:=setc_ok (nmUse_le i hi) h0
 refine ⟨by rw [(Mp.put_kind m i _).1];exact h.kind,fun j hj => ?_,fun j hj => ?_⟩
 · rw [Mp.val_put m _ i hi g1 j hj]
   split
   · exact g3
   · exact h.may j hj
 · rw [Mp.val_put m _ i hi g1 j hj]
   split
   · exact setc_good hn h0
   · exact h.good j hj
theorem Mok.sizes {m:Mp} (h:Mok m):m.d.length≤1000000∧(∀ r ∈ m.t,r.1.length≤1000000)∧m.t.length≤100000:=by
 have h1:=tchk_len (l:=m.t) (h.may 20 (by decide))
 refine ⟨?_,fun r hr => ?_,by omega⟩
 · rcases may_d (h.may 6 (by decide)) with e | e
   · rw [e];simp
   · have:=e.1;omega
 · have:=(dchk_mil (rwchk_d (tchk_rows h1.2 r hr))).2.1
   omega
theorem fgets_count {s:List UInt8} (hs:s.length≤65536) (h:(fgets s).2=0):(fgets s).1.count≤s.length:=by
 have e:fgets s=fget s 0 0:=by unfold fgets;rw [if_neg (by omega)]
 rw [e] at h ⊢
 exact (fget_ok s.length s 0 0 (Nat.le_refl _) (by omega) (by omega) h).2.2
theorem text_len:∀ {f:Fs} {a w:Nat},fcheckP f a w→∀ x ∈ f.toL,x.text.size≤(ftx f).length
 | .nil,_,_,_,x,hx => by cases hx
 | .cons t y n s i r,a,w,h,x,hx => by
   rw [Fs.toL] at hx
   rcases List.mem_cons.1 hx with rfl | hx
   · obtain ⟨⟨_,_,_,_,h1⟩,_⟩:=h
     simp only
     rcases h1 with ⟨_,e,_⟩ | ⟨e,_⟩ | ⟨_,_,e,_⟩
     · rw [e];exact Nat.zero_le _
     · subst e
       simp only [ftx,List.length_append,show ¬ (1:Int)=0 by decide,if_false,if_true]
       have:s.data.toList.length=s.size:=by simp
       omega
     · rw [e];exact Nat.zero_le _
   · have:=text_len h.2 x hx
     simp only [ftx,List.length_append]
     omega
theorem pick_sz (tags:List Nat) (yes:Bool):∀ f:Fs,(ftx (fpick tags yes f)).length≤(ftx f).length
 | .nil => Nat.le_refl _
 | .cons t y n s i r => by
   have ih:=pick_sz tags yes r
   rw [fpick]
   split
   · simp only [ftx,List.length_append];omega
   · simp only [ftx,List.length_append];omega
theorem txt_eta (b:ByteArray):txt b.data.toList=b:=by
 apply ByteArray.ext
 simp [txt]
theorem knat_kind8 (n:Nat):knat (kind8 n:Int)=kind8 n:=by
 unfold knat kind8
 split <;> split <;> omega
theorem mwiths_step (l:List Sp) (m:Mp) (f:Fl) (r:List Fl):mwiths l m (f :: r)=if (setc (nmUse (ktix l f.tag)) f.ty f.num f.text.data.toList).2≠0 then (m0,(setc (nmUse (ktix l f.tag)) f.ty f.num f.text.data.toList).2)
 else mwiths l (m.put (ktix l f.tag) (setc (nmUse (ktix l f.tag)) f.ty f.num f.text.data.toList).1) r:=rfl
end Go.Proofs.YtgidfnhfgiehjaaGreatDoor
end
