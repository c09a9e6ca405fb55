/-
  Texts of the proof, joined: Descr6 Prefix Tab. Conditions: as each names.
-/
import Derived.Test.YtgidfnhfgiehjaaGreatDoorXTopRejectsam
import Derived.Test.YtgidfnhfgiehjaaGreatDoorXTopRejectsaf
import Derived.Test.YtgidfnhfgiehjaaGreatDoorXTopRejectsab

section
namespace Go.Proofs.YtgidfnhfgiehjaaGreatDoor
open Go.RowKit Go.PM
set_option maxRecDepth 100000
set_option maxHeartbeats 2000000
attribute [local go_sem ↓] Go.wp_at_zero Go.wp_at_succ
theorem cc_fresh (b:Nat) (w:World) (h0:w.cell? ⟨b,0,none⟩=some (.pointer none)) (hsh:w.shape? b=some (222,2)) (hfz:w.frozen? ⟨b,0,none⟩=false) :
 Calls Tryz.prog 173 #[.pointer (some ⟨b,0,none⟩)] w fun e w' => e=.returned (.tuple #[])∧w'=w.setCell ⟨b,0,none⟩ (.pointer (some ⟨b,0,none⟩)):=by
 have hs:(Tryz.prog.info? 222).map (·.size)=some 2:=by kernel_rfl
 obtain ⟨j,hj,hjs⟩:=Option.map_eq_some_iff.1 hs
 go_enter Tryz.func173,Tryz.ntmps173
 go_wp2_with fail
 rw [Lib.run_to_unsafe w ⟨b,0,none⟩ Tryz.underlying220 Tryz.underlying289 hj (by rw [hjs];decide) hsh (Nat.zero_lt_succ 1)]
 simp only [Result.andThen]
 rw [Oper.upon_value]
 go_wp2_with fail
 rw [run_callFunc_extern Tryz.func212 (by kernel_rfl) (by kernel_rfl) (by kernel_rfl) (e:=Extern.AbiNoEscape.same) (by kernel_rfl)]
 rw [Lib.run_noEscape]
 simp only [Result.andThen]
 rw [Oper.upon_value]
 go_wp2_with fail
 rw [Lib.run_from_unsafe w ⟨b,0,none⟩ Tryz.underlying289 Tryz.underlying220 hj hsh (by kernel_rfl)]
 simp only [Result.andThen]
 rw [Oper.upon_value]
 go_wp2_with fail
 go_end0
 exact ⟨rfl,rfl⟩
theorem cc_used (b:Nat) (w:World) (h0:w.cell? ⟨b,0,none⟩=some (.pointer (some ⟨b,0,none⟩))) :
 Calls Tryz.prog 173 #[.pointer (some ⟨b,0,none⟩)] w fun e w' => e=.returned (.tuple #[])∧w'=w:=by
 have hs:(Tryz.prog.info? 222).map (·.size)=some 2:=by kernel_rfl
 obtain ⟨j,hj,hjs⟩:=Option.map_eq_some_iff.1 hs
 go_enter Tryz.func173,Tryz.ntmps173
 go_wp2_with fail
 rw [Lib.run_neq_ptr_same w _ Tryz.underlying220 hj]
 go_wp2_with fail
 go_end0
 exact ⟨rfl,rfl⟩
abbrev Bld (B b:Nat) (l:List UInt8) (w:World):Prop:=Lib.IsBuilderF 222 5 B b (Lib.byteCells l) w
theorem Bld.below {B b:Nat} {l:List UInt8} {w w':World} (h:Bld B b l w) (hb:Below w.heap.size w w'):Bld B b l w':=by
 have go:∀ p,Lib.BuilderAtF 222 5 B b p (Lib.byteCells l) w→Lib.BuilderAtF 222 5 B b p (Lib.byteCells l) w':=fun p h => by
  have hlt:=h.lt
  obtain ⟨hB,v,hbk,hown,hne⟩:=h
  exact ⟨hB,v,(hb.block b hlt).trans hbk,hown.kept (grown_of_below hb none) (by cases hv:v.ownBlock <;> simp),hne⟩
 exact h.imp (go _) (go _)
theorem Bld.lt {B b:Nat} {l:List UInt8} {w:World} (h:Bld B b l w):b < w.heap.size∧B≤b:=by
 rcases h with h | h
 · exact ⟨h.lt,h.1⟩
 · exact ⟨h.lt,h.1⟩
theorem info_byte:(Tryz.prog.info? 5).map (fun i => (i.zero,i.size,i.bytes))=some (some (.int .u8 0),1,1):=by kernel_rfl
theorem cc_any (B b:Nat) (l:List UInt8) (w:World) (h:Bld B b l w) :
 Calls Tryz.prog 173 #[.pointer (some ⟨b,0,none⟩)] w fun e w' => e=.returned (.tuple #[])∧Lib.BuilderAtF 222 5 B b (.pointer (some ⟨b,0,none⟩)) (Lib.byteCells l) w'∧Below B w w':=by
 rcases h with h | h
 · refine (cc_fresh b w h.cell0 h.shape h.frozen0).mono ?_
   rintro e w' ⟨rfl,rfl⟩
   exact ⟨rfl,h.used _,(Below.refl B w).setCell (p:=⟨b,0,none⟩) h.1 _⟩
 · refine (cc_used b w h.cell0).mono ?_
   rintro e w' ⟨rfl,rfl⟩
   exact ⟨rfl,h,Below.refl B _⟩
theorem wstr_any (B b:Nat) (l:List UInt8) (s:ByteArray) (w:World) (h:Bld B b l w) (hlen:l.length+s.size≤100000000000) (hBw:B≤w.heap.size) :
 Calls Tryz.prog 124 #[.pointer (some ⟨b,0,none⟩),.string s] w fun e w' => e=.returned (.tuple #[.int .i64 s.size,.nilIface])∧Bld B b (l++s.data.toList) w'∧Below B w w':=by
 obtain ⟨i0,hi,hz0,hz1,hz2⟩:=info_parts info_byte
 have HCC:=Lib.hid (cc_any B b l w h)
 have hbl:(Lib.byteCells l).length=l.length:=by simp [Lib.byteCells]
 clear h
 go_enter Tryz.func124,Tryz.ntmps124
 go_wp2_with fail
 refine HCC.out.mono ?_
 rintro e w1 ⟨rfl,h1,hb1⟩
 obtain ⟨hB,v,hbk,hown,hne⟩:=h1
 have c0:w1.cell? ⟨b,0,none⟩=some (.pointer (some ⟨b,0,none⟩)):=by rw [Lib.cell_of_heap hbk];rfl
 have c1:w1.cell? ⟨b,1,none⟩=some v:=by rw [Lib.cell_of_heap hbk];rfl
 have HOWN:=Lib.hid hown
 have HB1:=Lib.hid hb1
 have HBK:=Lib.hid hbk
 clear hown hb1 hbk HCC
 go_wp2_with (at_builtin;refine Lib.wpList_append_own_stringF _ rfl _ _ 42 9 rfl B 5 i0 Tryz.underlying42 Tryz.underlying9 hi hz0 hz1 hz2 _ _ _ rfl HOWN.out s rfl ?c3 ?c4 ?c5 ?_)
 case c3 => rw [hbl];unfold maxLen;omega
 case c4 => rw [hbl];omega
 case c5 => have:=HB1.out.size;omega
 intro v' w2 hown' hgrow _
 have hlt:b < w1.heap.size:=by
  rcases Nat.lt_or_ge b w1.heap.size with h' | h'
  · exact h'
  · have:=HBK.out
    simp [Array.getElem?_eq_none h'] at this
 have hb2:w2.heap[b]? = some (.cells #[.pointer (some ⟨b,0,none⟩),v] 222 (0,0)):=by
  rw [hgrow.block b hlt (fun e => hne e.symm)]
  exact HBK.out
 have d0:w2.cell? ⟨b,0,none⟩=some (.pointer (some ⟨b,0,none⟩)):=by rw [Lib.cell_of_heap hb2];rfl
 have d1:w2.cell? ⟨b,1,none⟩=some v:=by rw [Lib.cell_of_heap hb2];rfl
 have f1:w2.frozen? ⟨b,1,none⟩=false:=Lib.frozen_of_heap hb2 1
 obtain ⟨ao,n',cap,rfl⟩:∃ ao n' cap,v'=.slice ao n' cap:=by
  rcases hown'.2 with ⟨hv,_⟩ | ⟨g,cap,cur,fz,hv,_⟩
  · exact ⟨_,_,_,hv⟩
  · exact ⟨_,_,_,hv⟩
 have HOWN2:=Lib.hid hown'
 have HGR:=Lib.hid hgrow
 have HB2:=Lib.hid hb2
 clear hown' hgrow hb2
 go_wp2_with fail
 go_ret2
 refine ⟨rfl,.inr ?_,?_⟩
 · rw [Lib.byteCells_append]
   have hbs:(Lib.byteCells s.data.toList).length=s.size:=by simp [Lib.byteCells]
   exact Lib.BuilderAtF.put (T:=222) (e:=5) hB HB2.out (bs':=Lib.byteCells l++Lib.byteCells s.data.toList) (by rw [List.length_append,hbs,hbl];exact HOWN2.out) (by decide)
 · exact (HB1.out.grown HGR.out (by have:=HB1.out.size;omega) (fun k hk => (HOWN.out.lt k hk).1)).setCell (p:=⟨b,1,none⟩) hB _
theorem bld_new (w:World):Bld w.heap.size w.heap.size [] (w.alloc (.cells #[.pointer none,.slice none 0 0] 222)) :=
 .inl ⟨Nat.le_refl _,.slice none 0 0,heap_alloc_new w _,World.ownsRowF_of (World.ownsRow_nil _ _ _ _),by simp [Value.ownBlock]⟩
theorem str12_any (B b:Nat) (l:List UInt8) (w:World) (h:Bld B b l w) (hBw:B≤w.heap.size) :
 Calls Tryz.prog 126 #[.pointer (some ⟨b,0,none⟩)] w fun e w' => e=.returned (.string (txt l))∧Below B w w' :=
 (Tryz.Builder_String_any_k B b l w h hBw).mono fun _ _ ⟨h1,_,h3,_⟩ => ⟨h1,h3⟩
theorem eput_len (k v:List UInt8) (hk:k.length≤1000000) (hv:v.length≤1000000):(eput k v).length≤3000000:=by
 have h1:=vput_length k.length
 have h2:=vput_length v.length
 have h3:vsz k.length≤10:=vsz_le10 (by omega)
 have h4:vsz v.length≤10:=vsz_le10 (by omega)
 simp only [eput,List.length_append]
 omega
theorem dkeyL_app (l m:List Ent):dkeyL (l++m)=dkeyL l++dkeyL m:=by simp [dkeyL]
theorem dkeyL_len:∀ l:List Ent,(∀ e ∈ l,e.1.length≤1000000∧e.2.length≤1000000)→(dkeyL l).length≤l.length * 3000000
 | [],_ => by simp [dkeyL]
 | a :: r,h => by
   have h1:=eput_len a.1 a.2 (h a (by simp)).1 (h a (by simp)).2
   have h2:=dkeyL_len r fun e he => h e (by simp [he])
   have h3:dkeyL (a :: r)=eput a.1 a.2++dkeyL r:=by simp [dkeyL]
   rw [h3,List.length_append,List.length_cons]
   omega
def EMil (l:List Ent):Prop:=l.length≤1000∧∀ e ∈ l,e.1.length≤1000000∧e.2.length≤1000000
theorem key12_any (A:Option Addr) (c:Nat) (l:List Ent) (w:World) (hr:Rd w A (ents l)) (hz:EMil l) :
 Calls Tryz.prog 76 #[.slice A l.length c] w fun e w' => e=.returned (.string (txt (dkey l)))∧Below w.heap.size w w':=by
 have HR:=Lib.hid hr
 have HZ:=Lib.hid hz.2
 have hl:=hz.1
 have wl:IntKind.u64.wrap (l.length:Int)=(l.length:Int):=by rw [IntKind.wrap_u64];omega
 have HV:Hid (∀ x:World,Calls Tryz.prog 35 #[.int .u64 (l.length:Int)] x fun e w' => e=.returned (.string (txt (vput l.length)))∧Below x.heap.size x w'):=fun x => put_any l.length x (by unfold In64;omega)
 have hb0:=ba (a:=w) b0 (.cells #[.pointer none,.slice none 0 0] 222)
 have HB0:=Lib.hid hb0
 have HBL:=Lib.hid (bld_new w)
 have hvl:(vput l.length).length≤10:=by rw [vput_length];exact vsz_le10 (by omega)
 have HSZ:Hid (∀ k,(vput l.length++dkeyL (l.take k)).length≤3000000010):=fun k => by
  have h1:=dkeyL_len (l.take k) fun e he => HZ.out e (List.mem_of_mem_take he)
  have h2:(l.take k).length≤1000:=by rw [List.length_take];omega
  rw [List.length_append]
  omega
 clear hr hz hb0
 go_enter Tryz.func76,Tryz.ntmps76
 go_wp2_with fail
 refine (HV.out _).mono ?_
 rintro e w1 ⟨rfl,hb1⟩
 have HB1:=Lib.hid (bb HB0.out hb1)
 have HW:=Lib.hid (wstr_any w.heap.size w.heap.size [] (txt (vput l.length)) w1 (HBL.out.below hb1) (by rw [txt_size,List.length_nil];omega) HB1.out.size)
 rw [List.nil_append,txt_list] at HW
 clear hb1
 go_wp2_with fail
 refine HW.out.mono ?_
 rintro e w2 ⟨rfl,hbl2,hb2⟩
 have H0:Hid (Bld w.heap.size w.heap.size (vput l.length++dkeyL (l.take 0)) w2∧Below w.heap.size w w2):=by
  rw [List.take_zero,show dkeyL []=[] from rfl,List.append_nil]
  exact ⟨hbl2,HB1.out.trans hb2⟩
 clear hbl2 hb2 HW HB1
 go_wp2_with fail
 go_loopg [13] l.length (fun gk ki wr => ∃ k:Nat,k≤l.length∧l.length - k≤gk∧ki=.int .i64 (k:Int)∧Hid (Bld w.heap.size w.heap.size (vput l.length++dkeyL (l.take k)) wr∧Below w.heap.size w wr))
 case atStart => exact ⟨0,Nat.zero_le _,by omega,rfl,H0⟩
 case round =>
  obtain ⟨k,hk,hgk,rfl,HS⟩:=hrel
  obtain ⟨hbld,hbel⟩:=HS.out
  have hszk:=HSZ.out k
  by_cases hlt:k < l.length
  · obtain ⟨b,off,rfl,hblt,c0,c1⟩:=(HR.out.below hbel).ent hlt
    obtain ⟨z0,z1⟩:=HZ.out _ (List.getElem_mem hlt)
    have htk:l.take (k+1)=l.take k++[l[k]]:=(List.take_append_getElem hlt).symm
    generalize l[k]=x at *
    obtain ⟨x0,x1⟩:=x
    simp only at c0 c1 z0 z1
    have hnx:vput l.length++dkeyL (l.take (k+1))=(vput l.length++dkeyL (l.take k))++eput x0 x1:=by
     rw [htk,dkeyL_app]
     simp [dkeyL]
    have HNX:=Lib.hid hnx
    have hel:=eput_len x0 x1 z0 z1
    generalize hK:vput l.length++dkeyL (l.take k)=K at *
    have HP:=Lib.hid (eput_any (txt x0) (txt x1) (wr.alloc (.cells #[.string (txt x0),.string (txt x1)] 132)) (by rw [txt_size];omega) (by rw [txt_size];omega))
    rw [txt_list,txt_list] at HP
    have hbo:=ba (a:=wr) b0 (.cells #[.string (txt x0),.string (txt x1)] 132)
    have HBo:=Lib.hid hbo
    have HBLD:=Lib.hid hbld
    have HBEL:=Lib.hid hbel
    clear hbld hbel htk hnx hbo hK HS H0
    go_wp2_with fail
    refine HP.out.mono ?_
    rintro e w3 ⟨rfl,hb3⟩
    have HB3:=Lib.hid (bb HBo.out hb3)
    have hbl3:=HBLD.out.below HB3.out
    have HW:=Lib.hid (wstr_any w.heap.size w.heap.size K (txt (eput x0 x1)) w3 hbl3 (by rw [txt_size];omega) (Nat.le_trans HBEL.out.size HB3.out.size))
    rw [txt_list] at HW
    clear hb3 hbl3 HP
    go_wp2_with fail
    refine HW.out.mono ?_
    rintro e w4 ⟨rfl,hbl4,hb4⟩
    have HN:Hid (Bld w.heap.size w.heap.size (vput l.length++dkeyL (l.take (k+1))) w4∧Below w.heap.size w w4):=by
     show _∧_
     rw [HNX.out]
     exact ⟨hbl4,(HBEL.out.trans (HB3.out.mono HBEL.out.size)).trans hb4⟩
    clear hbl4 hb4 HW HNX
    go_wp2_with fail
    go_roundg (l.length - (k+1))
    case measure => omega
    case rel => exact ⟨k+1,by omega,Nat.le_refl _,by go_num,HN⟩
  · obtain rfl:k=l.length:=by omega
    have hkk:vput l.length++dkeyL (l.take l.length)=dkey l:=by rw [List.take_of_length_le (Nat.le_refl _)];rfl
    rw [hkk] at hbld
    have HST:=Lib.hid (str12_any _ _ _ _ hbld hbel.size)
    have HB:=Lib.hid hbel
    clear hbld hbel HS H0 hkk hszk
    go_wp2_with fail
    refine HST.out.mono ?_
    rintro e w3 ⟨rfl,hb3⟩
    have HB3:=Lib.hid (HB.out.trans hb3)
    clear hb3
    go_wp2_with fail
    go_ret
    exact ⟨rfl,HB3.out⟩
theorem cmp12_any (A B:Option Addr) (c d:Nat) (l m:List Ent) (w:World) (hr:Rd w A (ents l)) (hs:Rd w B (ents m)) (hz:EMil l) (hy:EMil m) :
 Calls Tryz.prog 247 #[.slice A l.length c,.slice B m.length d] w fun e w' => e=.returned (.int .i64 (Lib.compareBytes (dkey l) (dkey m)))∧Below w.heap.size w w':=by
 have HK:=Lib.hid (key12_any A c l w hr hz)
 have HM:Hid (∀ x,Below w.heap.size w x→Calls Tryz.prog 76 #[.slice B m.length d] x fun e w' => e=.returned (.string (txt (dkey m)))∧Below x.heap.size x w'):=fun x hx => key12_any B d m x (hs.below hx) hy
 have HC:Hid (∀ x:World,Calls Tryz.prog 250 #[.string (txt (dkey l)),.string (txt (dkey m))] x fun e w' => e=.returned (.int .i64 (Lib.compareBytes (dkey l) (dkey m)))∧w'=x):=fun x => Tryz.strings_Compare (txt (dkey l)) (txt (dkey m)) x
 clear hr hs hz hy
 generalize Lib.compareBytes (dkey l) (dkey m)=R at *
 go_enter Tryz.func247,Tryz.ntmps247
 go_wp2_with fail
 refine HK.out.mono ?_
 rintro e w1 ⟨rfl,hb1⟩
 have HB1:=Lib.hid hb1
 clear hb1
 go_wp2_with fail
 refine (HM.out _ HB1.out).mono ?_
 rintro e w2 ⟨rfl,hb2⟩
 have HB2:=Lib.hid (bb HB1.out hb2)
 clear hb2
 go_wp2_with fail
 refine (HC.out _).mono ?_
 rintro e w3 ⟨rfl,rfl⟩
 go_wp2_with fail
 go_ret
 exact ⟨rfl,HB2.out⟩
end Go.Proofs.YtgidfnhfgiehjaaGreatDoor
end

section
namespace Go.Proofs.YtgidfnhfgiehjaaGreatDoor
open Go.RowKit Go.PM
set_option maxRecDepth 100000
set_option maxHeartbeats 2000000
attribute [local go_sem ↓] Go.wp_at_zero Go.wp_at_succ
theorem pcom_nil (b:List UInt8):pcom [] b=0:=by cases b <;> rfl
theorem pcom_nil2 (a:List UInt8):pcom a []=0:=by cases a <;> rfl
theorem common_any (a b:ByteArray) (w:World) (ha:a.size≤9223372036854775806) :
 Calls Tryz.prog 185 #[.string a,.string b] w fun e w' => e=.returned (.int .i64 (pcom a.data.toList b.data.toList:Int))∧Below w.heap.size w w':=by
 have H0:Hid (pcom a.data.toList b.data.toList=0+pcom (a.data.toList.drop 0) (b.data.toList.drop 0)):=by
  show _=_
  rw [List.drop_zero,List.drop_zero,Nat.zero_add]
 generalize pcom a.data.toList b.data.toList=F at H0 ⊢
 go_enter Tryz.func185,Tryz.ntmps185
 go_wp2_with fail
 go_loopg [5] a.size (fun gk vi wr => ∃ i:Nat,i≤a.size∧i≤b.size∧a.size - i≤gk∧vi=.int .i64 (i:Int)∧Below w.heap.size w wr∧Hid (F=i+pcom (a.data.toList.drop i) (b.data.toList.drop i)))
 case atStart => exact ⟨0,Nat.zero_le _,Nat.zero_le _,by omega,rfl,b0,H0⟩
 case round =>
  obtain ⟨i,hia,hib,hgk,rfl,hbw,HI⟩:=hrel
  have HB:=Lib.hid hbw
  clear hbw H0
  by_cases h1:i < a.size
  · have j1:(i:Int) < (a.size:Int):=by omega
    by_cases h2:i < b.size
    · have j2:(i:Int) < (b.size:Int):=by omega
      have hi:=HI.out
      rw [drop_at a i h1,drop_at b i h2,pcom] at hi
      by_cases he:a[i]=b[i]
      · rw [if_pos he] at hi
        have HN:Hid (F=(i+1)+pcom (a.data.toList.drop (i+1)) (b.data.toList.drop (i+1))):=by
         show _=_
         omega
        have hne:(((a[i]).toNat:Int) == ((b[i]).toNat:Int))=true:=by rw [he];simp
        clear hi HI he
        go_wp2_with fail
        go_quiet (fail)
        go_wp2_with fail
        go_roundg (a.size - (i+1))
        case measure => omega
        case rel => exact ⟨i+1,by omega,by omega,Nat.le_refl _,by go_num,bn HB.out _,HN⟩
      · rw [if_neg he] at hi
        have hF:F=i:=by omega
        subst hF
        have hne0:(a[F]).toNat≠(b[F]).toNat:=fun e => he (UInt8.toNat_inj.1 e)
        have hne:(((a[F]).toNat:Int) == ((b[F]).toNat:Int))=false:=by rw [beq_eq_false_iff_ne];omega
        clear hi HI he hne0
        go_wp2_with fail
        go_quiet (fail)
        go_wp2_with fail
        go_ret
        exact ⟨rfl,bn HB.out _⟩
    · have j2:¬ (i:Int) < (b.size:Int):=by omega
      have hi:=HI.out
      rw [drop_end b i (by omega),pcom_nil2] at hi
      have hF:F=i:=by omega
      subst hF
      clear hi HI
      go_wp2_with fail
      go_quiet (fail)
      go_wp2_with fail
      go_ret
      exact ⟨rfl,bn HB.out _⟩
  · have j1:¬ (i:Int) < (a.size:Int):=by omega
    have hi:=HI.out
    rw [drop_end a i (by omega),pcom_nil] at hi
    have hF:F=i:=by omega
    subst hF
    clear hi HI
    go_wp2_with fail
    go_quiet (fail)
    go_wp2_with fail
    go_ret
    exact ⟨rfl,bn HB.out _⟩
theorem one14_any (a s:ByteArray) (w:World) (ha:a.size≤1000000) (hs:s.size≤1000000) :
 Calls Tryz.prog 147 #[.string a,.string s] w fun e w' => e=.returned (.string (txt (pone a.data.toList s.data.toList)))∧Below w.heap.size w w':=by
 have HC:=Lib.hid (common_any a s w (by omega))
 have hle:=(pcom_le a.data.toList s.data.toList).2
 rw [len_list] at hle
 obtain ⟨k,hk⟩:∃ k,k=pcom a.data.toList s.data.toList:=⟨_,rfl⟩
 obtain ⟨n,hn⟩:∃ n,n=s.size - k:=⟨_,rfl⟩
 rw [← hk] at hle HC
 have H1:Hid (∀ x:World,Calls Tryz.prog 35 #[.int .u64 (k:Int)] x fun e w' => e=.returned (.string (txt (vput k)))∧Below x.heap.size x w'):=fun x => put_any k x (by unfold In64;omega)
 have H2:Hid (∀ x:World,Calls Tryz.prog 35 #[.int .u64 (n:Int)] x fun e w' => e=.returned (.string (txt (vput n)))∧Below x.heap.size x w'):=fun x => put_any n x (by unfold In64;omega)
 have HE:Hid ((txt (vput k)++txt (vput n))++s.extract k s.size=txt (pone a.data.toList s.data.toList)):=by
  refine txt_eq ?_
  rw [app_listE,app_listE,txt_list,txt_list,PM.ext_rest,pone,len_list,← hk,← hn]
  simp
 have wk:IntKind.u64.wrap (k:Int)=(k:Int):=by rw [IntKind.wrap_u64];omega
 have wn:IntKind.u64.wrap (n:Int)=(n:Int):=by rw [IntKind.wrap_u64];omega
 have hsub:(s.size:Int) - (k:Int)=(n:Int):=by omega
 have hk0:(0:Int)≤(k:Int):=by omega
 have hks:(k:Int)≤(s.size:Int):=by omega
 have hP:(txt (vput k)).size≤10:=by rw [txt_size,vput_length];exact vsz_le10 (by omega)
 have hQ:(txt (vput n)).size≤10:=by rw [txt_size,vput_length];exact vsz_le10 (by omega)
 have hR:(s.extract k s.size).size≤1000000:=by rw [ByteArray.size_extract];omega
 generalize txt (vput k)=P at *
 generalize txt (vput n)=Q at *
 generalize hX:s.extract k s.size=X at *
 have hr1:∀ x:World,(Op.stringOp .add P Q).run Tryz.prog x=.ok (.string (P++Q)) x:=fun x => run_string_add_sum x P Q (by omega)
 have hr2:∀ x:World,(Op.stringOp .add (P++Q) X).run Tryz.prog x=.ok (.string (P++Q++X)) x:=fun x => run_string_add_sum x _ _ (by rw [ByteArray.size_append];omega)
 clear hk hn hP hQ hR hle
 go_enter Tryz.func147,Tryz.ntmps147
 go_wp2_with fail
 refine HC.out.mono ?_
 rintro e w1 ⟨rfl,hb1⟩
 have HB1:=Lib.hid hb1
 clear hb1 HC
 have H1n:Hid (∀ m:BelW w1,Calls Tryz.prog 35 #[.int .u64 (k:Int)] m.wld fun e w' => e=.returned (.string P)∧Below m.wld.heap.size m.wld w'):=fun m => H1.out _
 have H2n:Hid (∀ m:BelW w1,Calls Tryz.prog 35 #[.int .u64 (n:Int)] m.wld fun e w' => e=.returned (.string Q)∧Below m.wld.heap.size m.wld w'):=fun m => H2.out _
 go_wp2_with fail
 refine wp_region_below_lit (by kernel_rfl) (by kernel_rfl) ?_
 repeat (first | go_big_quiet_skip | (go_big_quiet_want;go_big_quiet_op;first | go_big_quiet_on | (apply Exists.intro;refine ⟨fun nq => ?_,?_⟩;((first | (go_at_call 35;with_reducible show Calls _ _ #[.int .u64 (k:Int)] _ _;exact below_of (H1n.out _)) | (go_at_call 35;exact below_of (H2n.out _))));go_big_quiet_on)))
 refine wpQuiet_nil ?_
 intro wq hnq
 obtain ⟨nq,rfl⟩:=hnq
 have hq:=nq.bel
 generalize nq.wld=wq at hq ⊢
 clear nq
 have HB2:=Lib.hid (bb HB1.out hq)
 clear hq H1n H2n
 go_wp2_with fail
 go_ret
 exact ⟨by rw [← HE.out];rfl,HB2.out⟩
theorem leq_cmp (x y:List UInt8):(Op.bytesLess x y || x == y) = !decide (Lib.compareBytes y x < 0):=by
 rw [less_cmp]
 have h1:=cmpB_neg x y
 have h2:=cmpB_iff x y
 have h3:=cmpB_range x y
 by_cases he:x=y
 · have:=h2.2 he
   rw [show decide (Lib.compareBytes y x < 0)=false from decide_eq_false (by omega),he]
   simp
 · have h4:Lib.compareBytes x y≠0:=fun e => he (h2.1 e)
   rw [show (x == y)=false from by rw [beq_eq_false_iff_ne];exact he,Bool.or_false]
   by_cases hl:Lib.compareBytes x y < 0
   · rw [decide_eq_true hl,decide_eq_false (by omega)];rfl
   · rw [decide_eq_false hl,decide_eq_true (by omega)];rfl
def PNextEnd (w:World) (b:Nat) (s:ByteArray) (k:Nat) (o:Option (List UInt8)) (e:Ending) (w':World):Prop :=
 ∃ k':Nat,e=.returned (.tuple #[.string (txt (pnx o (s.data.toList.drop k)).1),.int .i64 (pnx o (s.data.toList.drop k)).2.2])∧Cur w' b s k'∧((pnx o (s.data.toList.drop k)).2.2=0→k'=k+(pnx o (s.data.toList.drop k)).2.1)∧w.grownBy w' (some b)
theorem pnx_none (s:List UInt8) (V V2:Nat × Nat × Nat) (h:vget s=V) (h2:vget (s.drop V.2.1)=V2):pnx none s=if V.2.2≠0 then ([],0,(V.2.2:Int)) else if 0 < V.1 then ([],0,23) else if V2.2.2≠0 then ([],0,(V2.2.2:Int))
 else if s.length - V.2.1 - V2.2.1 < V2.1 then ([],0,1) else ((s.drop (V.2.1+V2.2.1)).take V2.1,V.2.1+V2.2.1+V2.1,0):=by
 unfold pnx
 rw [h,h2,Option.getD_none]
 by_cases hG:V.2.2≠0
 · rw [if_pos hG,if_pos hG]
 rw [if_neg hG,if_neg hG]
 simp only [List.length_nil]
 by_cases hn:0 < V.1
 · rw [if_pos hn,if_pos hn]
 rw [if_neg hn,if_neg hn]
 by_cases hG2:V2.2.2≠0
 · rw [if_pos hG2,if_pos hG2]
 rw [if_neg hG2,if_neg hG2]
 by_cases hT:s.length - V.2.1 - V2.2.1 < V2.1
 · rw [if_pos hT,if_pos hT]
 rw [if_neg hT,if_neg hT,if_neg (fun h => h.1 rfl),pcom_nil,if_neg (by omega),List.take_nil,List.nil_append]
theorem pnx_some (a s:List UInt8) (V V2:Nat × Nat × Nat) (T:List UInt8) (h:vget s=V) (h2:vget (s.drop V.2.1)=V2) (hT:T=a.take V.1++(s.drop (V.2.1+V2.2.1)).take V2.1) :
 pnx (some a) s=if V.2.2≠0 then ([],0,(V.2.2:Int)) else if a.length < V.1 then ([],0,23) else if V2.2.2≠0 then ([],0,(V2.2.2:Int))
 else if s.length - V.2.1 - V2.2.1 < V2.1 then ([],0,1) else if ¬ Lib.compareBytes a T < 0 then ([],0,7) else if V.1 < pcom a T then ([],0,23) else (T,V.2.1+V2.2.1+V2.1,0):=by
 unfold pnx
 rw [h,h2,Option.getD_some,← hT]
 have e:(some a≠none∧¬ Lib.compareBytes a T < 0)↔¬ Lib.compareBytes a T < 0:=⟨fun h => h.2,fun h => ⟨by simp,h⟩⟩
 simp only [e]
theorem pnext_first (b:Nat) (s:ByteArray) (k:Nat) (a:ByteArray) (w:World) (h:Cur w b s k) (hs:s.size≤1000000) :
 Calls Tryz.prog 218 #[.pointer (some ⟨b,0,none⟩),.string a,.bool true] w (PNextEnd w b s k none):=by
 have HN:=Lib.hid (next_any b s k w h)
 have hks:=h.2.1
 have hld:(s.data.toList.drop k).length=s.size - k:=by rw [List.length_drop,len_list]
 have hdd:∀ m:Nat,((s.data.toList.drop k).drop m)=s.data.toList.drop (k+m):=fun m => by rw [List.drop_drop]
 have hok:=fun h => vget_ok (s:=s.data.toList.drop k) h
 rw [hld] at hok
 clear h
 obtain ⟨V,hV⟩:∃ V,vget (s.data.toList.drop k)=V:=⟨_,rfl⟩
 obtain ⟨V2,hV2⟩:∃ V2,vget (s.data.toList.drop (k+V.2.1))=V2:=⟨_,rfl⟩
 have HN2:Hid (∀ x,Cur x b s (k+V.2.1)→Calls Tryz.prog 174 #[.pointer (some ⟨b,0,none⟩)] x fun e w' => e=.returned (.tuple #[.int .u64 (V2.1:Int),.int .i64 (V2.2.2:Int)])∧Cur w' b s (k+V.2.1+V2.2.1)∧x.grownBy w' (some b)):=fun x hx => by
  rw [← hV2]
  exact next_any b s (k+V.2.1) x hx
 have hok2:=fun h => vget_ok (s:=s.data.toList.drop (k+V.2.1)) h
 rw [List.length_drop,len_list,hV2] at hok2
 rw [hV] at HN hok
 obtain ⟨X,hXd⟩:∃ X,X=pnx none (s.data.toList.drop k):=⟨_,rfl⟩
 have hX:=pnx_none (s.data.toList.drop k) V V2 hV (by rw [hdd];exact hV2)
 rw [hld,hdd] at hX
 have HEND:Hid (∀ (k':Nat) (w':World),Cur w' b s k'→(X.2.2=0→k'=k+X.2.1)→w.grownBy w' (some b)→PNextEnd w b s k none (.returned (.tuple #[.string (txt X.1),.int .i64 X.2.2])) w'):=fun k' w' h2 h3 h4 => by
  unfold PNextEnd
  rw [← hXd]
  exact ⟨k',rfl,h2,h3,h4⟩
 rw [← hXd] at hX
 clear hXd hV hV2
 obtain ⟨n,m,G⟩:=V
 obtain ⟨n2,m2,G2⟩:=V2
 simp only at hX HN HN2 hok hok2
 by_cases hG:G=0
 · subst hG
   rw [if_neg (by simp)] at hX
   obtain ⟨v1,v2,v3,v4,_⟩:=hok rfl
   by_cases hn:0 < n
   · rw [if_pos hn] at hX
     have HE:Hid (∀ k' w',Cur w' b s k'→w.grownBy w' (some b)→PNextEnd w b s k none (.returned (.tuple #[.string ⟨#[]⟩,.int .i64 23])) w'):=fun k' w' hc hg => by
      have:=HEND.out k' w' hc (fun h => by rw [hX] at h;exact absurd h (by decide)) hg
      rw [hX] at this
      exact this
     clear hX HEND
     have hni:(0:Int) < (n:Int):=by omega
     go_enter Tryz.func218,Tryz.ntmps218
     go_wp2_with fail
     refine HN.out.mono ?_
     rintro e w1 ⟨rfl,hc1,hg1⟩
     have HC1:=Lib.hid hc1
     have HG1:=Lib.hid hg1
     clear hc1 hg1 HN
     go_wp2_with fail
     go_ret2
     exact HE.out _ _ HC1.out HG1.out
   · rw [if_neg hn] at hX
     have hni:¬ (0:Int) < (n:Int):=by omega
     by_cases hG2:G2=0
     · subst hG2
       rw [if_neg (by simp)] at hX
       obtain ⟨u1,u2,u3,u4,_⟩:=hok2 rfl
       by_cases hT:s.size - k - m - m2 < n2
       · rw [if_pos hT] at hX
         have HE:Hid (∀ k' w',Cur w' b s k'→w.grownBy w' (some b)→PNextEnd w b s k none (.returned (.tuple #[.string ⟨#[]⟩,.int .i64 1])) w'):=fun k' w' hc hg => by
          have:=HEND.out k' w' hc (fun h => by rw [hX] at h;exact absurd h (by decide)) hg
          rw [hX] at this
          exact this
         clear hX HEND
         have HTN:Hid (∀ x,Cur x b s (k+m+m2)→Calls Tryz.prog 214 #[.pointer (some ⟨b,0,none⟩),.int .u64 (n2:Int)] x fun e w' => e=.returned (.tuple #[.string ByteArray.empty,.bool false])∧Below x.heap.size x w'):=fun x hx => cur_take_no b s _ (n2:Int) x hx (by omega) (by omega)
         clear hT
         go_enter Tryz.func218,Tryz.ntmps218
         go_wp2_with fail
         refine HN.out.mono ?_
         rintro e w1 ⟨rfl,hc1,hg1⟩
         have HC1:=Lib.hid hc1
         have HG1:=Lib.hid hg1
         clear hc1 hg1 HN
         go_wp2_with fail
         refine (HN2.out w1 HC1.out).mono ?_
         rintro e w2 ⟨rfl,hc2,hg2⟩
         have HC2:=Lib.hid hc2
         have HG2:=Lib.hid (grown_trans HG1.out hg2 fun x e _ => e)
         clear hc2 hg2 HN2 HC1 HG1
         go_wp2_with fail
         refine (HTN.out w2 HC2.out).mono ?_
         rintro e w3 ⟨rfl,hb3⟩
         have HC3:Hid (Cur w3 b s (k+m+m2)):=⟨HC2.out.1.below hb3 HC2.out.1.lt,HC2.out.2⟩
         have HG3:=Lib.hid (grown_trans HG2.out (grown_of_below hb3 (some b)) fun x e _ => e)
         clear hb3
         go_wp2_with fail
         go_ret2
         exact HE.out _ _ HC3.out HG3.out
       · rw [if_neg hT] at hX
         obtain ⟨Y,hY⟩:∃ Y,Y=s.extract (k+m+m2) (k+m+m2+n2):=⟨_,rfl⟩
         have hYl:Y.data.toList=(s.data.toList.drop (k+(m+m2))).take n2:=by
          rw [hY,ext_list,show k+m+m2+n2 - (k+m+m2)=n2 by omega,show k+m+m2=k+(m+m2) by omega]
         have HTK:Hid (∀ x,Cur x b s (k+m+m2)→Calls Tryz.prog 214 #[.pointer (some ⟨b,0,none⟩),.int .u64 (n2:Int)] x fun e w' => e=.returned (.tuple #[.string Y,.bool true])∧Cur w' b s (k+m+m2+n2)∧x.grownBy w' (some b)):=fun x hx => by
          have:=cur_take_yes b s _ (n2:Int) x hx (by omega) (by omega)
          rw [Int.toNat_natCast,← hY] at this
          exact this
         have hYs:Y.size≤1000000:=by
          have:=congrArg List.length hYl
          rw [len_list,List.length_take,List.length_drop,len_list] at this
          omega
         obtain rfl:n=0:=by omega
         rw [← hYl] at hX
         have HE:Hid (∀ w',Cur w' b s (k+m+m2+n2)→w.grownBy w' (some b)→PNextEnd w b s k none (.returned (.tuple #[.string Y,.int .i64 0])) w'):=fun w' hc hg => by
          have:=HEND.out _ w' hc (fun _ => by rw [hX];simp only;omega) hg
          rw [hX] at this
          exact this
         have HCM:Hid (∀ x,Calls Tryz.prog 185 #[.string ⟨#[]⟩,.string Y] x fun e w' => e=.returned (.int .i64 0)∧Below x.heap.size x w'):=fun x => by
          have:=common_any ⟨#[]⟩ Y x (by decide)
          rw [show (ByteArray.mk #[]).data.toList=[] from rfl,pcom_nil] at this
          exact this
         have e9:ByteArray.empty++Y=Y:=ByteArray.ext (by simp)
         have hadd:∀ x:World,(Op.stringOp .add ByteArray.empty Y).run Tryz.prog x=.ok (.string Y) x:=fun x => by
          have:=run_string_add_sum (P:=Tryz.prog) x ByteArray.empty Y (by have:ByteArray.empty.size=0:=rfl;omega)
          rw [this,e9]
         clear hX HEND hY hYl hYs hT
         go_enter Tryz.func218,Tryz.ntmps218
         go_wp2_with fail
         refine HN.out.mono ?_
         rintro e w1 ⟨rfl,hc1,hg1⟩
         have HC1:=Lib.hid hc1
         have HG1:=Lib.hid hg1
         clear hc1 hg1 HN
         go_wp2_with fail
         refine (HN2.out w1 HC1.out).mono ?_
         rintro e w2 ⟨rfl,hc2,hg2⟩
         have HC2:=Lib.hid hc2
         have HG2:=Lib.hid (grown_trans HG1.out hg2 fun x e _ => e)
         clear hc2 hg2 HN2 HC1 HG1
         go_wp2_with fail
         refine (HTK.out w2 HC2.out).mono ?_
         rintro e w3 ⟨rfl,hc3,hg3⟩
         have HC3:=Lib.hid hc3
         have HG3:=Lib.hid (grown_trans HG2.out hg3 fun x e _ => e)
         clear hc3 hg3 HTK HC2 HG2
         go_wp2_with fail
         refine (HCM.out w3).mono ?_
         rintro e w4 ⟨rfl,hb4⟩
         have HC4:Hid (Cur w4 b s (k+m+m2+n2)):=⟨HC3.out.1.below hb4 HC3.out.1.lt,HC3.out.2⟩
         have HG4:=Lib.hid (grown_trans HG3.out (grown_of_below hb4 (some b)) fun x e _ => e)
         clear hb4 HCM HC3 HG3
         go_wp2_with fail
         go_ret2
         exact HE.out _ HC4.out HG4.out
     · have hGi:(((G2:Nat):Int) != 0)=true:=by rw [bne_iff_ne];omega
       rw [if_pos (by omega)] at hX
       have HE:Hid (∀ k' w',Cur w' b s k'→w.grownBy w' (some b)→PNextEnd w b s k none (.returned (.tuple #[.string ⟨#[]⟩,.int .i64 (G2:Int)])) w'):=fun k' w' hc hg => by
        have:=HEND.out k' w' hc (fun h => by rw [hX] at h;exact absurd h (by simp only;omega)) hg
        rw [hX] at this
        exact this
       clear hX HEND
       clear hG2 hok2
       go_enter Tryz.func218,Tryz.ntmps218
       go_wp2_with fail
       refine HN.out.mono ?_
       rintro e w1 ⟨rfl,hc1,hg1⟩
       have HC1:=Lib.hid hc1
       have HG1:=Lib.hid hg1
       clear hc1 hg1 HN
       go_wp2_with fail
       refine (HN2.out w1 HC1.out).mono ?_
       rintro e w2 ⟨rfl,hc2,hg2⟩
       have HC2:=Lib.hid hc2
       have HG2:=Lib.hid (grown_trans HG1.out hg2 fun x e _ => e)
       clear hc2 hg2 HN2 HC1 HG1
       go_wp2_with fail
       go_ret2
       exact HE.out _ _ HC2.out HG2.out
 · have hGi:(((G:Nat):Int) != 0)=true:=by rw [bne_iff_ne];omega
   rw [if_pos (by omega)] at hX
   have HE:Hid (∀ k' w',Cur w' b s k'→w.grownBy w' (some b)→PNextEnd w b s k none (.returned (.tuple #[.string ⟨#[]⟩,.int .i64 (G:Int)])) w'):=fun k' w' hc hg => by
    have:=HEND.out k' w' hc (fun h => by rw [hX] at h;exact absurd h (by simp only;omega)) hg
    rw [hX] at this
    exact this
   clear hX HEND
   clear hG hok
   go_enter Tryz.func218,Tryz.ntmps218
   go_wp2_with fail
   refine HN.out.mono ?_
   rintro e w1 ⟨rfl,hc1,hg1⟩
   have HC1:=Lib.hid hc1
   have HG1:=Lib.hid hg1
   clear hc1 hg1 HN
   go_wp2_with fail
   go_ret2
   exact HE.out _ _ HC1.out HG1.out
theorem pnext_later (b:Nat) (s:ByteArray) (k:Nat) (a:ByteArray) (w:World) (h:Cur w b s k) (ha:a.size≤1000000) (hs:s.size≤1000000) :
 Calls Tryz.prog 218 #[.pointer (some ⟨b,0,none⟩),.string a,.bool false] w (PNextEnd w b s k (some a.data.toList)):=by
 have HN:=Lib.hid (next_any b s k w h)
 have hks:=h.2.1
 have hld:(s.data.toList.drop k).length=s.size - k:=by rw [List.length_drop,len_list]
 have hdd:∀ m:Nat,((s.data.toList.drop k).drop m)=s.data.toList.drop (k+m):=fun m => by rw [List.drop_drop]
 have hok:=fun h => vget_ok (s:=s.data.toList.drop k) h
 rw [hld] at hok
 clear h
 obtain ⟨V,hV⟩:∃ V,vget (s.data.toList.drop k)=V:=⟨_,rfl⟩
 obtain ⟨V2,hV2⟩:∃ V2,vget (s.data.toList.drop (k+V.2.1))=V2:=⟨_,rfl⟩
 have HN2:Hid (∀ x,Cur x b s (k+V.2.1)→Calls Tryz.prog 174 #[.pointer (some ⟨b,0,none⟩)] x fun e w' => e=.returned (.tuple #[.int .u64 (V2.1:Int),.int .i64 (V2.2.2:Int)])∧Cur w' b s (k+V.2.1+V2.2.1)∧x.grownBy w' (some b)):=fun x hx => by
  rw [← hV2]
  exact next_any b s (k+V.2.1) x hx
 have hok2:=fun h => vget_ok (s:=s.data.toList.drop (k+V.2.1)) h
 rw [List.length_drop,len_list,hV2] at hok2
 rw [hV] at HN hok
 obtain ⟨X,hXd⟩:∃ X,X=pnx (some a.data.toList) (s.data.toList.drop k):=⟨_,rfl⟩
 obtain ⟨T,hT0⟩:∃ T,T=a.data.toList.take V.1++((s.data.toList.drop k).drop (V.2.1+V2.2.1)).take V2.1:=⟨_,rfl⟩
 have hX:=pnx_some a.data.toList (s.data.toList.drop k) V V2 T hV (by rw [hdd];exact hV2) hT0
 rw [hld,len_list] at hX
 rw [hdd] at hT0
 have HEND:Hid (∀ (k':Nat) (w':World),Cur w' b s k'→(X.2.2=0→k'=k+X.2.1)→w.grownBy w' (some b)→PNextEnd w b s k (some a.data.toList) (.returned (.tuple #[.string (txt X.1),.int .i64 X.2.2])) w'):=fun k' w' h2 h3 h4 => by
  unfold PNextEnd
  rw [← hXd]
  exact ⟨k',rfl,h2,h3,h4⟩
 rw [← hXd] at hX
 clear hXd hV hV2
 obtain ⟨n,m,G⟩:=V
 obtain ⟨n2,m2,G2⟩:=V2
 simp only at hX HN HN2 hok hok2 hT0
 by_cases hG:G=0
 · subst hG
   rw [if_neg (by simp)] at hX
   obtain ⟨v1,v2,v3,v4,_⟩:=hok rfl
   have wA:IntKind.u64.wrap (a.size:Int)=(a.size:Int):=by rw [IntKind.wrap_u64];omega
   by_cases hn:a.size < n
   · rw [if_pos hn] at hX
     have HE:Hid (∀ k' w',Cur w' b s k'→w.grownBy w' (some b)→PNextEnd w b s k (some a.data.toList) (.returned (.tuple #[.string ⟨#[]⟩,.int .i64 23])) w'):=fun k' w' hc hg => by
      have:=HEND.out k' w' hc (fun h => by rw [hX] at h;exact absurd h (by decide)) hg
      rw [hX] at this
      exact this
     clear hX HEND
     have hni:(a.size:Int) < (n:Int):=by omega
     clear hn
     go_enter Tryz.func218,Tryz.ntmps218
     go_wp2_with fail
     refine HN.out.mono ?_
     rintro e w1 ⟨rfl,hc1,hg1⟩
     have HC1:=Lib.hid hc1
     have HG1:=Lib.hid hg1
     clear hc1 hg1 HN
     go_wp2_with fail
     go_ret2
     exact HE.out _ _ HC1.out HG1.out
   · rw [if_neg hn] at hX
     have hni:¬ (a.size:Int) < (n:Int):=by omega
     have hn0:(0:Int)≤(n:Int):=by omega
     have hn1:(n:Int)≤(a.size:Int):=by omega
     by_cases hG2:G2=0
     · subst hG2
       rw [if_neg (by simp)] at hX
       obtain ⟨u1,u2,u3,u4,_⟩:=hok2 rfl
       by_cases hT:s.size - k - m - m2 < n2
       · rw [if_pos hT] at hX
         have HE:Hid (∀ k' w',Cur w' b s k'→w.grownBy w' (some b)→PNextEnd w b s k (some a.data.toList) (.returned (.tuple #[.string ⟨#[]⟩,.int .i64 1])) w'):=fun k' w' hc hg => by
          have:=HEND.out k' w' hc (fun h => by rw [hX] at h;exact absurd h (by decide)) hg
          rw [hX] at this
          exact this
         clear hX HEND
         have HTN:Hid (∀ x,Cur x b s (k+m+m2)→Calls Tryz.prog 214 #[.pointer (some ⟨b,0,none⟩),.int .u64 (n2:Int)] x fun e w' => e=.returned (.tuple #[.string ByteArray.empty,.bool false])∧Below x.heap.size x w'):=fun x hx => cur_take_no b s _ (n2:Int) x hx (by omega) (by omega)
         clear hT
         go_enter Tryz.func218,Tryz.ntmps218
         go_wp2_with fail
         refine HN.out.mono ?_
         rintro e w1 ⟨rfl,hc1,hg1⟩
         have HC1:=Lib.hid hc1
         have HG1:=Lib.hid hg1
         clear hc1 hg1 HN
         go_wp2_with fail
         refine (HN2.out w1 HC1.out).mono ?_
         rintro e w2 ⟨rfl,hc2,hg2⟩
         have HC2:=Lib.hid hc2
         have HG2:=Lib.hid (grown_trans HG1.out hg2 fun x e _ => e)
         clear hc2 hg2 HN2 HC1 HG1
         go_wp2_with fail
         refine (HTN.out w2 HC2.out).mono ?_
         rintro e w3 ⟨rfl,hb3⟩
         have HC3:Hid (Cur w3 b s (k+m+m2)):=⟨HC2.out.1.below hb3 HC2.out.1.lt,HC2.out.2⟩
         have HG3:=Lib.hid (grown_trans HG2.out (grown_of_below hb3 (some b)) fun x e _ => e)
         clear hb3
         go_wp2_with fail
         go_ret2
         exact HE.out _ _ HC3.out HG3.out
       · rw [if_neg hT] at hX
         obtain ⟨Y,hY⟩:∃ Y,Y=s.extract (k+m+m2) (k+m+m2+n2):=⟨_,rfl⟩
         have hYl:Y.data.toList=(s.data.toList.drop (k+(m+m2))).take n2:=by
          rw [hY,ext_list,show k+m+m2+n2 - (k+m+m2)=n2 by omega,show k+m+m2=k+(m+m2) by omega]
         have HTK:Hid (∀ x,Cur x b s (k+m+m2)→Calls Tryz.prog 214 #[.pointer (some ⟨b,0,none⟩),.int .u64 (n2:Int)] x fun e w' => e=.returned (.tuple #[.string Y,.bool true])∧Cur w' b s (k+m+m2+n2)∧x.grownBy w' (some b)):=fun x hx => by
          have:=cur_take_yes b s _ (n2:Int) x hx (by omega) (by omega)
          rw [Int.toNat_natCast,← hY] at this
          exact this
         have hYs:Y.size≤1000000:=by
          have:=congrArg List.length hYl
          rw [len_list,List.length_take,List.length_drop,len_list] at this
          omega
         have HTE:Hid (a.extract 0 n++Y=txt T):=by
          refine txt_eq ?_
          rw [app_listE,ext_list,hYl,hT0,List.drop_zero,Nat.sub_zero]
         have hes:(a.extract 0 n).size≤1000000:=by rw [ByteArray.size_extract];omega
         have hTs:(txt T).size≤2000000:=by rw [← HTE.out,ByteArray.size_append];omega
         have hadd:∀ x:World,(Op.stringOp .add (a.extract 0 n) Y).run Tryz.prog x=.ok (.string (txt T)) x:=fun x => by
          rw [← HTE.out]
          exact run_string_add_sum x _ _ (by omega)
         have HCM:Hid (∀ x,Calls Tryz.prog 185 #[.string a,.string (txt T)] x fun e w' => e=.returned (.int .i64 (pcom a.data.toList T:Int))∧Below x.heap.size x w'):=fun x => by
          have:=common_any a (txt T) x (by omega)
          rwa [txt_list] at this
         have wn2:IntKind.i64.wrap (n:Int)=(n:Int):=by rw [IntKind.wrap_i64];omega
         have hleq:(Op.bytesLess (txt T).toList a.toList || (txt T).toList == a.toList) = !decide (Lib.compareBytes a.data.toList T < 0):=by
          rw [leq_cmp,ByteArray.toList_eq,ByteArray.toList_eq,txt_list]
         clear hY hYl hT hes hTs hYs hT0
         by_cases h5:Lib.compareBytes a.data.toList T < 0
         · rw [if_neg (by simpa using h5)] at hX
           rw [decide_eq_true h5] at hleq
           clear h5
           by_cases h6:n < pcom a.data.toList T
           · rw [if_pos h6] at hX
             have HE:Hid (∀ k' w',Cur w' b s k'→w.grownBy w' (some b)→PNextEnd w b s k (some a.data.toList) (.returned (.tuple #[.string ⟨#[]⟩,.int .i64 23])) w'):=fun k' w' hc hg => by
              have:=HEND.out k' w' hc (fun h => by rw [hX] at h;exact absurd h (by decide)) hg
              rw [hX] at this
              exact this
             clear hX HEND
             have h6i:(n:Int) < (pcom a.data.toList T:Int):=by omega
             generalize pcom a.data.toList T=q at *
             clear h6 HTE
             go_enter Tryz.func218,Tryz.ntmps218
             go_wp2_with fail
             refine HN.out.mono ?_
             rintro e w1 ⟨rfl,hc1,hg1⟩
             have HC1:=Lib.hid hc1
             have HG1:=Lib.hid hg1
             clear hc1 hg1 HN
             go_wp2_with fail
             refine (HN2.out w1 HC1.out).mono ?_
             rintro e w2 ⟨rfl,hc2,hg2⟩
             have HC2:=Lib.hid hc2
             have HG2:=Lib.hid (grown_trans HG1.out hg2 fun x e _ => e)
             clear hc2 hg2 HN2 HC1 HG1
             go_wp2_with fail
             refine (HTK.out w2 HC2.out).mono ?_
             rintro e w3 ⟨rfl,hc3,hg3⟩
             have HC3:=Lib.hid hc3
             have HG3:=Lib.hid (grown_trans HG2.out hg3 fun x e _ => e)
             clear hc3 hg3 HTK HC2 HG2
             go_wp2_with fail
             refine (HCM.out w3).mono ?_
             rintro e w4 ⟨rfl,hb4⟩
             have HC4:Hid (Cur w4 b s (k+m+m2+n2)):=⟨HC3.out.1.below hb4 HC3.out.1.lt,HC3.out.2⟩
             have HG4:=Lib.hid (grown_trans HG3.out (grown_of_below hb4 (some b)) fun x e _ => e)
             clear hb4 HCM HC3 HG3
             go_wp2_with fail
             go_ret2
             exact HE.out _ _ HC4.out HG4.out
           · rw [if_neg h6] at hX
             have HE:Hid (∀ w',Cur w' b s (k+m+m2+n2)→w.grownBy w' (some b)→PNextEnd w b s k (some a.data.toList) (.returned (.tuple #[.string (txt T),.int .i64 0])) w'):=fun w' hc hg => by
              have:=HEND.out _ w' hc (fun _ => by rw [hX];simp only;omega) hg
              rw [hX] at this
              exact this
             clear hX HEND
             have h6i:¬ (n:Int) < (pcom a.data.toList T:Int):=by omega
             generalize pcom a.data.toList T=q at *
             clear h6 HTE
             go_enter Tryz.func218,Tryz.ntmps218
             go_wp2_with fail
             refine HN.out.mono ?_
             rintro e w1 ⟨rfl,hc1,hg1⟩
             have HC1:=Lib.hid hc1
             have HG1:=Lib.hid hg1
             clear hc1 hg1 HN
             go_wp2_with fail
             refine (HN2.out w1 HC1.out).mono ?_
             rintro e w2 ⟨rfl,hc2,hg2⟩
             have HC2:=Lib.hid hc2
             have HG2:=Lib.hid (grown_trans HG1.out hg2 fun x e _ => e)
             clear hc2 hg2 HN2 HC1 HG1
             go_wp2_with fail
             refine (HTK.out w2 HC2.out).mono ?_
             rintro e w3 ⟨rfl,hc3,hg3⟩
             have HC3:=Lib.hid hc3
             have HG3:=Lib.hid (grown_trans HG2.out hg3 fun x e _ => e)
             clear hc3 hg3 HTK HC2 HG2
             go_wp2_with fail
             refine (HCM.out w3).mono ?_
             rintro e w4 ⟨rfl,hb4⟩
             have HC4:Hid (Cur w4 b s (k+m+m2+n2)):=⟨HC3.out.1.below hb4 HC3.out.1.lt,HC3.out.2⟩
             have HG4:=Lib.hid (grown_trans HG3.out (grown_of_below hb4 (some b)) fun x e _ => e)
             clear hb4 HCM HC3 HG3
             go_wp2_with fail
             go_ret2
             exact HE.out _ HC4.out HG4.out
         · rw [if_pos h5] at hX
           rw [decide_eq_false h5] at hleq
           clear h5
           have HE:Hid (∀ k' w',Cur w' b s k'→w.grownBy w' (some b)→PNextEnd w b s k (some a.data.toList) (.returned (.tuple #[.string ⟨#[]⟩,.int .i64 7])) w'):=fun k' w' hc hg => by
            have:=HEND.out k' w' hc (fun h => by rw [hX] at h;exact absurd h (by decide)) hg
            rw [hX] at this
            exact this
           clear hX HEND
           go_enter Tryz.func218,Tryz.ntmps218
           go_wp2_with fail
           refine HN.out.mono ?_
           rintro e w1 ⟨rfl,hc1,hg1⟩
           have HC1:=Lib.hid hc1
           have HG1:=Lib.hid hg1
           clear hc1 hg1 HN
           go_wp2_with fail
           refine (HN2.out w1 HC1.out).mono ?_
           rintro e w2 ⟨rfl,hc2,hg2⟩
           have HC2:=Lib.hid hc2
           have HG2:=Lib.hid (grown_trans HG1.out hg2 fun x e _ => e)
           clear hc2 hg2 HN2 HC1 HG1
           go_wp2_with fail
           refine (HTK.out w2 HC2.out).mono ?_
           rintro e w3 ⟨rfl,hc3,hg3⟩
           have HC3:=Lib.hid hc3
           have HG3:=Lib.hid (grown_trans HG2.out hg3 fun x e _ => e)
           clear hc3 hg3 HTK HC2 HG2
           go_wp2_with fail
           go_ret2
           exact HE.out _ _ HC3.out HG3.out
     · have hGi:(((G2:Nat):Int) != 0)=true:=by rw [bne_iff_ne];omega
       rw [if_pos (by omega)] at hX
       have HE:Hid (∀ k' w',Cur w' b s k'→w.grownBy w' (some b)→PNextEnd w b s k (some a.data.toList) (.returned (.tuple #[.string ⟨#[]⟩,.int .i64 (G2:Int)])) w'):=fun k' w' hc hg => by
        have:=HEND.out k' w' hc (fun h => by rw [hX] at h;exact absurd h (by simp only;omega)) hg
        rw [hX] at this
        exact this
       clear hX HEND
       clear hG2 hok2
       go_enter Tryz.func218,Tryz.ntmps218
       go_wp2_with fail
       refine HN.out.mono ?_
       rintro e w1 ⟨rfl,hc1,hg1⟩
       have HC1:=Lib.hid hc1
       have HG1:=Lib.hid hg1
       clear hc1 hg1 HN
       go_wp2_with fail
       refine (HN2.out w1 HC1.out).mono ?_
       rintro e w2 ⟨rfl,hc2,hg2⟩
       have HC2:=Lib.hid hc2
       have HG2:=Lib.hid (grown_trans HG1.out hg2 fun x e _ => e)
       clear hc2 hg2 HN2 HC1 HG1
       go_wp2_with fail
       go_ret2
       exact HE.out _ _ HC2.out HG2.out
 · have hGi:(((G:Nat):Int) != 0)=true:=by rw [bne_iff_ne];omega
   rw [if_pos (by omega)] at hX
   have HE:Hid (∀ k' w',Cur w' b s k'→w.grownBy w' (some b)→PNextEnd w b s k (some a.data.toList) (.returned (.tuple #[.string ⟨#[]⟩,.int .i64 (G:Int)])) w'):=fun k' w' hc hg => by
    have:=HEND.out k' w' hc (fun h => by rw [hX] at h;exact absurd h (by simp only;omega)) hg
    rw [hX] at this
    exact this
   clear hX HEND
   clear hG hok
   go_enter Tryz.func218,Tryz.ntmps218
   go_wp2_with fail
   refine HN.out.mono ?_
   rintro e w1 ⟨rfl,hc1,hg1⟩
   have HC1:=Lib.hid hc1
   have HG1:=Lib.hid hg1
   clear hc1 hg1 HN
   go_wp2_with fail
   go_ret2
   exact HE.out _ _ HC1.out HG1.out
end Go.Proofs.YtgidfnhfgiehjaaGreatDoor
end

section
namespace Go.Proofs.YtgidfnhfgiehjaaGreatDoor
open Go.RowKit Go.PM
set_option maxRecDepth 100000
set_option maxHeartbeats 2000000
attribute [local go_sem ↓] Go.wp_at_zero Go.wp_at_succ
theorem echk_sz {k v:List UInt8} (h:echk k v=0):k.length≤64∧v.length≤256:=by
 unfold echk at h
 by_cases h1:uchk k 1 64≠0
 · rw [if_pos h1] at h;exact absurd h h1
 · rw [if_neg h1] at h
   unfold uchk at h h1
   constructor
   · by_cases h2:(k.length:Int) < 1∨(64:Int) < k.length
     · rw [if_pos h2] at h1;exact absurd (by decide) h1
     · omega
   · by_cases h2:(v.length:Int) < 0∨(256:Int) < v.length
     · rw [if_pos h2] at h;exact absurd h (by decide)
     · omega
theorem dchk_mil {d:List Ent} (h:dchk echk d=0):EMil d∧d.length≤16∧d≠[]:=by
 unfold dchk at h
 split at h
 · rename_i k;exact absurd h k
 · rename_i k
   have hl:d.length≤16∧d≠[]:=by
    unfold dmany at k
    by_cases h0:d.length=0
    · rw [if_pos h0] at k;exact absurd (by decide) k
    by_cases h1:16 < d.length
    · rw [if_neg h0,if_pos h1] at k;exact absurd (by decide) k
    exact ⟨by omega,fun e => h0 (by rw [e];rfl)⟩
   have ha:=(dall_iff d).1 (dchk1_all h)
   exact ⟨⟨by omega,fun e he => by have:=echk_sz (ha e he);omega⟩,hl⟩
theorem rwcheck_any (r:Rv) (I:Nat→Prop) (w:World) (h:RvOk w I r) (hz:ESz r.d) (hl:r.d.length≤9223372036854775807) (hT:Tabs w) :
 Calls Tryz.prog 184 #[.agg #[.slice r.A r.d.length r.c,.int .u64 (r.n:Int)]] w fun e w' => e=.returned (.int .i64 (rwchk echk r.rw))∧Below w.heap.size w w':=by
 have hb0:=ba (a:=w) b0 (.cells #[.slice r.A r.d.length r.c,.int .u64 (r.n:Int)] 134)
 have HC:=Lib.hid (check12_any r.A r.c r.d _ (h.2.rd.below hb0) hz hl (hT.below hb0))
 have HX:=Lib.hid (BlkAt.made w 134 #[.slice r.A r.d.length r.c,.int .u64 (r.n:Int)])
 have HB:=Lib.hid hb0
 unfold rwchk Rv.rw
 simp only
 clear h hz hT hb0
 obtain ⟨d,A,c,n⟩:=r
 simp only at *
 generalize dchk echk d=E at *
 by_cases hE:E=0
 · subst hE
   rw [if_neg (by simp)]
   by_cases hn:n=0
   · subst hn
     rw [if_pos rfl]
     go_enter Tryz.func184,Tryz.ntmps184
     go_wp2_with fail
     refine HC.out.mono ?_
     rintro e w1 ⟨rfl,hb1⟩
     have c1:=(HX.out.below hb1 HX.out.lt).cell 1
     simp at c1
     have HB1:=Lib.hid (bb HB.out hb1)
     clear hb1 HC
     go_wp2_with fail
     go_ret
     exact ⟨rfl,HB1.out⟩
   · rw [if_neg hn]
     have hni:((n:Int) == 0)=false:=by rw [beq_eq_false_iff_ne];omega
     clear hn
     go_enter Tryz.func184,Tryz.ntmps184
     go_wp2_with fail
     refine HC.out.mono ?_
     rintro e w1 ⟨rfl,hb1⟩
     have c1:=(HX.out.below hb1 HX.out.lt).cell 1
     simp at c1
     have HB1:=Lib.hid (bb HB.out hb1)
     clear hb1 HC
     go_wp2_with fail
     go_ret
     exact ⟨rfl,HB1.out⟩
 · rw [if_pos hE]
   have hEi:(E != 0)=true:=by rw [bne_iff_ne];exact hE
   clear hE
   go_enter Tryz.func184,Tryz.ntmps184
   go_wp2_with fail
   refine HC.out.mono ?_
   rintro e w1 ⟨rfl,hb1⟩
   have HB1:=Lib.hid (bb HB.out hb1)
   clear hb1 HC
   go_wp2_with fail
   go_ret
   exact ⟨rfl,HB1.out⟩
def pkt (l:List Rv) (k:Nat):Option (List UInt8):=if k=0 then none else (l[k - 1]?).map fun r => dkey r.d
theorem pkt_zero (l:List Rv):pkt l 0=none:=rfl
theorem pkt_succ (l:List Rv) (k:Nat) (h:k < l.length):pkt l (k+1)=some (dkey l[k].d):=by
 unfold pkt
 rw [if_neg (by omega),Nat.add_sub_cancel,List.getElem?_eq_getElem h]
 rfl
theorem tcheck_any (A:Option Addr) (c:Nat) (l:List Rv) (I:Nat→Prop) (w:World) (hr:Rd w A (rvs l)) (ho:∀ r ∈ l,RvOk w I r) (hz:∀ r ∈ l,ESz r.d∧r.d.length≤9223372036854775807) (hl:l.length≤9223372036854775807) (hT:Tabs w) :
 Calls Tryz.prog 145 #[.slice A l.length c] w fun e w' => e=.returned (.int .i64 (tchk echk (l.map Rv.rw)))∧Below w.heap.size w w':=by
 have HR:=Lib.hid hr
 have HO:=Lib.hid ho
 have HZ:=Lib.hid hz
 have HT:=Lib.hid hT
 clear hr ho hz hT
 by_cases h256:256 < l.length
 · have hli:(256:Int) < (l.length:Int):=by omega
   unfold tchk
   rw [List.length_map,if_pos h256]
   go_enter Tryz.func145,Tryz.ntmps145
   go_wp2_with fail
   go_ret
   exact ⟨rfl,b0⟩
 · have hli:¬ (256:Int) < (l.length:Int):=by omega
   unfold tchk
   rw [List.length_map,if_neg h256]
   have H0:Hid (tchk1 echk none (l.map Rv.rw)=tchk1 echk (pkt l 0) ((l.drop 0).map Rv.rw)):=rfl
   generalize tchk1 echk none (l.map Rv.rw)=F at H0 ⊢
   go_enter Tryz.func145,Tryz.ntmps145
   go_wp2_with fail
   go_loopg [3,13] l.length (fun gk av ki wr => ∃ (k:Nat) (K:List UInt8),k≤l.length∧l.length - k≤gk∧ki=.int .i64 (k:Int)∧av=.string (txt K)∧(k≠0→pkt l k=some K)∧Hid (F=tchk1 echk (pkt l k) ((l.drop k).map Rv.rw))∧Below w.heap.size w wr)
   case atStart => exact ⟨0,[],Nat.zero_le _,by omega,rfl,rfl,fun h => absurd rfl h,H0,b0⟩
   case round =>
    obtain ⟨k,K,hk,hgk,rfl,rfl,hK,HF,hbel⟩:=hrel
    by_cases hlt:k < l.length
    · obtain ⟨b,off,hA,hbl,c0,c1⟩:=(HR.out.below hbel).row hlt
      have hf:=HF.out
      rw [List.drop_eq_getElem_cons hlt,List.map_cons,tchk1] at hf
      have hps:=pkt_succ l k hlt
      have hro:=(HO.out _ (List.getElem_mem hlt)).below hbel
      obtain ⟨hz0,hz1⟩:=HZ.out _ (List.getElem_mem hlt)
      generalize l[k]=r at *
      have hbo:=ba (a:=wr) b0 (.cells #[.slice r.A r.d.length r.c,.int .u64 (r.n:Int)] 134)
      have HB:=Lib.hid (bb hbel hbo)
      have HX:=Lib.hid (BlkAt.made wr 134 #[.slice r.A r.d.length r.c,.int .u64 (r.n:Int)])
      have HRO:=Lib.hid (hro.below hbo)
      have HCK:=Lib.hid (rwcheck_any r I _ (hro.below hbo) hz0 hz1 (HT.out.below (bb hbel hbo)))
      obtain ⟨E,hEd⟩:∃ E,E=rwchk echk r.rw:=⟨_,rfl⟩
      have hmil:E=0→EMil r.d:=fun h => by
       rw [hEd] at h
       unfold rwchk at h
       split at h
       · rename_i q;exact absurd h q
       · rename_i q
         exact (dchk_mil (by unfold Rv.rw at q;simp only at q;omega)).1
      change F=if rwchk echk r.rw≠0 then rwchk echk r.rw else if dbehO (pkt l k) (dkey r.d)≠0 then dbehO (pkt l k) (dkey r.d) else tchk1 echk (some (dkey r.d)) ((l.drop (k+1)).map Rv.rw) at hf
      rw [← hEd] at hf HCK
      rw [← hps] at hf
      have HFF:=Lib.hid hf
      have HKK:=Lib.hid hK
      have HPS:=Lib.hid hps
      have HML:=Lib.hid hmil
      clear hf hps hro hbo hbel HF H0 hz0 hz1 hEd hK hmil
      subst hA
      by_cases hE:E=0
      · have HKY:Hid (∀ x,Below (wr.alloc (.cells #[.slice r.A r.d.length r.c,.int .u64 (r.n:Int)] 134)).heap.size (wr.alloc (.cells #[.slice r.A r.d.length r.c,.int .u64 (r.n:Int)] 134)) x→Calls Tryz.prog 76 #[.slice r.A r.d.length r.c] x fun e w' => e=.returned (.string (txt (dkey r.d)))∧Below x.heap.size x w'):=fun x hx => key12_any r.A r.c r.d x (HRO.out.2.rd.below hx) (HML.out hE)
        subst hE
        have hf:=HFF.out
        rw [if_neg (by simp)] at hf
        have HF2:=Lib.hid hf
        clear hf HFF HML
        go_wp2_with fail
        refine HCK.out.mono ?_
        rintro e w2 ⟨rfl,hb2⟩
        have HKC:=Lib.hid (HKY.out _ hb2)
        have HB2:=Lib.hid (bb HB.out hb2)
        have c0':=(HX.out.below hb2 HX.out.lt).cell 0
        simp at c0'
        clear hb2 HCK HKY c0 c1
        by_cases hk0:k=0
        · have hki:decide ((0:Int) < (k:Int))=false:=decide_eq_false (by omega)
          have hkn:decide (0 < k)=false:=decide_eq_false (by omega)
          have HN:Hid (F=tchk1 echk (pkt l (k+1)) ((l.drop (k+1)).map Rv.rw)):=by
           show _=_
           rw [HF2.out,hk0,pkt_zero]
           exact if_neg (by simp [dbehO])
          clear HF2 hk0
          go_wp2_with fail
          refine HKC.out.mono ?_
          rintro e w3 ⟨rfl,hb3⟩
          have HB3:=Lib.hid (bb HB2.out hb3)
          clear hb3 HKC
          go_wp2_with fail
          go_roundg (l.length - (k+1))
          case measure => omega
          case rel => exact ⟨k+1,dkey r.d,by omega,Nat.le_refl _,by go_num,rfl,fun _ => HPS.out,HN,HB3.out⟩
        · have hki:decide ((0:Int) < (k:Int))=true:=decide_eq_true (by omega)
          have hkn:decide (0 < k)=true:=decide_eq_true (by omega)
          have hf:=HF2.out
          rw [HKK.out hk0] at hf
          change F=if dbeh K (dkey r.d)≠0 then dbeh K (dkey r.d) else tchk1 echk (pkt l (k+1)) ((l.drop (k+1)).map Rv.rw) at hf
          unfold dbeh at hf
          have hls:=less_cmp (dkey r.d) K
          have hls2:Op.bytesLess (txt (dkey r.d)).toList (txt K).toList=decide (Lib.compareBytes (dkey r.d) K < 0):=by rw [ByteArray.toList_eq,ByteArray.toList_eq,txt_list,txt_list];exact hls
          clear hls HF2 HKK hk0
          by_cases h1:dkey r.d=K
          · have hs1:((txt (dkey r.d)).toList == (txt K).toList)=true:=str_same (by rw [h1])
            rw [if_pos h1,if_pos (by decide)] at hf
            subst hf
            clear h1 hls2
            go_wp2_with fail
            refine HKC.out.mono ?_
            rintro e w3 ⟨rfl,hb3⟩
            have HB3:=Lib.hid (bb HB2.out hb3)
            clear hb3 HKC
            go_wp2_with fail
            go_ret
            exact ⟨rfl,HB3.out⟩
          · have hs1:((txt (dkey r.d)).toList == (txt K).toList)=false:=str_else fun e => h1 (txt_inj.1 e)
            rw [if_neg h1] at hf
            by_cases h2:Lib.compareBytes (dkey r.d) K < 0
            · rw [decide_eq_true h2] at hls2
              rw [if_pos h2,if_pos (by decide)] at hf
              subst hf
              clear h1 h2
              go_wp2_with fail
              refine HKC.out.mono ?_
              rintro e w3 ⟨rfl,hb3⟩
              have HB3:=Lib.hid (bb HB2.out hb3)
              clear hb3 HKC
              go_wp2_with fail
              go_ret
              exact ⟨rfl,HB3.out⟩
            · rw [decide_eq_false h2] at hls2
              rw [if_neg h2,if_neg (by simp)] at hf
              have HN:=Lib.hid hf
              clear h1 h2 hf
              go_wp2_with fail
              refine HKC.out.mono ?_
              rintro e w3 ⟨rfl,hb3⟩
              have HB3:=Lib.hid (bb HB2.out hb3)
              clear hb3 HKC
              go_wp2_with fail
              go_roundg (l.length - (k+1))
              case measure => omega
              case rel => exact ⟨k+1,dkey r.d,by omega,Nat.le_refl _,by go_num,rfl,fun _ => HPS.out,HN,HB3.out⟩
      · have hf:=HFF.out
        rw [if_pos hE] at hf
        have hEi:(E != 0)=true:=by rw [bne_iff_ne];exact hE
        subst hf
        clear HFF hE HML
        go_wp2_with fail
        refine HCK.out.mono ?_
        rintro e w2 ⟨rfl,hb2⟩
        have HB2:=Lib.hid (bb HB.out hb2)
        clear hb2 HCK
        go_wp2_with fail
        go_ret
        exact ⟨rfl,HB2.out⟩
    · obtain rfl:k=l.length:=by omega
      have hf:=HF.out
      rw [List.drop_of_length_le (Nat.le_refl _),List.map_nil,tchk1] at hf
      subst hf
      have HB:=Lib.hid hbel
      clear hbel HF H0 hK
      go_wp2_with fail
      go_ret
      exact ⟨rfl,HB.out⟩
end Go.Proofs.YtgidfnhfgiehjaaGreatDoor
end
