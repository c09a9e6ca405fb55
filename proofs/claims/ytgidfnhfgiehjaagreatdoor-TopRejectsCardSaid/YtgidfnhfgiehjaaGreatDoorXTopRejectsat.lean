/-
  Texts of the proof, joined: Tab2 Set2. Conditions: as each names.
-/
import Derived.Test.YtgidfnhfgiehjaaGreatDoorXTopRejectsan
import Derived.Test.YtgidfnhfgiehjaaGreatDoorXTopRejectsaf
import Derived.Test.YtgidfnhfgiehjaaGreatDoorXTopRejectsas
import Derived.Test.YtgidfnhfgiehjaaGreatDoorXTopRejectsak
import Derived.Test.YtgidfnhfgiehjaaGreatDoorXTopRejectsad

section
namespace Go.Proofs.YtgidfnhfgiehjaaGreatDoor
open Go.RowKit Go.PM
set_option maxRecDepth 100000
set_option maxHeartbeats 4000000
attribute [local go_sem ↓] Go.wp_at_zero Go.wp_at_succ
theorem less13_any (R g n cap i j:Nat) (a b:ByteArray) (w:World) (hR:w.cell? ⟨R,0,none⟩=some (.slice (some ⟨g,0,none⟩) n cap)) (hi:i < n) (hj:j < n) (ca:w.cell? ⟨g,i * 3+2,none⟩=some (.string a)) (cb:w.cell? ⟨g,j * 3+2,none⟩=some (.string b)) :
 Calls Tryz.prog 261 #[.int .i64 i,.int .i64 j,.pointer (some ⟨R,0,none⟩)] w fun e w' => e=.returned (.bool (Op.bytesLess a.toList b.toList))∧∃ q,w'=w.drewN q:=by
 have hii:(i:Int) < (n:Int):=by omega
 have hjj:(j:Int) < (n:Int):=by omega
 have ti:((i:Int)).toNat=i:=by omega
 have tj:((j:Int)).toNat=j:=by omega
 go_enter Tryz.func261,Tryz.ntmps261
 go_wp2_with fail
 go_quiet (fail)
 go_wp2_with fail
 go_ret
 exact ⟨rfl,nq,rfl⟩
theorem clone13_any {w:World} {A:Option Addr} {c:Nat} {l:List Ent} (hr:Rd w A (ents l)) (hl:l.length≤1000000) (h0:l≠[]) :
 Calls Tryz.prog 137 #[.slice A l.length c] w fun e w' => ∃ A' c',e=.returned (.slice A' l.length c')∧RvOk w' (w.heap.size≤·) ⟨l,A',c',0⟩∧Below w.heap.size w w':=by
 obtain ⟨i0,hi0,hz0,hz1,hz2⟩:=info_parts info_ent
 have hpos:=List.length_pos_iff.2 h0
 obtain ⟨b,off,rfl,hb,_,_⟩:=hr.ent hpos
 have hc:∀ j u,(ents l)[j]? = some u→w.cell? ⟨b,off+j,none⟩=some u:=by
  rcases hr with h | ⟨b',off',e,_,hc⟩
  · have h1:=ents_len l
    rw [h] at h1
    simp only [List.length_nil] at h1
    omega
  · injection e with e
    injection e with e1 e2
    subst e1 e2
    exact hc
 refine (AnyE.slices_Clone Tryz.cloneDsc i0 zent 2 32 hi0 hz0 hz1 hz2 rfl (by decide) Tryz.sizeOf132 b off l.length c (ents l) w (ents_len l) (by unfold maxLen;omega) (by omega) hc (ents_one l)).mono ?_
 rintro e w' ⟨v',rfl,hown,hne,hbel⟩
 obtain ⟨_,A',c',rfl,hrd,hlc,hfr⟩:=own_rd hown
 exact ⟨A',c',rfl,⟨hlc,hrd.rdI fun b off e => (hfr b off e).2⟩,hbel⟩
theorem rclone_any {w:World} {A:Option Addr} {c n:Nat} {l:List Ent} (hr:Rd w A (ents l)) (hl:l.length≤1000000) (h0:l≠[]) :
 Calls Tryz.prog 262 #[.agg #[.slice A l.length c,.int .u64 (n:Int)]] w fun e w' => ∃ A' c',e=.returned (.agg #[.slice A' l.length c',.int .u64 (n:Int)])∧RvOk w' (w.heap.size≤·) ⟨l,A',c',n⟩∧Below w.heap.size w w':=by
 have hb1:=ba (a:=w) b0 (.cells #[.slice A l.length c,.int .u64 (n:Int)] 134)
 have hb2:=ba hb1 (.cells #[.slice none 0 0,.int .u64 0] 134)
 have HX:=Lib.hid ((BlkAt.made w 134 #[.slice A l.length c,.int .u64 (n:Int)]).more (.cells #[.slice none 0 0,.int .u64 0] 134))
 have HY:=Lib.hid (BlkAt.made (w.alloc (.cells #[.slice A l.length c,.int .u64 (n:Int)] 134)) 134 #[.slice none 0 0,.int .u64 0])
 rw [World.size_alloc] at HY
 have HR:=Lib.hid (hr.below hb2)
 have HB:=Lib.hid hb2
 have hsz:w.heap.size+2=((w.alloc (.cells #[.slice A l.length c,.int .u64 (n:Int)] 134)).alloc (.cells #[.slice none 0 0,.int .u64 0] 134)).heap.size:=by simp
 have HZ:=Lib.hid hsz
 clear hr hb1 hb2 hsz
 go_enter Tryz.func262,Tryz.ntmps262
 go_wp2_with fail
 generalize ((w.alloc (.cells #[.slice A l.length c,.int .u64 (n:Int)] 134)).alloc (.cells #[.slice none 0 0,.int .u64 0] 134))=wz at HX HY HR HB HZ ⊢
 have HC:Hid (∀ x:World,Below wz.heap.size wz x→Calls Tryz.prog 137 #[.slice A l.length c] x fun e w' => ∃ A' c',e=.returned (.slice A' l.length c')∧RvOk w' (x.heap.size≤·) ⟨l,A',c',0⟩∧Below x.heap.size x w'):=fun x hx => clone13_any (HR.out.below hx) hl h0
 have HSB:Hid (∀ x:World,Below wz.heap.size wz x→(x.cell? ⟨w.heap.size,0,none⟩=some (.slice A l.length c)∧x.cell? ⟨w.heap.size,1,none⟩=some (.int .u64 (n:Int)))):=fun x h => ⟨(HX.out.below h HX.out.lt).cell 0,(HX.out.below h HX.out.lt).cell 1⟩
 have hbW:Below wz.heap.size wz wz:=b0
 obtain ⟨k0,k1⟩:=HSB.out _ hbW
 go_region_held3 (fun x => x.cell? ⟨w.heap.size,0,none⟩=some (.slice A l.length c)∧x.cell? ⟨w.heap.size,1,none⟩=some (.int .u64 (n:Int))) (first | go_keep | exact HSB.out _ hbW | exact HSB.out _ (bd hbW))
  ((go_at_call 137;refine (HC.out _ (by repeat (first | exact hbW | refine bd ?_))).mono ?_;rintro e' W1 ⟨A1,c1,rfl,hro,hb1'⟩;replace hbW:Below wz.heap.size wz W1:=bb (by repeat (first | exact hbW | refine bd ?_)) hb1';obtain ⟨k0,k1⟩:=HSB.out _ hbW;have hy1:=HY.out.below hbW HY.out.lt;have f0:=hy1.free 0;have f1:=hy1.free 1;have d0:=hy1.cell 0;have d1:=hy1.cell 1;simp at d0 d1))
 have HE:Hid (∀ w',Tch (fun j => j=w.heap.size+1) W1 w'→RvOk w' (w.heap.size≤·) ⟨l,A1,c1,n⟩∧Below w.heap.size w w'):=fun w' ht =>
  ⟨((show RvOk W1 (wz.heap.size≤·) ⟨l,A1,c1,n⟩ from hro).tch ht fun g hg e => by have:=HZ.out;omega).imp fun g _ hg => by have:=HZ.out;omega,(HB.out.trans (hbW.mono HB.out.size)).trans (ht.toBelowB (by have:=hbW.size;have:=HZ.out;omega) fun g hg e => by omega)⟩
 clear hro hb1' hbW HX HY HSB HC HR
 go_wp2_with fail
 refine bodyPost_ret (v:=.agg #[.slice A1 l.length c1,.int .u64 (n:Int)]) (by simp [results,Tryz.results262,go_sem,d0,d1];try rfl) rfl ⟨A1,c1,rfl,HE.out _ (res_two _ _ _ _)⟩
end Go.Proofs.YtgidfnhfgiehjaaGreatDoor
end

section
namespace Go.Proofs.YtgidfnhfgiehjaaGreatDoor
open Go.RowKit Go.PM
set_option maxRecDepth 100000
set_option maxHeartbeats 4000000
attribute [local go_sem ↓] Go.wp_at_zero Go.wp_at_succ
theorem clone_empty (A:Option Addr) (c:Nat) (w:World):Calls Tryz.prog 137 #[.slice A 0 c] w fun e w' => ∃ A' c',e=.returned (.slice A' 0 c')∧Below w.heap.size w w':=by
 cases A with
 | none =>
   refine (AnyE.slices_Clone_nil Tryz.cloneDsc 0 c w).mono ?_
   rintro e w' ⟨rfl,rfl⟩
   exact ⟨none,0,rfl,b0⟩
 | some a =>
   obtain ⟨i0,hi0,hz0,hz1,hz2⟩:=info_parts info_ent
   have heq:∀ (w:World) (a:Option Addr) (n c n' c':Nat),(binOp .eql 24 (.slice a n c) (.slice none n' c')).run Tryz.prog w=.ok (.bool a.isNone) w:=fun w a n c n' c' => Lib.run_eql_slice_nil w _ _ a n c n' c' Tryz.underlying24
   have hb:=ba (a:=w) b0 (.cells #[] 132)
   have HB:=Lib.hid hb
   have HAP:=Lib.hid (append_empty (P:=Tryz.prog) (w:=w.alloc (.cells #[] 132)) 24 24 132 i0 Tryz.underlying24 hi0 (some ⟨w.heap.size,0,none⟩) (some a) 0 0 c (Nat.le_refl 0))
   clear hb
   go_enter Tryz.func137,Tryz.ntmps137
   go_wp2_with (at_builtin;(refine wpList_append_run rfl _ _ _ _ rfl _ _ _ rfl rfl HAP.out ?_))
   go_ret
   exact ⟨_,_,rfl,HB.out⟩
theorem cloneD_any {w:World} {A:Option Addr} {c:Nat} {l:List Ent} (hr:Rd w A (ents l)) (hl:l.length≤1000000) :
 Calls Tryz.prog 137 #[.slice A l.length c] w fun e w' => ∃ A' c',e=.returned (.slice A' l.length c')∧RvOk w' (w.heap.size≤·) ⟨l,A',c',0⟩∧Below w.heap.size w w':=by
 by_cases h0:l=[]
 · subst h0
   refine (clone_empty A c w).mono ?_
   rintro e w' ⟨A',c',rfl,hb⟩
   exact ⟨A',c',rfl,⟨Nat.zero_le _,.inl rfl⟩,hb⟩
 · exact clone13_any hr hl h0
def ClAt (B:Nat) (wM:World) (l:List Rv) (j:Nat) (vv:Value) (wr:World):Prop:=∃ l':List Rv,wr.ownsRow B 134 2 vv j (rvs l')∧l'.map Rv.rw=(l.map Rv.rw).take j∧(∀ r ∈ l',RvOk wr (fun q => B≤q∧vv.ownBlock≠some q) r)∧Below B wM wr∧wM.heap.size≤wr.heap.size
def CloneEnd18 (w:World) (m:Mp) (e:Ending) (w':World):Prop:=∃ dv tv rv,e=.returned (.agg (mvs m dv tv rv))∧MgN w.heap.size w' m dv tv rv∧Below w.heap.size w w'
def zmvs:Array Value:=#[.int .i64 0,.int .u64 0,.int .u64 0,.int .u64 0,.int .u64 0,.int .u64 0,.int .u64 0,.int .u64 0,.int .u64 0,.int .u64 0,.int .u64 0,.int .u64 0,.int .u64 0,.int .u64 0,.int .u64 0,.int .u64 0,.int .i64 0,.bool false,.string ⟨#[]⟩,.string ⟨#[]⟩,.string ⟨#[]⟩,.slice none 0 0,.slice none 0 0,.slice none 0 0]
theorem zmvs_eq:zmvs=mvs m0 (.slice none 0 0) (.slice none 0 0) (.slice none 0 0):=rfl
theorem zmvs_one:zmvs.all (·.oneCell')=true:=by simp [zmvs,Value.oneCell']
theorem mvs_one {m:Mp} {A B C:Option Addr} {n1 n2 n3 c1 c2 c3:Nat}:(mvs m (.slice A n1 c1) (.slice B n2 c2) (.slice C n3 c3)).all (·.oneCell')=true:=by simp [mvs,Value.oneCell']
theorem setCells_len (b:Nat):∀ (vs:List Value) (o:Nat) (w:World),(w.setCells b o vs).heap.size=w.heap.size
 | [],_,_ => rfl
 | v :: r,o,w => by
   rw [World.setCells,setCells_len b r]
   simp [World.setCell]
theorem putAll_size (w:World) (b:Nat) (ds:Array Value):(World.putAll w b ds).heap.size=w.heap.size:=setCells_len b _ _ _
theorem pin {p:Prop} (h:id p):p:=h
theorem clone18 {I:Nat→Prop} {m:Mp} {dv tv rv:Value} (w:World) (hv:MgV w I m dv tv rv) (hd:m.d.length≤1000000) (ht:∀ r ∈ m.t,r.1.length≤1000000) (htl:m.t.length≤100000) (hr:m.rest.count≤1000000) :
 Calls Tryz.prog 82 #[.agg (mvs m dv tv rv)] w (CloneEnd18 w m):=by
 obtain ⟨i1,hi1,hy0,hy1,hy2⟩:=info_parts info_row
 have HV0:=Lib.hid hv
 obtain ⟨dA,dc,tA,tc,rA,rc,rfl,rfl,rfl⟩:=hv.slices
 have HM:Hid (BlkAt (w.alloc (.cells (mvs m (.slice dA m.d.length dc) (.slice tA m.t.length tc) (.slice rA m.rest.len rc)) 35)) w.heap.size 35 (mvs m (.slice dA m.d.length dc) (.slice tA m.t.length tc) (.slice rA m.rest.len rc))):=BlkAt.made w 35 (mvs m (.slice dA m.d.length dc) (.slice tA m.t.length tc) (.slice rA m.rest.len rc))
 have HBM:=Lib.hid (ba (a:=w) b0 (.cells (mvs m (.slice dA m.d.length dc) (.slice tA m.t.length tc) (.slice rA m.rest.len rc)) 35))
 have HV:=Lib.hid (hv.below HBM.out)
 obtain ⟨wz,hwz⟩:∃ wz,wz=w.alloc (.cells (mvs m (.slice dA m.d.length dc) (.slice tA m.t.length tc) (.slice rA m.rest.len rc)) 35):=⟨_,rfl⟩
 have hsz:wz.heap.size=w.heap.size+1:=by rw [hwz];simp
 rw [← hwz] at HM HBM HV
 clear hv
 simp only [mvs] at hwz
 obtain ⟨⟨dA',dc',e1,hdc,hdr⟩,⟨l,tA',tc',e2,hmt,htr,hto,htc⟩,hrs⟩:=HV0.out
 injection e1 with e1 _ e3
 subst e1 e3
 injection e2 with e1 e2 e3
 subst e1 e3
 have HDR:=Lib.hid hdr
 have HTR:=Lib.hid htr
 have HTO:=Lib.hid hto
 have HRS:=Lib.hid hrs
 have HMT:=Lib.hid hmt
 have HLL:=Lib.hid e2
 have HTD:Hid (∀ r ∈ l,r.d.length≤1000000):=fun r hr => ht r.rw (by rw [hmt];exact List.mem_map_of_mem hr)
 clear hdr htr hto hrs hmt e2 ht hdc htc
 obtain ⟨wZ,hwZ⟩:∃ wZ,wZ=wz.alloc (.cells zmvs 35):=⟨_,rfl⟩
 have HM0:Hid (BlkAt wZ w.heap.size 35 (mvs m (.slice dA m.d.length dc) (.slice tA m.t.length tc) (.slice rA m.rest.len rc))):=by rw [hwZ];exact HM.out.more _
 have HR0:Hid (BlkAt wZ (w.heap.size+1) 35 zmvs):=by
  have:=BlkAt.made wz 35 zmvs
  rw [hsz] at this
  rw [hwZ]
  exact this
 have HB0:Hid (Below w.heap.size w wZ):=by rw [hwZ];exact ba HBM.out _
 have hsZ:wZ.heap.size=w.heap.size+2:=by rw [hwZ,World.size_alloc,hsz]
 have HCD:=Lib.hid (cloneD_any (HDR.out.rd.below HB0.out) hd (c:=dc))
 simp only [zmvs] at hwZ
 show Calls _ _ #[.agg #[.int .i64 m.kind,.int .u64 (m.id:Int),.int .u64 (m.min_:Int),.int .u64 (m.max_:Int),.int .u64 (m.chosen:Int),.int .u64 (m.flags:Int),.int .u64 (m.cost:Int),.int .u64 (m.prio:Int),.int .u64 (m.dead:Int),.int .u64 (m.retry:Int),.int .u64 (m.epoch:Int),.int .u64 (m.base:Int),.int .u64 (m.digest:Int),.int .u64 (m.lag:Int),.int .u64 (m.code:Int),.int .u64 (m.want:Int),.int .i64 m.rem,.bool m.al,.string (txt m.nm),.string (txt m.rg),.string (txt m.nt),.slice dA m.d.length dc,.slice tA m.t.length tc,.slice rA m.rest.len rc] ] _ _
 go_enter Tryz.func82,Tryz.ntmps82
 go_wp2_with fail
 rw [← hwz,← hwZ]
 refine HCD.out.mono ?_
 rintro e w1 ⟨dA1,dc1,rfl,hro1,hb1⟩
 have hm1:=HM0.out.below hb1 HM0.out.lt
 have h21:=hm1.cell 21
 have f21:=hm1.free 21
 have h22:w1.cell? ⟨w.heap.size,22,none⟩=some (.slice tA m.t.length tc):=hm1.cell 22
 have hl1:=hm1.lt
 simp only [mvs] at h21
 simp at h21
 have hss:(w1.setCell ⟨w.heap.size,21,none⟩ (.slice dA1 m.d.length dc1)).heap.size=w1.heap.size:=by simp [World.setCell]
 obtain ⟨wM,hmk,hown,hgM⟩:=run_make_own (P:=Tryz.prog) (w1.setCell ⟨w.heap.size,21,none⟩ (.slice dA1 m.d.length dc1)) w1.heap.size 26 134 i1 zrow 2 Tryz.underlying26 hi1 hy0 hy1 .i64 .i64 m.t.length (by rw [hy2];omega) (by unfold maxLen;omega) (by rw [hss];exact Nat.le_refl _)
 rw [hss] at hmk hown
 have HB1:=Lib.hid (HB0.out.trans (hb1.mono HB0.out.size))
 have HM1:=Lib.hid hm1
 have HR1:=Lib.hid (HR0.out.below hb1 HR0.out.lt)
 have HRO1:=Lib.hid hro1
 have HS1:=hb1.size
 have hbM:Below w1.heap.size (w1.setCell ⟨w.heap.size,21,none⟩ (.slice dA1 m.d.length dc1)) wM:=by
  have:=below_of_grown hgM
  rw [hss] at this
  exact this
 have HTM:Hid (Tch (fun j => j=w.heap.size) w1 wM):=((Tch.refl (fun j => j=w.heap.size) w1).put (p:=⟨w.heap.size,21,none⟩) (fun _ => rfl) _).bel (by rw [hss];exact hbM)
 have hmM:BlkAt wM w.heap.size 35 (mvs m (.slice dA1 m.d.length dc1) (.slice tA m.t.length tc) (.slice rA m.rest.len rc)) :=
  BlkAt.below (hm1.put 21 (.slice dA1 m.d.length dc1)) hbM hm1.lt
 have h22M:wM.cell? ⟨w.heap.size,22,none⟩=some (.slice tA m.t.length tc):=hmM.cell 22
 have hlM:=hmM.lt
 have HMM:=Lib.hid hmM
 have HSM:Hid (w1.heap.size≤wM.heap.size):=(by have h:=hbM.size;rw [hss] at h;exact h)
 have H0:Hid (ClAt w1.heap.size wM l 0 (.slice (some ⟨w1.heap.size,0,none⟩) 0 m.t.length) wM):=⟨[],hown,rfl,by simp,Below.refl _ _,Nat.le_refl _⟩
 clear hm1 hb1 hro1 HCD hwz hwZ HM HBM HV hown hgM hbM hmM
 go_wp2_with fail
 clear hmk
 go_loopg [3,17] m.t.length (fun gk vv ki wr => ∃ j:Nat,j≤m.t.length∧m.t.length - j≤gk∧ki=.int .i64 (j:Int)∧Hid (ClAt w1.heap.size wM l j vv wr))
 case atStart => exact ⟨0,Nat.zero_le _,by omega,rfl,H0⟩
 case round =>
  obtain ⟨j,hj,hgj,rfl,HS⟩:=hrel
  obtain ⟨l',hown,hlm,hro,hbel,hsw⟩:=HS.out
  have HB1M:Hid (Below w.heap.size w wM):=HB1.out.trans (HTM.out.toBelowB HB1.out.size fun g hg e => by omega)
  have hbw:Below w.heap.size w wr:=HB1M.out.trans (hbel.mono HB1.out.size)
  by_cases hlt:j < m.t.length
  · have hltl:j < l.length:=by rw [← HLL.out];exact hlt
    obtain ⟨b,off,hAe,hbl,c0,c1⟩:=(HTR.out.below hbw).row hltl
    subst hAe
    have hrr:=(HTO.out l[j] (List.getElem_mem hltl)).2.rd.below hbw
    have hrd:=HTD.out l[j] (List.getElem_mem hltl)
    have hst:(l.map Rv.rw).take (j+1)=(l.map Rv.rw).take j++[l[j].rw]:=by
     rw [← List.take_append_getElem (show j < (l.map Rv.rw).length by rw [List.length_map];exact hltl),List.getElem_map]
    have HST:=Lib.hid hst
    generalize l[j]=r at *
    obtain ⟨rd,rA',rc',rn⟩:=r
    simp only at c0 c1 hrr hrd
    have hxm:=BlkAt.made wr 134 #[.slice rA' rd.length rc',.int .u64 (rn:Int)]
    have hbx:=ba (a:=wr) b0 (.cells #[.slice rA' rd.length rc',.int .u64 (rn:Int)] 134)
    have HRR:=Lib.hid (hrr.below hbx)
    have HOWN:=Lib.hid hown
    have HRO:=Lib.hid hro
    have HLM:=Lib.hid hlm
    have HBEL:=Lib.hid hbel
    have HXM:=Lib.hid hxm
    have HBX:=Lib.hid hbx
    have hwz:=hsw
    have hS2:=HSM.out
    obtain ⟨rl,hrl⟩:∃ rl,rl=rd.length:=⟨_,rfl⟩
    have HRL:Hid (rd.length=rl):=hrl.symm
    rw [← hrl] at c0 HXM HBX HRR
    clear hrl
    clear hrr hst hown hro hlm hbel hxm hbx HS H0 h22M
    go_wp2_with fail
    generalize wr.alloc (.cells #[.slice rA' rl rc',.int .u64 (rn:Int)] 134)=W at HXM HBX HRR ⊢
    have HC:Hid (∀ x:World,Below W.heap.size W x→Calls Tryz.prog 137 #[.slice rA' rl rc'] x fun e w' => ∃ A' c',e=.returned (.slice A' rl c')∧RvOk w' (x.heap.size≤·) ⟨rd,A',c',0⟩∧Below x.heap.size x w'):=fun x hx => by
     have:=cloneD_any (c:=rc') (HRR.out.below hx) hrd
     rw [HRL.out] at this
     exact this
    have HOW:=Lib.hid (own_below HOWN.out HBX.out)
    have hWz:=HBX.out.size
    have e0:=HXM.out.cell 0
    have e1:=HXM.out.cell 1
    have hlx:=HXM.out.lt
    simp at e0 e1
    go_region_held3 (fun w' => w'.cell? ⟨wr.heap.size,0,none⟩=some (.slice rA' rl rc')∧w'.cell? ⟨wr.heap.size,1,none⟩=some (.int .u64 (rn:Int))) (go_keep)
     (first
       | (go_at_call 137;refine (HC.out _ (bd b0)).mono ?_;rintro e' W1 ⟨A1,c1,rfl,hs1,hb1'⟩;have hbW1:Below W.heap.size W W1:=bb (bd b0) hb1';have hm51:=HXM.out.below hbW1 HXM.out.lt;have e0':=hm51.cell 0;have e1':=hm51.cell 1;simp at e0' e1')
       | (refine step_append_lies _ (by rfl) _ _ _ (by rfl) w1.heap.size 134 i1 _ 2 32 Tryz.underlying26 hi1 hy0 hy1 hy2 rfl (by omega) u3 j (rvs l') (by rfl) ((own_below HOW.out hbW1).alloc _) ⟨W1.heap.size,0,none⟩ 1 1 [.slice A1 rl c1,.int .u64 (rn:Int)] (by rfl) (by rfl) (World.news_of_block (cs:=#[.slice A1 rl c1,.int .u64 (rn:Int)]) (t:=134) (fr:=(0,0)) (heap_alloc_new W1 _)) (by simp [Value.oneCell']) (by omega) (by unfold maxLen;omega) (by omega) (by have:=hbW1.size;simp;omega) (W1.heap.size+1) (by simp) ?_;intro g cap3 w3 hown3 hg3 hat3 hlt3;have HG3:=Lib.hid hg3;have f0':=(((HXM.out.below hbW1 HXM.out.lt).more (.cells #[.slice A1 rl c1,.int .u64 (rn:Int)] 134)).step hg3 (by intro e;have:=(HOWN.out.lt _ e.symm).2;omega));have g0:=f0'.cell 0;have g1:=f0'.cell 1;simp at g0 g1))
    go_wp2_with fail
    go_roundg (m.t.length - (j+1))
    case measure => omega
    case rel =>
     have hbq:Below wr.heap.size wr (W1.alloc (.cells #[.slice A1 rl c1,.int .u64 (rn:Int)] 134)):=ba (bb HBX.out hbW1) _
     have hsq:=hbq.size
     refine ⟨j+1,by omega,Nat.le_refl _,by go_num,l'++[⟨rd,A1,c1,rn⟩],?_,?_,fun r hr => ?_,?_,?_⟩
     · have e:rvs [(⟨rd,A1,c1,rn⟩:Rv)]=[.slice A1 rl c1,.int .u64 (rn:Int)]:=by simp [rvs,encR,HRL.out]
       rw [rvs_app,e]
       exact hown3
     · rw [List.map_append,HLM.out,HST.out]
       rfl
     · rcases List.mem_append.1 hr with hr | hr
       · have h1:=((HRO.out r hr).imp (J:=fun q => (w1.heap.size≤q∧u3.ownBlock≠some q)∧q < wr.heap.size) fun q hl hq => ⟨hq,hl⟩).below hbq
         have h2:=h1.tch (S:=fun q => u3.ownBlock=some q) (Tch.grown HG3.out fun q hq _ => hq) fun q hq => hq.1.2
         refine h2.imp fun q hql hq => ⟨hq.1.1,fun e => ?_⟩
         simp only [Value.ownBlock,Option.some.injEq] at e
         subst e
         rcases hat3 with h | h
         · exact hq.1.2 h
         · have:=hq.2
           simp only [World.size_alloc] at hsq
           have:=hbW1.size
           omega
       · obtain rfl:r=_:=by simpa using hr
         have hs1':RvOk W1 (W.heap.size≤·) ⟨rd,A1,c1,rn⟩:=hs1
         have h1:=(hs1'.imp (J:=fun q => W.heap.size≤q∧q < W1.heap.size) fun q hl hq => ⟨hq,hl⟩).below (ba b0 (.cells #[.slice A1 rl c1,.int .u64 (rn:Int)] 134))
         have h2:=h1.tch (S:=fun q => u3.ownBlock=some q) (Tch.grown HG3.out fun q hq _ => hq) fun q hq e => by have:=(HOWN.out.lt q e).2;have:=hq.1;omega
         refine h2.imp fun q hql hq => ⟨by have:=hq.1;omega,fun e => ?_⟩
         simp only [Value.ownBlock,Option.some.injEq] at e
         subst e
         rcases hat3 with h | h
         · have:=(HOWN.out.lt _ h).2
           have:=hq.1
           omega
         · have:=hq.2
           omega
     · exact (HBEL.out.trans (hbq.mono (by omega))).trans (Tch.grown (S:=fun k => u3.ownBlock=some k) HG3.out (fun k hk _ => hk) |>.toBelowB (by omega) fun k hk e => by have:=(HOWN.out.lt k e).1;omega)
     · have:=HG3.out.size
       omega
  · obtain rfl:j=m.t.length:=by omega
    obtain ⟨A2,c2,hv2,hrd2,hc2,hfr2⟩:=Rd.own hown
    have hlm2:l'.map Rv.rw=m.t:=by
     rw [hlm,HMT.out,List.take_of_length_le (by rw [List.length_map,← HLL.out];exact Nat.le_refl _)]
    have hll:l'.length=m.t.length:=by rw [← hlm2,List.length_map]
    subst hv2
    have hTN:TbN w1.heap.size wr (.slice A2 m.t.length c2) m.t:=⟨l',A2,c2,by rw [hll],hlm2.symm,hrd2,fun r hr => (hro r hr).imp fun q _ hq => hq.1,by omega,fun b off e => (hfr2 b off e).2⟩
    have HTN:=Lib.hid hTN
    have hmr:=HMM.out.below hbel (by have:=hbel.size;have:=HB1.out.size;omega)
    have hrr0:=((HR1.out.tch HTM.out (by omega)).below hbel (by have:=HS1;omega))
    have h22r:wr.cell? ⟨w.heap.size,22,none⟩=some (.slice tA m.t.length tc):=hmr.cell 22
    have f22:=hmr.free 22
    have h23r:wr.cell? ⟨w.heap.size,23,none⟩=some (.slice rA m.rest.len rc):=hmr.cell 23
    have hlr:=hmr.lt
    have hb4:Below w.heap.size w (wr.setCell ⟨w.heap.size,22,none⟩ (.slice A2 m.t.length c2)):=bs hbw (Nat.le_refl _) _
    have HB4:=Lib.hid hb4
    have HM4:Hid (BlkAt (wr.setCell ⟨w.heap.size,22,none⟩ (.slice A2 m.t.length c2)) w.heap.size 35 (mvs m (.slice dA1 m.d.length dc1) (.slice A2 m.t.length c2) (.slice rA m.rest.len rc))):=hmr.put 22 (.slice A2 m.t.length c2)
    have HR4:Hid (BlkAt (wr.setCell ⟨w.heap.size,22,none⟩ (.slice A2 m.t.length c2)) (w.heap.size+1) 35 zmvs):=hrr0.far (by simp) _
    have HFC:=Lib.hid (clone_of (.slice rA m.rest.len rc) m.rest I _ (HRS.out.below hb4) hr)
    have hs4:(wr.setCell ⟨w.heap.size,22,none⟩ (.slice A2 m.t.length c2)).heap.size=wr.heap.size:=by simp [World.setCell]
    have HBL:=Lib.hid hbel
    have HLR:=Lib.hid hlr
    clear hown hro hlm hlm2 hll hrd2 hfr2 hTN hbw hb4 HS H0 hmr hrr0
    go_wp2_with fail
    refine HFC.out.mono ?_
    rintro e w5 hcl
    obtain ⟨A5,c5,rfl,hs5,hb5⟩:=clone_new hcl
    have hm5:=HM4.out.below hb5 HM4.out.lt
    have h23:w5.cell? ⟨w.heap.size,23,none⟩=some (.slice rA m.rest.len rc):=hm5.cell 23
    have f23:=hm5.free 23
    have hl5:=hm5.lt
    have HM6:Hid (BlkAt (w5.setCell ⟨w.heap.size,23,none⟩ (.slice A5 m.rest.len c5)) w.heap.size 35 (mvs m (.slice dA1 m.d.length dc1) (.slice A2 m.t.length c2) (.slice A5 m.rest.len c5))):=hm5.put 23 (.slice A5 m.rest.len c5)
    have HR6:Hid (BlkAt (w5.setCell ⟨w.heap.size,23,none⟩ (.slice A5 m.rest.len c5)) (w.heap.size+1) 35 zmvs):=(HR4.out.below hb5 HR4.out.lt).far (by simp) _
    have HB5:=Lib.hid hb5
    have HS5:=Lib.hid hs5
    clear hm5 hs5 hb5 hcl HFC h22r h23r f22
    go_wp2_with
     (first | (with_reducible show wpList _ _ _ (Oper.mk _ (Op.load 35 _) _ _ _ _ :: _) _ _;refine wpList_load_blk rfl _ _ rfl _ rfl _ HM6.out Tryz.underlying35 rfl (info_msg _ _ _ _) ?_) | (with_reducible show wpList _ _ _ (Oper.mk _ (Op.store 35 _ _) _ _ _ _ :: _) _ _;apply pin))
    refine wpList_store_blk rfl _ _ _ rfl _ _ rfl rfl HR6.out rfl (info_msg _ _ _ _) mvs_one ?_
    go_wp2_with fail
    refine bodyPost_ret (v:=.agg (mvs m (.slice dA1 m.d.length dc1) (.slice A2 m.t.length c2) (.slice A5 m.rest.len c5))) (by exact results_cell_row rfl _ _ (w.heap.size+1) 35 _ (0,0) _ rfl (putAll_at HR6.out rfl) Tryz.underlying35 rfl (info_msg _ _ _ _)) rfl ?_
    have hpa:=putAll_tch (w5.setCell ⟨w.heap.size,23,none⟩ (.slice A5 m.rest.len c5)) (w.heap.size+1) (mvs m (.slice dA1 m.d.length dc1) (.slice A2 m.t.length c2) (.slice A5 m.rest.len c5))
    have hT5:Tch (fun j => j=w.heap.size∨j=w.heap.size+1) w5 (World.putAll (w5.setCell ⟨w.heap.size,23,none⟩ (.slice A5 m.rest.len c5)) (w.heap.size+1) (mvs m (.slice dA1 m.d.length dc1) (.slice A2 m.t.length c2) (.slice A5 m.rest.len c5))) :=
     ((Tch.refl (fun j => j=w.heap.size∨j=w.heap.size+1) w5).put (p:=⟨w.heap.size,23,none⟩) (fun _ => .inl rfl) _).trans hpa fun g _ e => .inr e
    have hTr:Tch (fun j => j=w.heap.size∨j=w.heap.size+1) wr (World.putAll (w5.setCell ⟨w.heap.size,23,none⟩ (.slice A5 m.rest.len c5)) (w.heap.size+1) (mvs m (.slice dA1 m.d.length dc1) (.slice A2 m.t.length c2) (.slice A5 m.rest.len c5))) :=
     (((Tch.refl (fun j => j=w.heap.size∨j=w.heap.size+1) wr).put (p:=⟨w.heap.size,22,none⟩) (fun _ => .inl rfl) _).bel HB5.out).trans hT5 fun g _ e => e
    have hT1:Tch (fun j => j=w.heap.size∨j=w.heap.size+1∨w1.heap.size≤j) w1 (World.putAll (w5.setCell ⟨w.heap.size,23,none⟩ (.slice A5 m.rest.len c5)) (w.heap.size+1) (mvs m (.slice dA1 m.d.length dc1) (.slice A2 m.t.length c2) (.slice A5 m.rest.len c5))) :=
     ((HTM.out.imp (S':=fun j => j=w.heap.size∨j=w.heap.size+1∨w1.heap.size≤j) fun g _ e => .inl e).trans (S':=fun j => w1.heap.size≤j) ⟨HBL.out.os,HBL.out.tape,HBL.out.output,hsw,fun k _ hn => HBL.out.block k (by omega)⟩ fun g _ e => .inr (.inr e)).trans hTr fun g _ e => by
       rcases e with e | e
       · exact .inl e
       · exact .inr (.inl e)
    have hS1:=HS1
    refine ⟨_,_,_,rfl,⟨⟨dA1,dc1,rfl,HRO1.out.1,?_⟩,?_,?_⟩,?_⟩
    · refine ((HRO1.out.2.imp (J:=fun q => wZ.heap.size≤q∧q < w1.heap.size) fun q hl hq => ⟨hq,hl⟩).tch hT1 fun q hq e => by omega).imp fun q _ hq => by omega
    · exact (HTN.out.tch hTr fun k hk e => by omega).mono (by omega)
    · have:=HSM.out
      refine (HS5.out.tch hT5 fun k hk e => by omega).imp fun k hk => by omega
    · have h1:=(bb HB4.out HB5.out).size
      exact (bb HB4.out HB5.out).trans (hT5.toBelowB (by omega) fun g hg e => by omega)
def WithEnd (w:World) (m:Mp) (i:Nat) (q:Mv × Int) (e:Ending) (w':World):Prop :=
 ∃ dv tv rv,e=.returned (.tuple #[.agg (mvs (if q.2≠0 then m0 else m.put i q.1) dv tv rv),.int .i64 q.2])∧MgN w.heap.size w' (if q.2≠0 then m0 else m.put i q.1) dv tv rv∧Below w.heap.size w w'
theorem mgn_zero (B:Nat) (w:World):MgN B w m0 (.slice none 0 0) (.slice none 0 0) (.slice none 0 0):=⟨⟨none,0,rfl,Nat.le_refl _,.inl rfl⟩,tbn_nil B w,SlV.nil _ _ _ _⟩
theorem MgN.slices {B:Nat} {w:World} {m:Mp} {dv tv rv:Value} (h:MgN B w m dv tv rv):∃ dA dc tA tc rA rc,dv=.slice dA m.d.length dc∧tv=.slice tA m.t.length tc∧rv=.slice rA m.rest.len rc:=h.v.slices
theorem with18 {I:Nat→Prop} {m:Mp} {dv tv rv:Value} (w:World) (hv:MgV w I m dv tv rv) (hd:m.d.length≤1000000) (ht:∀ r ∈ m.t,r.1.length≤1000000) (htl:m.t.length≤100000) (hr:m.rest.count≤1000000)
 (i t:Nat) (ty:Int) (n:Nat) (s:List UInt8) (fA:Option Addr) (fn fc:Nat) (hi:i < 22) (h64:In64 n) (hsl:s.length≤1000000) (hT:Tabs w) :
 Calls Tryz.prog 42 #[.agg (mvs m dv tv rv),.string (txt (nmAt i)),.agg #[.int .u64 (t:Int),.int .i64 ty,.int .u64 (n:Int),.string (txt s),.slice fA fn fc]] w (WithEnd w m i (setc (nmUse i) ty n s)):=by
 have HT:=Lib.hid hT
 obtain ⟨q,hq⟩:∃ q,q=setc (nmUse i) ty n s:=⟨_,rfl⟩
 rw [← hq]
 have HQ:=Lib.hid hq
 clear hq
 obtain ⟨dA,dc,tA,tc,rA,rc,rfl,rfl,rfl⟩:=hv.slices
 have HM:Hid (BlkAt (w.alloc (.cells (mvs m (.slice dA m.d.length dc) (.slice tA m.t.length tc) (.slice rA m.rest.len rc)) 35)) w.heap.size 35 (mvs m (.slice dA m.d.length dc) (.slice tA m.t.length tc) (.slice rA m.rest.len rc))):=BlkAt.made w 35 (mvs m (.slice dA m.d.length dc) (.slice tA m.t.length tc) (.slice rA m.rest.len rc))
 have HBM:=Lib.hid (ba (a:=w) b0 (.cells (mvs m (.slice dA m.d.length dc) (.slice tA m.t.length tc) (.slice rA m.rest.len rc)) 35))
 have HV:=Lib.hid (hv.below HBM.out)
 obtain ⟨wz,hwz⟩:∃ wz,wz=w.alloc (.cells (mvs m (.slice dA m.d.length dc) (.slice tA m.t.length tc) (.slice rA m.rest.len rc)) 35):=⟨_,rfl⟩
 have hsz:wz.heap.size=w.heap.size+1:=by rw [hwz];simp
 rw [← hwz] at HM HBM HV
 clear hv
 simp only [mvs] at hwz
 have hmf:=BlkAt.made wz 47 #[.int .u64 (t:Int),.int .i64 ty,.int .u64 (n:Int),.string (txt s),.slice fA fn fc]
 have hbf:=ba HBM.out (.cells #[.int .u64 (t:Int),.int .i64 ty,.int .u64 (n:Int),.string (txt s),.slice fA fn fc] 47)
 obtain ⟨wf,hwf⟩:∃ wf,wf=wz.alloc (.cells #[.int .u64 (t:Int),.int .i64 ty,.int .u64 (n:Int),.string (txt s),.slice fA fn fc] 47):=⟨_,rfl⟩
 have hsf:wf.heap.size=w.heap.size+1+1:=by rw [hwf,World.size_alloc,hsz]
 have hmm:=HM.out.more (.cells #[.int .u64 (t:Int),.int .i64 ty,.int .u64 (n:Int),.string (txt s),.slice fA fn fc] 47)
 have hvf:=HV.out.below (ba (a:=wz) b0 (.cells #[.int .u64 (t:Int),.int .i64 ty,.int .u64 (n:Int),.string (txt s),.slice fA fn fc] 47))
 rw [← hwf] at hmf hbf hmm hvf
 rw [hsz] at hmf
 have hmr:=BlkAt.made wf 35 zmvs
 have hbr:=ba hbf (.cells zmvs 35)
 have hmf2:=hmf.more (.cells zmvs 35)
 have hmm2:=hmm.more (.cells zmvs 35)
 have hvr:=hvf.below (ba (a:=wf) b0 (.cells zmvs 35))
 obtain ⟨wZ,hwZ⟩:∃ wZ,wZ=wf.alloc (.cells zmvs 35):=⟨_,rfl⟩
 have hsZ:wZ.heap.size=w.heap.size+1+1+1:=by rw [hwZ,World.size_alloc,hsf]
 rw [← hwZ] at hmr hbr hmf2 hmm2 hvr
 rw [hsf] at hmr
 have HCL:=Lib.hid (clone18 wZ hvr hd ht htl hr)
 have HMR:=Lib.hid hmr
 have HMF:=Lib.hid hmf2
 have HBZ:=Lib.hid hbr
 have HMA:=Lib.hid hmm2
 simp only [zmvs] at hwZ
 rw [hwZ,hwf,hwz] at HMA
 clear hmf hbf hmm hvf hmr hbr hmf2 hmm2 hvr HM HV HBM
 obtain ⟨N,hN⟩:∃ N,N=txt (nmAt i):=⟨_,rfl⟩
 rw [← hN]
 have HN:=Lib.hid hN
 clear hN
 show Calls _ _ #[.agg #[.int .i64 m.kind,.int .u64 (m.id:Int),.int .u64 (m.min_:Int),.int .u64 (m.max_:Int),.int .u64 (m.chosen:Int),.int .u64 (m.flags:Int),.int .u64 (m.cost:Int),.int .u64 (m.prio:Int),.int .u64 (m.dead:Int),.int .u64 (m.retry:Int),.int .u64 (m.epoch:Int),.int .u64 (m.base:Int),.int .u64 (m.digest:Int),.int .u64 (m.lag:Int),.int .u64 (m.code:Int),.int .u64 (m.want:Int),.int .i64 m.rem,.bool m.al,.string (txt m.nm),.string (txt m.rg),.string (txt m.nt),.slice dA m.d.length dc,.slice tA m.t.length tc,.slice rA m.rest.len rc],.string N,.agg #[.int .u64 (t:Int),.int .i64 ty,.int .u64 (n:Int),.string (txt s),.slice fA fn fc]] _ _
 go_enter Tryz.func42,Tryz.ntmps42
 go_wp2_with
  (first | (with_reducible show wpList _ _ _ (Oper.mk _ (Op.load 35 _) _ _ _ _ :: _) _ _;refine wpList_load_blk rfl _ _ rfl _ rfl _ HMA.out Tryz.underlying35 rfl (info_msg _ _ _ _) ?_) | (with_reducible show wpList _ _ _ (Oper.mk _ (Op.store 35 _ _) _ _ _ _ :: _) _ _;apply pin))
 rw [← hwz,← hwf,← hwZ]
 refine HCL.out.mono ?_
 rintro e w1 ⟨dv1,tv1,rv1,rfl,hmg,hb1⟩
 obtain ⟨dA1,dc1,tA1,tc1,rA1,rc1,rfl,rfl,rfl⟩:=hmg.slices
 have hmz:=BlkAt.made w1 35 zmvs
 have hmb:=putAll_at (ds:=mvs m (.slice dA1 m.d.length dc1) (.slice tA1 m.t.length tc1) (.slice rA1 m.rest.len rc1)) hmz rfl
 have hsa:(w1.alloc (.cells zmvs 35)).heap.size=w1.heap.size+1:=by simp
 have hpt:=putAll_tch (w1.alloc (.cells zmvs 35)) w1.heap.size (mvs m (.slice dA1 m.d.length dc1) (.slice tA1 m.t.length tc1) (.slice rA1 m.rest.len rc1))
 have hsp:(World.putAll (w1.alloc (.cells zmvs 35)) w1.heap.size (mvs m (.slice dA1 m.d.length dc1) (.slice tA1 m.t.length tc1) (.slice rA1 m.rest.len rc1))).heap.size=w1.heap.size+1:=by rw [putAll_size,hsa]
 have hb2:Below w1.heap.size w1 (World.putAll (w1.alloc (.cells zmvs 35)) w1.heap.size (mvs m (.slice dA1 m.d.length dc1) (.slice tA1 m.t.length tc1) (.slice rA1 m.rest.len rc1))) :=
  (ba (a:=w1) b0 (.cells zmvs 35)).trans (hpt.toBelowB (by omega) fun g hg e => by omega)
 obtain ⟨w2,hw2⟩:∃ w2,w2=World.putAll (w1.alloc (.cells zmvs 35)) w1.heap.size (mvs m (.slice dA1 m.d.length dc1) (.slice tA1 m.t.length tc1) (.slice rA1 m.rest.len rc1)):=⟨_,rfl⟩
 rw [← hw2] at hmb hb2 hsp
 have HMZ:=Lib.hid hmz
 have hin:SetIn wZ.heap.size w1 w2 w1.heap.size m (.slice dA1 m.d.length dc1) (.slice tA1 m.t.length tc1) (.slice rA1 m.rest.len rc1):=⟨hmg,hb2,Nat.le_refl _,hb1.size,hmb⟩
 have HB1:=Lib.hid (HBZ.out.trans (hb1.mono HBZ.out.size))
 have HB2:Hid (Below w.heap.size w w2):=HB1.out.trans (hb2.mono HB1.out.size)
 have hset:=set_any wZ.heap.size w1 w1.heap.size m _ _ _ i t ty n s fA fn fc w2 hi hin h64 hsl (HT.out.below HB2.out)
 rw [← HN.out,← HQ.out] at hset
 have HST:=Lib.hid hset
 have hmf2:=(HMF.out.below hb1 HMF.out.lt).below hb2 (HMF.out.below hb1 HMF.out.lt).lt
 have HMR2:=Lib.hid ((HMR.out.below hb1 HMR.out.lt).below hb2 (HMR.out.below hb1 HMR.out.lt).lt)
 have hs1:=hb1.size
 have k0:=hmf2.cell 0
 have k1:=hmf2.cell 1
 have k2:=hmf2.cell 2
 have k3:=hmf2.cell 3
 have k4:=hmf2.cell 4
 have hlk:=hmf2.lt
 simp at k0 k1 k2 k3 k4
 simp only [zmvs] at hw2 HMZ
 clear hmg hmb hb2 hin hset hmf2 hb1 HCL HMA hwz hwf hwZ HMR HMF hT h64 hsl hmz hsa hpt hd ht htl hr
 have HS1:=Lib.hid hs1
 clear hs1 hsp
 go_wp2_with
  (with_reducible show wpList _ _ _ (Oper.mk _ (Op.store 35 _ _) _ _ _ _ :: _) _ _;apply pin)
 refine wpList_store_blk rfl _ _ _ rfl _ _ rfl rfl HMZ.out rfl (info_msg _ _ _ _) mvs_one ?_
 rw [← hw2]
 clear hw2
 simp only [Act.put]
 go_wp2_with fail
 refine HST.out.mono ?_
 rintro e w3 ⟨rfl,htch,hok⟩
 have HOK:=Lib.hid hok
 have HTC:=Lib.hid htch
 have HMR3:Hid (BlkAt w3 (w.heap.size+1+1) 35 zmvs):=HMR2.out.tch htch (by have:=HS1.out;omega)
 have HB3:Hid (Below w.heap.size w w3):=HB2.out.trans (htch.toBelowB HB2.out.size fun g hg e => by have:=HB1.out.size;omega)
 clear hok htch HST k0 k1 k2 k3 k4 hlk HMR2
 clear HQ
 obtain ⟨V,E⟩:=q
 simp only at HOK ⊢
 by_cases hE:E=0
 · subst hE
   obtain ⟨dv4,tv4,hms,hmn⟩:=HOK.out rfl
   obtain ⟨dA4,dc4,tA4,tc4,rA4,rc4,rfl,rfl,e5⟩:=hmn.slices
   rw [e5] at hms hmn
   have HM4:Hid (BlkAt w3 w1.heap.size 35 (mvs (m.put i V) (.slice dA4 (m.put i V).d.length dc4) (.slice tA4 (m.put i V).t.length tc4) (.slice rA4 (m.put i V).rest.len rc4))):=hms
   have HG4:=Lib.hid hmn
   clear hms hmn e5 HOK
   go_wp2_with
    (first | (with_reducible show wpList _ _ _ (Oper.mk _ (Op.load 35 _) _ _ _ _ :: _) _ _;refine wpList_load_blk rfl _ _ rfl _ rfl _ HM4.out Tryz.underlying35 rfl (info_msg _ _ _ _) ?_) | (with_reducible show wpList _ _ _ (Oper.mk _ (Op.store 35 _ _) _ _ _ _ :: _) _ _;apply pin))
   refine wpList_store_blk rfl _ _ _ rfl _ _ rfl rfl HMR3.out rfl (info_msg _ _ _ _) mvs_one ?_
   simp only [Act.put]
   go_wp2_with fail
   refine bodyPost_ret (v:=.tuple #[.agg (mvs (m.put i V) (.slice dA4 (m.put i V).d.length dc4) (.slice tA4 (m.put i V).t.length tc4) (.slice rA4 (m.put i V).rest.len rc4)),.int .i64 0]) (by exact results_blk_tmp rfl _ _ (w.heap.size+1+1) 35 _ _ (.int .i64 0) rfl (putAll_at HMR3.out rfl) Tryz.underlying35 rfl (info_msg _ _ _ _) rfl) rfl ?_
   have hpa:=putAll_tch w3 (w.heap.size+1+1) (mvs (m.put i V) (.slice dA4 (m.put i V).d.length dc4) (.slice tA4 (m.put i V).t.length tc4) (.slice rA4 (m.put i V).rest.len rc4))
   refine ⟨_,_,_,rfl,?_,HB3.out.trans (hpa.toBelowB HB3.out.size fun g hg e => by omega)⟩
   simp only [ne_eq,not_true_eq_false,if_false]
   exact (HG4.out.tch hpa fun k hk e => by omega).mono (by omega)
 · have hEb:(E == 0)=false:=by rw [beq_eq_false_iff_ne];exact hE
   clear HOK
   go_wp2_with
    (with_reducible show wpList _ _ _ (Oper.mk _ (Op.store 35 _ _) _ _ _ _ :: _) _ _;apply pin)
   refine wpList_store_blk rfl _ _ _ rfl _ zmvs rfl rfl HMR3.out rfl (info_msg m0 (.slice none 0 0) (.slice none 0 0) (.slice none 0 0)) zmvs_one ?_
   simp only [Act.put]
   go_wp2_with fail
   refine bodyPost_ret (v:=.tuple #[.agg zmvs,.int .i64 E]) (by exact results_blk_tmp rfl _ _ (w.heap.size+1+1) 35 _ _ (.int .i64 E) rfl (putAll_at HMR3.out rfl) Tryz.underlying35 rfl (info_msg m0 (.slice none 0 0) (.slice none 0 0) (.slice none 0 0)) rfl) rfl ?_
   have hpa:=putAll_tch w3 (w.heap.size+1+1) zmvs
   refine ⟨.slice none 0 0,.slice none 0 0,.slice none 0 0,?_,?_,HB3.out.trans (hpa.toBelowB HB3.out.size fun g hg e => by omega)⟩
   · rw [if_pos hE,zmvs_eq]
   · rw [if_pos hE]
     exact mgn_zero _ _
end Go.Proofs.YtgidfnhfgiehjaaGreatDoor
end
