/-
  Texts of the proof, joined: Msg3. Conditions: as each names.
-/
import Derived.Test.YtgidfnhfgiehjaaGreatDoorXTopRejectsaq
import Derived.Test.YtgidfnhfgiehjaaGreatDoorXTopRejectsak
import Derived.Test.YtgidfnhfgiehjaaGreatDoorXTopRejectsal
import Derived.Test.YtgidfnhfgiehjaaGreatDoorXTopRejectsah

section
namespace Go.Proofs.YtgidfnhfgiehjaaGreatDoor
open Go.RowKit Go.PM
set_option maxRecDepth 100000
set_option maxHeartbeats 4000000
attribute [local go_sem ↓] Go.wp_at_zero Go.wp_at_succ
def vfield (use:Nat) (n:Nat) (s:List UInt8):Value:=.agg #[.int .u64 0,.int .i64 (if use≤2 then 0 else 1),.int .u64 (n:Int),.string (txt s),.slice none 0 0]
def VEnd (w:World) (m:Mp) (i:Nat) (e:Ending) (w':World):Prop:=e=.returned (.tuple #[vfield (nmUse i) (m.val i).field.1 (m.val i).field.2,.bool true])∧Below w.heap.size w w'
theorem value18_0 (i:Nat) (n:Nat) (hi:i < 22) (hu:nmUse i=0) {I:Nat→Prop} {m:Mp} {dv tv rv:Value} (w:World) (hv:MgV w I m dv tv rv) (hn:m.val i=.num n) :
 Calls Tryz.prog 44 #[.agg (mvs m dv tv rv),.string (txt (nmAt i))] w (VEnd w m i):=by
 have hfl:(Mv.num n).field=(n,[]):=rfl
 obtain ⟨dA,dc,tA,tc,rA,rc,rfl,rfl,rfl⟩:=hv.slices
 have HV:=Lib.hid hv
 have hp:∀ b,plc b i=.iface (ptrT 0) (.pointer (some ⟨b,cellIx i,none⟩)):=fun b => by rw [plc,hu]
 have HM:Hid (BlkAt (w.alloc (.cells (mvs m (.slice dA m.d.length dc) (.slice tA m.t.length tc) (.slice rA m.rest.len rc)) 35)) w.heap.size 35 (mvs m (.slice dA m.d.length dc) (.slice tA m.t.length tc) (.slice rA m.rest.len rc))):=BlkAt.made w 35 (mvs m (.slice dA m.d.length dc) (.slice tA m.t.length tc) (.slice rA m.rest.len rc))
 have HBM:=Lib.hid (ba (a:=w) b0 (.cells (mvs m (.slice dA m.d.length dc) (.slice tA m.t.length tc) (.slice rA m.rest.len rc)) 35))
 obtain ⟨wz,hwz⟩:∃ wz,wz=w.alloc (.cells (mvs m (.slice dA m.d.length dc) (.slice tA m.t.length tc) (.slice rA m.rest.len rc)) 35):=⟨_,rfl⟩
 have hsz:wz.heap.size=w.heap.size+1:=by rw [hwz];simp
 rw [← hwz] at HM HBM
 clear hv
 have HPL:=Lib.hid (fun x => place_any w.heap.size x i hi)
 simp only [hp] at HPL
 have hcv:mvv m (.slice dA m.d.length dc) (.slice tA m.t.length tc) i=.int .u64 (n:Int):=by rw [mvv,hn]
 have hca:(mvs m (.slice dA m.d.length dc) (.slice tA m.t.length tc) (.slice rA m.rest.len rc))[cellIx i]? = some (.int .u64 (n:Int)):=by rw [mvs_at _ _ _ _ i hi,hcv]
 obtain ⟨N,hN⟩:∃ N,N=txt (nmAt i):=⟨_,rfl⟩
 have HPE:Hid (∀ e w',e=.returned (.tuple #[vfield 0 (n) ([]),.bool true])→Below w.heap.size w w'→VEnd w m i e w'):=fun e w' h3 h4 => ⟨by rw [h3,hu,hn,hfl],h4⟩
 have hzf:=BlkAt.made wz 47 #[.int .u64 0,.int .i64 0,.int .u64 0,.string ByteArray.empty,.slice none 0 0]
 have hbf:=ba (a:=wz) b0 (.cells #[.int .u64 0,.int .i64 0,.int .u64 0,.string ByteArray.empty,.slice none 0 0] 47)
 rw [hsz] at hzf
 have HZF:=Lib.hid hzf
 have HBF:=Lib.hid hbf
 clear hzf hbf hp hcv
 rw [← hN] at HPL ⊢
 have HN:=Lib.hid hN
 clear hN
 generalize hq:VEnd w m i=Q at *
 simp only [mvs] at hwz
 show Calls _ _ #[.agg #[.int .i64 m.kind,.int .u64 (m.id:Int),.int .u64 (m.min_:Int),.int .u64 (m.max_:Int),.int .u64 (m.chosen:Int),.int .u64 (m.flags:Int),.int .u64 (m.cost:Int),.int .u64 (m.prio:Int),.int .u64 (m.dead:Int),.int .u64 (m.retry:Int),.int .u64 (m.epoch:Int),.int .u64 (m.base:Int),.int .u64 (m.digest:Int),.int .u64 (m.lag:Int),.int .u64 (m.code:Int),.int .u64 (m.want:Int),.int .i64 m.rem,.bool m.al,.string (txt m.nm),.string (txt m.rg),.string (txt m.nt),.slice dA m.d.length dc,.slice tA m.t.length tc,.slice rA m.rest.len rc],.string N] _ _
 have y0:=as_yes 0
 simp only [ptrT] at *
 go_enter Tryz.func44,Tryz.ntmps44
 go_wp2_with fail
 rw [← hwz]
 refine (HPL.out _).mono ?_
 rintro e w1 ⟨rfl,hb1⟩
 have hm1:=(HM.out.below HBF.out HM.out.lt).below hb1 (HM.out.below HBF.out HM.out.lt).lt
 have hz1:=HZF.out.below hb1 HZF.out.lt
 have hc1:=(hm1.cell (cellIx i)).trans hca
 have HB1:=Lib.hid (bb (bb HBM.out HBF.out) hb1)
 have HZ1:=Lib.hid hz1
 have hlz:=hz1.lt
 have hwsz:w.heap.size < w1.heap.size:=by omega
 clear hm1 hz1 hb1 hca HM HZF HBF hwz
 go_wp2_with fail
 refine (ofnum_any 0 n _).mono ?_
 rintro e w2 ⟨rfl,hb2⟩
 have hb2:=hb2
 have hz2:=HZ1.out.below hb2 HZ1.out.lt
 have d0:=hz2.cell 0
 have d1:=hz2.cell 1
 have d2:=hz2.cell 2
 have d3:=hz2.cell 3
 have d4:=hz2.cell 4
 have f0:=hz2.free 0
 have f1:=hz2.free 1
 have f2:=hz2.free 2
 have f3:=hz2.free 3
 have f4:=hz2.free 4
 have hlz2:=hz2.lt
 simp at d0 d1 d2 d3 d4
 have HE:Hid (∀ w',Tch (fun j => j=w.heap.size+1) w2 w'→Below w.heap.size w w'):=fun w' ht => (bb HB1.out hb2).trans (ht.toBelowB (by have:=(bb HB1.out hb2).size;exact this) fun g hg e => by omega)
 clear hz2 hb2 HZ1
 go_wp2_with fail
 refine bodyPost_ret (v:=.tuple #[vfield 0 (n) ([]),.bool true]) (by simp [vfield,results,Tryz.results44,go_sem,d0,d1,d2,d3,d4];try rfl) rfl (HPE.out _ _ rfl (HE.out _ (res_tch _ _ _ _ _ _ _)))
theorem value18_1t (i:Nat) (hi:i < 22) (hu:nmUse i=1) {I:Nat→Prop} {m:Mp} {dv tv rv:Value} (w:World) (hv:MgV w I m dv tv rv) (hn:m.val i=.flag true) :
 Calls Tryz.prog 44 #[.agg (mvs m dv tv rv),.string (txt (nmAt i))] w (VEnd w m i):=by
 have hfl:(Mv.flag true).field=(1,[]):=rfl
 obtain ⟨dA,dc,tA,tc,rA,rc,rfl,rfl,rfl⟩:=hv.slices
 have HV:=Lib.hid hv
 have hp:∀ b,plc b i=.iface (ptrT 1) (.pointer (some ⟨b,cellIx i,none⟩)):=fun b => by rw [plc,hu]
 have HM:Hid (BlkAt (w.alloc (.cells (mvs m (.slice dA m.d.length dc) (.slice tA m.t.length tc) (.slice rA m.rest.len rc)) 35)) w.heap.size 35 (mvs m (.slice dA m.d.length dc) (.slice tA m.t.length tc) (.slice rA m.rest.len rc))):=BlkAt.made w 35 (mvs m (.slice dA m.d.length dc) (.slice tA m.t.length tc) (.slice rA m.rest.len rc))
 have HBM:=Lib.hid (ba (a:=w) b0 (.cells (mvs m (.slice dA m.d.length dc) (.slice tA m.t.length tc) (.slice rA m.rest.len rc)) 35))
 obtain ⟨wz,hwz⟩:∃ wz,wz=w.alloc (.cells (mvs m (.slice dA m.d.length dc) (.slice tA m.t.length tc) (.slice rA m.rest.len rc)) 35):=⟨_,rfl⟩
 have hsz:wz.heap.size=w.heap.size+1:=by rw [hwz];simp
 rw [← hwz] at HM HBM
 clear hv
 have HPL:=Lib.hid (fun x => place_any w.heap.size x i hi)
 simp only [hp] at HPL
 have hcv:mvv m (.slice dA m.d.length dc) (.slice tA m.t.length tc) i=.bool true:=by rw [mvv,hn]
 have hca:(mvs m (.slice dA m.d.length dc) (.slice tA m.t.length tc) (.slice rA m.rest.len rc))[cellIx i]? = some (.bool true):=by rw [mvs_at _ _ _ _ i hi,hcv]
 obtain ⟨N,hN⟩:∃ N,N=txt (nmAt i):=⟨_,rfl⟩
 have HPE:Hid (∀ e w',e=.returned (.tuple #[vfield 1 (1) ([]),.bool true])→Below w.heap.size w w'→VEnd w m i e w'):=fun e w' h3 h4 => ⟨by rw [h3,hu,hn,hfl],h4⟩
 have hzf:=BlkAt.made wz 47 #[.int .u64 0,.int .i64 0,.int .u64 0,.string ByteArray.empty,.slice none 0 0]
 have hbf:=ba (a:=wz) b0 (.cells #[.int .u64 0,.int .i64 0,.int .u64 0,.string ByteArray.empty,.slice none 0 0] 47)
 rw [hsz] at hzf
 have HZF:=Lib.hid hzf
 have HBF:=Lib.hid hbf
 clear hzf hbf hp hcv
 rw [← hN] at HPL ⊢
 have HN:=Lib.hid hN
 clear hN
 generalize hq:VEnd w m i=Q at *
 simp only [mvs] at hwz
 show Calls _ _ #[.agg #[.int .i64 m.kind,.int .u64 (m.id:Int),.int .u64 (m.min_:Int),.int .u64 (m.max_:Int),.int .u64 (m.chosen:Int),.int .u64 (m.flags:Int),.int .u64 (m.cost:Int),.int .u64 (m.prio:Int),.int .u64 (m.dead:Int),.int .u64 (m.retry:Int),.int .u64 (m.epoch:Int),.int .u64 (m.base:Int),.int .u64 (m.digest:Int),.int .u64 (m.lag:Int),.int .u64 (m.code:Int),.int .u64 (m.want:Int),.int .i64 m.rem,.bool m.al,.string (txt m.nm),.string (txt m.rg),.string (txt m.nt),.slice dA m.d.length dc,.slice tA m.t.length tc,.slice rA m.rest.len rc],.string N] _ _
 have y1:=as_yes 1
 have n0:=as_no10
 simp only [ptrT] at *
 go_enter Tryz.func44,Tryz.ntmps44
 go_wp2_with fail
 rw [← hwz]
 refine (HPL.out _).mono ?_
 rintro e w1 ⟨rfl,hb1⟩
 have hm1:=(HM.out.below HBF.out HM.out.lt).below hb1 (HM.out.below HBF.out HM.out.lt).lt
 have hz1:=HZF.out.below hb1 HZF.out.lt
 have hc1:=(hm1.cell (cellIx i)).trans hca
 have HB1:=Lib.hid (bb (bb HBM.out HBF.out) hb1)
 have HZ1:=Lib.hid hz1
 have hlz:=hz1.lt
 have hwsz:w.heap.size < w1.heap.size:=by omega
 clear hm1 hz1 hb1 hca HM HZF HBF hwz
 go_wp2_with fail
 refine (ofnum_any 0 1 _).mono ?_
 rintro e w2 ⟨rfl,hb2⟩
 have hb2:=hb2
 have hz2:=HZ1.out.below hb2 HZ1.out.lt
 have d0:=hz2.cell 0
 have d1:=hz2.cell 1
 have d2:=hz2.cell 2
 have d3:=hz2.cell 3
 have d4:=hz2.cell 4
 have f0:=hz2.free 0
 have f1:=hz2.free 1
 have f2:=hz2.free 2
 have f3:=hz2.free 3
 have f4:=hz2.free 4
 have hlz2:=hz2.lt
 simp at d0 d1 d2 d3 d4
 have HE:Hid (∀ w',Tch (fun j => j=w.heap.size+1) w2 w'→Below w.heap.size w w'):=fun w' ht => (bb HB1.out hb2).trans (ht.toBelowB (by have:=(bb HB1.out hb2).size;exact this) fun g hg e => by omega)
 clear hz2 hb2 HZ1
 go_wp2_with fail
 refine bodyPost_ret (v:=.tuple #[vfield 1 (1) ([]),.bool true]) (by simp [vfield,results,Tryz.results44,go_sem,d0,d1,d2,d3,d4];try rfl) rfl (HPE.out _ _ rfl (HE.out _ (res_tch _ _ _ _ _ _ _)))
theorem value18_1f (i:Nat) (hi:i < 22) (hu:nmUse i=1) {I:Nat→Prop} {m:Mp} {dv tv rv:Value} (w:World) (hv:MgV w I m dv tv rv) (hn:m.val i=.flag false) :
 Calls Tryz.prog 44 #[.agg (mvs m dv tv rv),.string (txt (nmAt i))] w (VEnd w m i):=by
 have hfl:(Mv.flag false).field=(0,[]):=rfl
 obtain ⟨dA,dc,tA,tc,rA,rc,rfl,rfl,rfl⟩:=hv.slices
 have HV:=Lib.hid hv
 have hp:∀ b,plc b i=.iface (ptrT 1) (.pointer (some ⟨b,cellIx i,none⟩)):=fun b => by rw [plc,hu]
 have HM:Hid (BlkAt (w.alloc (.cells (mvs m (.slice dA m.d.length dc) (.slice tA m.t.length tc) (.slice rA m.rest.len rc)) 35)) w.heap.size 35 (mvs m (.slice dA m.d.length dc) (.slice tA m.t.length tc) (.slice rA m.rest.len rc))):=BlkAt.made w 35 (mvs m (.slice dA m.d.length dc) (.slice tA m.t.length tc) (.slice rA m.rest.len rc))
 have HBM:=Lib.hid (ba (a:=w) b0 (.cells (mvs m (.slice dA m.d.length dc) (.slice tA m.t.length tc) (.slice rA m.rest.len rc)) 35))
 obtain ⟨wz,hwz⟩:∃ wz,wz=w.alloc (.cells (mvs m (.slice dA m.d.length dc) (.slice tA m.t.length tc) (.slice rA m.rest.len rc)) 35):=⟨_,rfl⟩
 have hsz:wz.heap.size=w.heap.size+1:=by rw [hwz];simp
 rw [← hwz] at HM HBM
 clear hv
 have HPL:=Lib.hid (fun x => place_any w.heap.size x i hi)
 simp only [hp] at HPL
 have hcv:mvv m (.slice dA m.d.length dc) (.slice tA m.t.length tc) i=.bool false:=by rw [mvv,hn]
 have hca:(mvs m (.slice dA m.d.length dc) (.slice tA m.t.length tc) (.slice rA m.rest.len rc))[cellIx i]? = some (.bool false):=by rw [mvs_at _ _ _ _ i hi,hcv]
 obtain ⟨N,hN⟩:∃ N,N=txt (nmAt i):=⟨_,rfl⟩
 have HPE:Hid (∀ e w',e=.returned (.tuple #[vfield 1 (0) ([]),.bool true])→Below w.heap.size w w'→VEnd w m i e w'):=fun e w' h3 h4 => ⟨by rw [h3,hu,hn,hfl],h4⟩
 have hzf:=BlkAt.made wz 47 #[.int .u64 0,.int .i64 0,.int .u64 0,.string ByteArray.empty,.slice none 0 0]
 have hbf:=ba (a:=wz) b0 (.cells #[.int .u64 0,.int .i64 0,.int .u64 0,.string ByteArray.empty,.slice none 0 0] 47)
 rw [hsz] at hzf
 have HZF:=Lib.hid hzf
 have HBF:=Lib.hid hbf
 clear hzf hbf hp hcv
 rw [← hN] at HPL ⊢
 have HN:=Lib.hid hN
 clear hN
 generalize hq:VEnd w m i=Q at *
 simp only [mvs] at hwz
 show Calls _ _ #[.agg #[.int .i64 m.kind,.int .u64 (m.id:Int),.int .u64 (m.min_:Int),.int .u64 (m.max_:Int),.int .u64 (m.chosen:Int),.int .u64 (m.flags:Int),.int .u64 (m.cost:Int),.int .u64 (m.prio:Int),.int .u64 (m.dead:Int),.int .u64 (m.retry:Int),.int .u64 (m.epoch:Int),.int .u64 (m.base:Int),.int .u64 (m.digest:Int),.int .u64 (m.lag:Int),.int .u64 (m.code:Int),.int .u64 (m.want:Int),.int .i64 m.rem,.bool m.al,.string (txt m.nm),.string (txt m.rg),.string (txt m.nt),.slice dA m.d.length dc,.slice tA m.t.length tc,.slice rA m.rest.len rc],.string N] _ _
 have y1:=as_yes 1
 have n0:=as_no10
 simp only [ptrT] at *
 go_enter Tryz.func44,Tryz.ntmps44
 go_wp2_with fail
 rw [← hwz]
 refine (HPL.out _).mono ?_
 rintro e w1 ⟨rfl,hb1⟩
 have hm1:=(HM.out.below HBF.out HM.out.lt).below hb1 (HM.out.below HBF.out HM.out.lt).lt
 have hz1:=HZF.out.below hb1 HZF.out.lt
 have hc1:=(hm1.cell (cellIx i)).trans hca
 have HB1:=Lib.hid (bb (bb HBM.out HBF.out) hb1)
 have HZ1:=Lib.hid hz1
 have hlz:=hz1.lt
 have hwsz:w.heap.size < w1.heap.size:=by omega
 clear hm1 hz1 hb1 hca HM HZF HBF hwz
 go_wp2_with fail
 refine (ofnum_any 0 0 _).mono ?_
 rintro e w2 ⟨rfl,hb2⟩
 have hb2:=hb2
 have hz2:=HZ1.out.below hb2 HZ1.out.lt
 have d0:=hz2.cell 0
 have d1:=hz2.cell 1
 have d2:=hz2.cell 2
 have d3:=hz2.cell 3
 have d4:=hz2.cell 4
 have f0:=hz2.free 0
 have f1:=hz2.free 1
 have f2:=hz2.free 2
 have f3:=hz2.free 3
 have f4:=hz2.free 4
 have hlz2:=hz2.lt
 simp at d0 d1 d2 d3 d4
 have HE:Hid (∀ w',Tch (fun j => j=w.heap.size+1) w2 w'→Below w.heap.size w w'):=fun w' ht => (bb HB1.out hb2).trans (ht.toBelowB (by have:=(bb HB1.out hb2).size;exact this) fun g hg e => by omega)
 clear hz2 hb2 HZ1
 go_wp2_with fail
 refine bodyPost_ret (v:=.tuple #[vfield 1 (0) ([]),.bool true]) (by simp [vfield,results,Tryz.results44,go_sem,d0,d1,d2,d3,d4];try rfl) rfl (HPE.out _ _ rfl (HE.out _ (res_tch _ _ _ _ _ _ _)))
theorem value18_2 (i:Nat) (z:Int) (hi:i < 22) (hu:nmUse i=2) {I:Nat→Prop} {m:Mp} {dv tv rv:Value} (w:World) (hv:MgV w I m dv tv rv) (hn:m.val i=.sgn z) (hz:InI64 z) :
 Calls Tryz.prog 44 #[.agg (mvs m dv tv rv),.string (txt (nmAt i))] w (VEnd w m i):=by
 have hfl:(Mv.sgn z).field=(zmap z,[]):=rfl
 obtain ⟨dA,dc,tA,tc,rA,rc,rfl,rfl,rfl⟩:=hv.slices
 have HV:=Lib.hid hv
 have hp:∀ b,plc b i=.iface (ptrT 2) (.pointer (some ⟨b,cellIx i,none⟩)):=fun b => by rw [plc,hu]
 have HM:Hid (BlkAt (w.alloc (.cells (mvs m (.slice dA m.d.length dc) (.slice tA m.t.length tc) (.slice rA m.rest.len rc)) 35)) w.heap.size 35 (mvs m (.slice dA m.d.length dc) (.slice tA m.t.length tc) (.slice rA m.rest.len rc))):=BlkAt.made w 35 (mvs m (.slice dA m.d.length dc) (.slice tA m.t.length tc) (.slice rA m.rest.len rc))
 have HBM:=Lib.hid (ba (a:=w) b0 (.cells (mvs m (.slice dA m.d.length dc) (.slice tA m.t.length tc) (.slice rA m.rest.len rc)) 35))
 obtain ⟨wz,hwz⟩:∃ wz,wz=w.alloc (.cells (mvs m (.slice dA m.d.length dc) (.slice tA m.t.length tc) (.slice rA m.rest.len rc)) 35):=⟨_,rfl⟩
 have hsz:wz.heap.size=w.heap.size+1:=by rw [hwz];simp
 rw [← hwz] at HM HBM
 clear hv
 have HPL:=Lib.hid (fun x => place_any w.heap.size x i hi)
 simp only [hp] at HPL
 have hcv:mvv m (.slice dA m.d.length dc) (.slice tA m.t.length tc) i=.int .i64 z:=by rw [mvv,hn]
 have hca:(mvs m (.slice dA m.d.length dc) (.slice tA m.t.length tc) (.slice rA m.rest.len rc))[cellIx i]? = some (.int .i64 z):=by rw [mvs_at _ _ _ _ i hi,hcv]
 obtain ⟨N,hN⟩:∃ N,N=txt (nmAt i):=⟨_,rfl⟩
 have HPE:Hid (∀ e w',e=.returned (.tuple #[vfield 2 (zmap z) ([]),.bool true])→Below w.heap.size w w'→VEnd w m i e w'):=fun e w' h3 h4 => ⟨by rw [h3,hu,hn,hfl],h4⟩
 have hzf:=BlkAt.made wz 47 #[.int .u64 0,.int .i64 0,.int .u64 0,.string ByteArray.empty,.slice none 0 0]
 have hbf:=ba (a:=wz) b0 (.cells #[.int .u64 0,.int .i64 0,.int .u64 0,.string ByteArray.empty,.slice none 0 0] 47)
 rw [hsz] at hzf
 have HZF:=Lib.hid hzf
 have HBF:=Lib.hid hbf
 clear hzf hbf hp hcv
 rw [← hN] at HPL ⊢
 have HN:=Lib.hid hN
 clear hN
 generalize hq:VEnd w m i=Q at *
 simp only [mvs] at hwz
 show Calls _ _ #[.agg #[.int .i64 m.kind,.int .u64 (m.id:Int),.int .u64 (m.min_:Int),.int .u64 (m.max_:Int),.int .u64 (m.chosen:Int),.int .u64 (m.flags:Int),.int .u64 (m.cost:Int),.int .u64 (m.prio:Int),.int .u64 (m.dead:Int),.int .u64 (m.retry:Int),.int .u64 (m.epoch:Int),.int .u64 (m.base:Int),.int .u64 (m.digest:Int),.int .u64 (m.lag:Int),.int .u64 (m.code:Int),.int .u64 (m.want:Int),.int .i64 m.rem,.bool m.al,.string (txt m.nm),.string (txt m.rg),.string (txt m.nt),.slice dA m.d.length dc,.slice tA m.t.length tc,.slice rA m.rest.len rc],.string N] _ _
 have y2:=as_yes 2
 have n0:=as_no20
 have n1:=as_no21
 simp only [ptrT] at *
 go_enter Tryz.func44,Tryz.ntmps44
 go_wp2_with fail
 rw [← hwz]
 refine (HPL.out _).mono ?_
 rintro e w1 ⟨rfl,hb1⟩
 have hm1:=(HM.out.below HBF.out HM.out.lt).below hb1 (HM.out.below HBF.out HM.out.lt).lt
 have hz1:=HZF.out.below hb1 HZF.out.lt
 have hc1:=(hm1.cell (cellIx i)).trans hca
 have HB1:=Lib.hid (bb (bb HBM.out HBF.out) hb1)
 have HZ1:=Lib.hid hz1
 have hlz:=hz1.lt
 have hwsz:w.heap.size < w1.heap.size:=by omega
 clear hm1 hz1 hb1 hca HM HZF HBF hwz
 go_wp2_with fail
 refine (map_any z _ hz).mono ?_
 rintro e wq ⟨rfl,hbq⟩
 have HBQ:=Lib.hid hbq
 clear hbq
 go_wp2_with fail
 refine (ofnum_any 0 (zmap z) _).mono ?_
 rintro e w2 ⟨rfl,hb2⟩
 have hb2:=bb HBQ.out hb2
 have hz2:=HZ1.out.below hb2 HZ1.out.lt
 have d0:=hz2.cell 0
 have d1:=hz2.cell 1
 have d2:=hz2.cell 2
 have d3:=hz2.cell 3
 have d4:=hz2.cell 4
 have f0:=hz2.free 0
 have f1:=hz2.free 1
 have f2:=hz2.free 2
 have f3:=hz2.free 3
 have f4:=hz2.free 4
 have hlz2:=hz2.lt
 simp at d0 d1 d2 d3 d4
 have HE:Hid (∀ w',Tch (fun j => j=w.heap.size+1) w2 w'→Below w.heap.size w w'):=fun w' ht => (bb HB1.out hb2).trans (ht.toBelowB (by have:=(bb HB1.out hb2).size;exact this) fun g hg e => by omega)
 clear hz2 hb2 HZ1
 go_wp2_with fail
 refine bodyPost_ret (v:=.tuple #[vfield 2 (zmap z) ([]),.bool true]) (by simp [vfield,results,Tryz.results44,go_sem,d0,d1,d2,d3,d4];try rfl) rfl (HPE.out _ _ rfl (HE.out _ (res_tch _ _ _ _ _ _ _)))
theorem value18_3 (i:Nat) (s:List UInt8) (hi:i < 22) (hu:nmUse i=3) {I:Nat→Prop} {m:Mp} {dv tv rv:Value} (w:World) (hv:MgV w I m dv tv rv) (hn:m.val i=.word s) :
 Calls Tryz.prog 44 #[.agg (mvs m dv tv rv),.string (txt (nmAt i))] w (VEnd w m i):=by
 have hfl:(Mv.word s).field=(0,s):=rfl
 obtain ⟨dA,dc,tA,tc,rA,rc,rfl,rfl,rfl⟩:=hv.slices
 have HV:=Lib.hid hv
 have hp:∀ b,plc b i=.iface (ptrT 3) (.pointer (some ⟨b,cellIx i,none⟩)):=fun b => by rw [plc,hu]
 have HM:Hid (BlkAt (w.alloc (.cells (mvs m (.slice dA m.d.length dc) (.slice tA m.t.length tc) (.slice rA m.rest.len rc)) 35)) w.heap.size 35 (mvs m (.slice dA m.d.length dc) (.slice tA m.t.length tc) (.slice rA m.rest.len rc))):=BlkAt.made w 35 (mvs m (.slice dA m.d.length dc) (.slice tA m.t.length tc) (.slice rA m.rest.len rc))
 have HBM:=Lib.hid (ba (a:=w) b0 (.cells (mvs m (.slice dA m.d.length dc) (.slice tA m.t.length tc) (.slice rA m.rest.len rc)) 35))
 obtain ⟨wz,hwz⟩:∃ wz,wz=w.alloc (.cells (mvs m (.slice dA m.d.length dc) (.slice tA m.t.length tc) (.slice rA m.rest.len rc)) 35):=⟨_,rfl⟩
 have hsz:wz.heap.size=w.heap.size+1:=by rw [hwz];simp
 rw [← hwz] at HM HBM
 clear hv
 have HPL:=Lib.hid (fun x => place_any w.heap.size x i hi)
 simp only [hp] at HPL
 have hcv:mvv m (.slice dA m.d.length dc) (.slice tA m.t.length tc) i=.string (txt s):=by rw [mvv,hn]
 have hca:(mvs m (.slice dA m.d.length dc) (.slice tA m.t.length tc) (.slice rA m.rest.len rc))[cellIx i]? = some (.string (txt s)):=by rw [mvs_at _ _ _ _ i hi,hcv]
 obtain ⟨N,hN⟩:∃ N,N=txt (nmAt i):=⟨_,rfl⟩
 have HPE:Hid (∀ e w',e=.returned (.tuple #[vfield 3 (0) (s),.bool true])→Below w.heap.size w w'→VEnd w m i e w'):=fun e w' h3 h4 => ⟨by rw [h3,hu,hn,hfl],h4⟩
 have hzf:=BlkAt.made wz 47 #[.int .u64 0,.int .i64 0,.int .u64 0,.string ByteArray.empty,.slice none 0 0]
 have hbf:=ba (a:=wz) b0 (.cells #[.int .u64 0,.int .i64 0,.int .u64 0,.string ByteArray.empty,.slice none 0 0] 47)
 rw [hsz] at hzf
 have HZF:=Lib.hid hzf
 have HBF:=Lib.hid hbf
 clear hzf hbf hp hcv
 rw [← hN] at HPL ⊢
 have HN:=Lib.hid hN
 clear hN
 generalize hq:VEnd w m i=Q at *
 simp only [mvs] at hwz
 show Calls _ _ #[.agg #[.int .i64 m.kind,.int .u64 (m.id:Int),.int .u64 (m.min_:Int),.int .u64 (m.max_:Int),.int .u64 (m.chosen:Int),.int .u64 (m.flags:Int),.int .u64 (m.cost:Int),.int .u64 (m.prio:Int),.int .u64 (m.dead:Int),.int .u64 (m.retry:Int),.int .u64 (m.epoch:Int),.int .u64 (m.base:Int),.int .u64 (m.digest:Int),.int .u64 (m.lag:Int),.int .u64 (m.code:Int),.int .u64 (m.want:Int),.int .i64 m.rem,.bool m.al,.string (txt m.nm),.string (txt m.rg),.string (txt m.nt),.slice dA m.d.length dc,.slice tA m.t.length tc,.slice rA m.rest.len rc],.string N] _ _
 have y3:=as_yes 3
 have n0:=as_no30
 have n1:=as_no31
 have n2:=as_no32
 simp only [ptrT] at *
 go_enter Tryz.func44,Tryz.ntmps44
 go_wp2_with fail
 rw [← hwz]
 refine (HPL.out _).mono ?_
 rintro e w1 ⟨rfl,hb1⟩
 have hm1:=(HM.out.below HBF.out HM.out.lt).below hb1 (HM.out.below HBF.out HM.out.lt).lt
 have hz1:=HZF.out.below hb1 HZF.out.lt
 have hc1:=(hm1.cell (cellIx i)).trans hca
 have HB1:=Lib.hid (bb (bb HBM.out HBF.out) hb1)
 have HZ1:=Lib.hid hz1
 have hlz:=hz1.lt
 have hwsz:w.heap.size < w1.heap.size:=by omega
 clear hm1 hz1 hb1 hca HM HZF HBF hwz
 go_wp2_with fail
 refine (oftext_any 0 (txt s) _).mono ?_
 rintro e w2 ⟨rfl,hb2⟩
 have hb2:=hb2
 have hz2:=HZ1.out.below hb2 HZ1.out.lt
 have d0:=hz2.cell 0
 have d1:=hz2.cell 1
 have d2:=hz2.cell 2
 have d3:=hz2.cell 3
 have d4:=hz2.cell 4
 have f0:=hz2.free 0
 have f1:=hz2.free 1
 have f2:=hz2.free 2
 have f3:=hz2.free 3
 have f4:=hz2.free 4
 have hlz2:=hz2.lt
 simp at d0 d1 d2 d3 d4
 have HE:Hid (∀ w',Tch (fun j => j=w.heap.size+1) w2 w'→Below w.heap.size w w'):=fun w' ht => (bb HB1.out hb2).trans (ht.toBelowB (by have:=(bb HB1.out hb2).size;exact this) fun g hg e => by omega)
 clear hz2 hb2 HZ1
 go_wp2_with fail
 refine bodyPost_ret (v:=.tuple #[vfield 3 (0) (s),.bool true]) (by simp [vfield,results,Tryz.results44,go_sem,d0,d1,d2,d3,d4];try rfl) rfl (HPE.out _ _ rfl (HE.out _ (res_tch _ _ _ _ _ _ _)))
theorem value18_4z (i:Nat) (hi:i < 22) (hu:nmUse i=4) {I:Nat→Prop} {m:Mp} {dv tv rv:Value} (w:World) (hv:MgV w I m dv tv rv) (hn:m.val i=.of m.d) (hd:m.d=[]) :
 Calls Tryz.prog 44 #[.agg (mvs m dv tv rv),.string (txt (nmAt i))] w (VEnd w m i):=by
 have hfl:(Mv.of m.d).field=(0,[]):=by rw [hd];rfl
 have HD:=Lib.hid hd
 clear hd
 obtain ⟨dA,dc,tA,tc,rA,rc,rfl,rfl,rfl⟩:=hv.slices
 have HV:=Lib.hid hv
 have hp:∀ b,plc b i=.iface (ptrT 4) (.pointer (some ⟨b,cellIx i,none⟩)):=fun b => by rw [plc,hu]
 have HM:Hid (BlkAt (w.alloc (.cells (mvs m (.slice dA m.d.length dc) (.slice tA m.t.length tc) (.slice rA m.rest.len rc)) 35)) w.heap.size 35 (mvs m (.slice dA m.d.length dc) (.slice tA m.t.length tc) (.slice rA m.rest.len rc))):=BlkAt.made w 35 (mvs m (.slice dA m.d.length dc) (.slice tA m.t.length tc) (.slice rA m.rest.len rc))
 have HBM:=Lib.hid (ba (a:=w) b0 (.cells (mvs m (.slice dA m.d.length dc) (.slice tA m.t.length tc) (.slice rA m.rest.len rc)) 35))
 obtain ⟨wz,hwz⟩:∃ wz,wz=w.alloc (.cells (mvs m (.slice dA m.d.length dc) (.slice tA m.t.length tc) (.slice rA m.rest.len rc)) 35):=⟨_,rfl⟩
 have hsz:wz.heap.size=w.heap.size+1:=by rw [hwz];simp
 rw [← hwz] at HM HBM
 clear hv
 have HPL:=Lib.hid (fun x => place_any w.heap.size x i hi)
 simp only [hp] at HPL
 have hcv:mvv m (.slice dA m.d.length dc) (.slice tA m.t.length tc) i=.slice dA m.d.length dc:=by rw [mvv,hn]
 have hca:(mvs m (.slice dA m.d.length dc) (.slice tA m.t.length tc) (.slice rA m.rest.len rc))[cellIx i]? = some (.slice dA m.d.length dc):=by rw [mvs_at _ _ _ _ i hi,hcv]
 obtain ⟨N,hN⟩:∃ N,N=txt (nmAt i):=⟨_,rfl⟩
 have HPE:Hid (∀ e w',e=.returned (.tuple #[vfield 4 (0) ([]),.bool true])→Below w.heap.size w w'→VEnd w m i e w'):=fun e w' h3 h4 => ⟨by rw [h3,hu,hn,hfl],h4⟩
 have hzf:=BlkAt.made wz 47 #[.int .u64 0,.int .i64 0,.int .u64 0,.string ByteArray.empty,.slice none 0 0]
 have hbf:=ba (a:=wz) b0 (.cells #[.int .u64 0,.int .i64 0,.int .u64 0,.string ByteArray.empty,.slice none 0 0] 47)
 rw [hsz] at hzf
 have HZF:=Lib.hid hzf
 have HBF:=Lib.hid hbf
 clear hzf hbf hp hcv
 rw [← hN] at HPL ⊢
 have HN:=Lib.hid hN
 clear hN
 generalize hq:VEnd w m i=Q at *
 simp only [mvs] at hwz
 show Calls _ _ #[.agg #[.int .i64 m.kind,.int .u64 (m.id:Int),.int .u64 (m.min_:Int),.int .u64 (m.max_:Int),.int .u64 (m.chosen:Int),.int .u64 (m.flags:Int),.int .u64 (m.cost:Int),.int .u64 (m.prio:Int),.int .u64 (m.dead:Int),.int .u64 (m.retry:Int),.int .u64 (m.epoch:Int),.int .u64 (m.base:Int),.int .u64 (m.digest:Int),.int .u64 (m.lag:Int),.int .u64 (m.code:Int),.int .u64 (m.want:Int),.int .i64 m.rem,.bool m.al,.string (txt m.nm),.string (txt m.rg),.string (txt m.nt),.slice dA m.d.length dc,.slice tA m.t.length tc,.slice rA m.rest.len rc],.string N] _ _
 have y4:=as_yes 4
 have n0:=as_no40
 have n1:=as_no41
 have n2:=as_no42
 have n3:=as_no43
 simp only [ptrT] at *
 go_enter Tryz.func44,Tryz.ntmps44
 go_wp2_with fail
 rw [← hwz]
 refine (HPL.out _).mono ?_
 rintro e w1 ⟨rfl,hb1⟩
 have hm1:=(HM.out.below HBF.out HM.out.lt).below hb1 (HM.out.below HBF.out HM.out.lt).lt
 have hz1:=HZF.out.below hb1 HZF.out.lt
 have hc1:=(hm1.cell (cellIx i)).trans hca
 have HB1:=Lib.hid (bb (bb HBM.out HBF.out) hb1)
 have HZ1:=Lib.hid hz1
 have hlz:=hz1.lt
 have hwsz:w.heap.size < w1.heap.size:=by omega
 clear hm1 hz1 hb1 hca HM HZF HBF hwz
 rw [HD.out] at hc1
 simp only [List.length_nil] at hc1
 go_wp2_with fail
 refine (oftext_any 0 ⟨#[]⟩ _).mono ?_
 rintro e w2 ⟨rfl,hb2⟩
 have hb2:=hb2
 have hz2:=HZ1.out.below hb2 HZ1.out.lt
 have d0:=hz2.cell 0
 have d1:=hz2.cell 1
 have d2:=hz2.cell 2
 have d3:=hz2.cell 3
 have d4:=hz2.cell 4
 have f0:=hz2.free 0
 have f1:=hz2.free 1
 have f2:=hz2.free 2
 have f3:=hz2.free 3
 have f4:=hz2.free 4
 have hlz2:=hz2.lt
 simp at d0 d1 d2 d3 d4
 have HE:Hid (∀ w',Tch (fun j => j=w.heap.size+1) w2 w'→Below w.heap.size w w'):=fun w' ht => (bb HB1.out hb2).trans (ht.toBelowB (by have:=(bb HB1.out hb2).size;exact this) fun g hg e => by omega)
 clear hz2 hb2 HZ1
 go_wp2_with fail
 refine bodyPost_ret (v:=.tuple #[vfield 4 (0) ([]),.bool true]) (by simp [vfield,results,Tryz.results44,go_sem,d0,d1,d2,d3,d4];try rfl) rfl (HPE.out _ _ rfl (HE.out _ (res_tch _ _ _ _ _ _ _)))
theorem value18_4 (i:Nat) (hi:i < 22) (hu:nmUse i=4) {I:Nat→Prop} {m:Mp} {dv tv rv:Value} (w:World) (hv:MgV w I m dv tv rv) (hn:m.val i=.of m.d) (hd:m.d≠[]) (hz:EMil m.d) :
 Calls Tryz.prog 44 #[.agg (mvs m dv tv rv),.string (txt (nmAt i))] w (VEnd w m i):=by
 have hfl:(Mv.of m.d).field=(0,dkey m.d):=by simp only [Mv.field];rw [if_neg hd]
 obtain ⟨dA,dc,tA,tc,rA,rc,rfl,rfl,rfl⟩:=hv.slices
 have HV:=Lib.hid hv
 have hp:∀ b,plc b i=.iface (ptrT 4) (.pointer (some ⟨b,cellIx i,none⟩)):=fun b => by rw [plc,hu]
 have HM:Hid (BlkAt (w.alloc (.cells (mvs m (.slice dA m.d.length dc) (.slice tA m.t.length tc) (.slice rA m.rest.len rc)) 35)) w.heap.size 35 (mvs m (.slice dA m.d.length dc) (.slice tA m.t.length tc) (.slice rA m.rest.len rc))):=BlkAt.made w 35 (mvs m (.slice dA m.d.length dc) (.slice tA m.t.length tc) (.slice rA m.rest.len rc))
 have HBM:=Lib.hid (ba (a:=w) b0 (.cells (mvs m (.slice dA m.d.length dc) (.slice tA m.t.length tc) (.slice rA m.rest.len rc)) 35))
 obtain ⟨wz,hwz⟩:∃ wz,wz=w.alloc (.cells (mvs m (.slice dA m.d.length dc) (.slice tA m.t.length tc) (.slice rA m.rest.len rc)) 35):=⟨_,rfl⟩
 have hsz:wz.heap.size=w.heap.size+1:=by rw [hwz];simp
 rw [← hwz] at HM HBM
 clear hv
 have HPL:=Lib.hid (fun x => place_any w.heap.size x i hi)
 simp only [hp] at HPL
 have hcv:mvv m (.slice dA m.d.length dc) (.slice tA m.t.length tc) i=.slice dA m.d.length dc:=by rw [mvv,hn]
 have hca:(mvs m (.slice dA m.d.length dc) (.slice tA m.t.length tc) (.slice rA m.rest.len rc))[cellIx i]? = some (.slice dA m.d.length dc):=by rw [mvs_at _ _ _ _ i hi,hcv]
 obtain ⟨N,hN⟩:∃ N,N=txt (nmAt i):=⟨_,rfl⟩
 have HPE:Hid (∀ e w',e=.returned (.tuple #[vfield 4 (0) (dkey m.d),.bool true])→Below w.heap.size w w'→VEnd w m i e w'):=fun e w' h3 h4 => ⟨by rw [h3,hu,hn,hfl],h4⟩
 have hzf:=BlkAt.made wz 47 #[.int .u64 0,.int .i64 0,.int .u64 0,.string ByteArray.empty,.slice none 0 0]
 have hbf:=ba (a:=wz) b0 (.cells #[.int .u64 0,.int .i64 0,.int .u64 0,.string ByteArray.empty,.slice none 0 0] 47)
 rw [hsz] at hzf
 have HZF:=Lib.hid hzf
 have HBF:=Lib.hid hbf
 clear hzf hbf hp hcv
 rw [← hN] at HPL ⊢
 have HN:=Lib.hid hN
 clear hN
 generalize hq:VEnd w m i=Q at *
 simp only [mvs] at hwz
 show Calls _ _ #[.agg #[.int .i64 m.kind,.int .u64 (m.id:Int),.int .u64 (m.min_:Int),.int .u64 (m.max_:Int),.int .u64 (m.chosen:Int),.int .u64 (m.flags:Int),.int .u64 (m.cost:Int),.int .u64 (m.prio:Int),.int .u64 (m.dead:Int),.int .u64 (m.retry:Int),.int .u64 (m.epoch:Int),.int .u64 (m.base:Int),.int .u64 (m.digest:Int),.int .u64 (m.lag:Int),.int .u64 (m.code:Int),.int .u64 (m.want:Int),.int .i64 m.rem,.bool m.al,.string (txt m.nm),.string (txt m.rg),.string (txt m.nt),.slice dA m.d.length dc,.slice tA m.t.length tc,.slice rA m.rest.len rc],.string N] _ _
 have y4:=as_yes 4
 have n0:=as_no40
 have n1:=as_no41
 have n2:=as_no42
 have n3:=as_no43
 simp only [ptrT] at *
 go_enter Tryz.func44,Tryz.ntmps44
 go_wp2_with fail
 rw [← hwz]
 refine (HPL.out _).mono ?_
 rintro e w1 ⟨rfl,hb1⟩
 have hm1:=(HM.out.below HBF.out HM.out.lt).below hb1 (HM.out.below HBF.out HM.out.lt).lt
 have hz1:=HZF.out.below hb1 HZF.out.lt
 have hc1:=(hm1.cell (cellIx i)).trans hca
 have HB1:=Lib.hid (bb (bb HBM.out HBF.out) hb1)
 have HZ1:=Lib.hid hz1
 have hlz:=hz1.lt
 have hwsz:w.heap.size < w1.heap.size:=by omega
 clear hm1 hz1 hb1 hca HM HZF HBF hwz
 obtain ⟨⟨A',c',h1,h2,h3⟩,_,_⟩:=HV.out
 injection h1 with h1 _ h4
 subst h1 h4
 have HK:=Lib.hid (fun x hx => key12_any dA dc m.d x (h3.rd.below hx) hz)
 have hne:¬ m.d.length=0:=fun e => hd (List.eq_nil_of_length_eq_zero e)
 have hnb:(((m.d.length:Nat):Int) == 0)=false:=by simpa using hne
 clear h3 h2 hz
 generalize dkey m.d=D at *
 generalize m.d.length=L at *
 go_wp2_with fail
 refine (HK.out _ HB1.out).mono ?_
 rintro e wq ⟨rfl,hbq⟩
 have HBQ:=Lib.hid hbq
 clear hbq HK
 go_wp2_with fail
 refine (oftext_any 0 (txt D) _).mono ?_
 rintro e w2 ⟨rfl,hb2⟩
 have hb2:=bb HBQ.out hb2
 have hz2:=HZ1.out.below hb2 HZ1.out.lt
 have d0:=hz2.cell 0
 have d1:=hz2.cell 1
 have d2:=hz2.cell 2
 have d3:=hz2.cell 3
 have d4:=hz2.cell 4
 have f0:=hz2.free 0
 have f1:=hz2.free 1
 have f2:=hz2.free 2
 have f3:=hz2.free 3
 have f4:=hz2.free 4
 have hlz2:=hz2.lt
 simp at d0 d1 d2 d3 d4
 have HE:Hid (∀ w',Tch (fun j => j=w.heap.size+1) w2 w'→Below w.heap.size w w'):=fun w' ht => (bb HB1.out hb2).trans (ht.toBelowB (by have:=(bb HB1.out hb2).size;exact this) fun g hg e => by omega)
 clear hz2 hb2 HZ1
 go_wp2_with fail
 refine bodyPost_ret (v:=.tuple #[vfield 4 (0) (D),.bool true]) (by simp [vfield,results,Tryz.results44,go_sem,d0,d1,d2,d3,d4];try rfl) rfl (HPE.out _ _ rfl (HE.out _ (res_tch _ _ _ _ _ _ _)))
theorem value18_5z (i:Nat) (hi:i < 22) (hu:nmUse i=5) {I:Nat→Prop} {m:Mp} {dv tv rv:Value} (w:World) (hv:MgV w I m dv tv rv) (hn:m.val i=.rows m.t) (hd:m.t=[]) :
 Calls Tryz.prog 44 #[.agg (mvs m dv tv rv),.string (txt (nmAt i))] w (VEnd w m i):=by
 have hfl:(Mv.rows m.t).field=(0,[]):=by rw [hd];rfl
 have HD:=Lib.hid hd
 clear hd
 obtain ⟨dA,dc,tA,tc,rA,rc,rfl,rfl,rfl⟩:=hv.slices
 have HV:=Lib.hid hv
 have hp:∀ b,plc b i=.iface (ptrT 5) (.pointer (some ⟨b,cellIx i,none⟩)):=fun b => by rw [plc,hu]
 have HM:Hid (BlkAt (w.alloc (.cells (mvs m (.slice dA m.d.length dc) (.slice tA m.t.length tc) (.slice rA m.rest.len rc)) 35)) w.heap.size 35 (mvs m (.slice dA m.d.length dc) (.slice tA m.t.length tc) (.slice rA m.rest.len rc))):=BlkAt.made w 35 (mvs m (.slice dA m.d.length dc) (.slice tA m.t.length tc) (.slice rA m.rest.len rc))
 have HBM:=Lib.hid (ba (a:=w) b0 (.cells (mvs m (.slice dA m.d.length dc) (.slice tA m.t.length tc) (.slice rA m.rest.len rc)) 35))
 obtain ⟨wz,hwz⟩:∃ wz,wz=w.alloc (.cells (mvs m (.slice dA m.d.length dc) (.slice tA m.t.length tc) (.slice rA m.rest.len rc)) 35):=⟨_,rfl⟩
 have hsz:wz.heap.size=w.heap.size+1:=by rw [hwz];simp
 rw [← hwz] at HM HBM
 clear hv
 have HPL:=Lib.hid (fun x => place_any w.heap.size x i hi)
 simp only [hp] at HPL
 have hcv:mvv m (.slice dA m.d.length dc) (.slice tA m.t.length tc) i=.slice tA m.t.length tc:=by rw [mvv,hn]
 have hca:(mvs m (.slice dA m.d.length dc) (.slice tA m.t.length tc) (.slice rA m.rest.len rc))[cellIx i]? = some (.slice tA m.t.length tc):=by rw [mvs_at _ _ _ _ i hi,hcv]
 obtain ⟨N,hN⟩:∃ N,N=txt (nmAt i):=⟨_,rfl⟩
 have HPE:Hid (∀ e w',e=.returned (.tuple #[vfield 5 (0) ([]),.bool true])→Below w.heap.size w w'→VEnd w m i e w'):=fun e w' h3 h4 => ⟨by rw [h3,hu,hn,hfl],h4⟩
 have hzf:=BlkAt.made wz 47 #[.int .u64 0,.int .i64 0,.int .u64 0,.string ByteArray.empty,.slice none 0 0]
 have hbf:=ba (a:=wz) b0 (.cells #[.int .u64 0,.int .i64 0,.int .u64 0,.string ByteArray.empty,.slice none 0 0] 47)
 rw [hsz] at hzf
 have HZF:=Lib.hid hzf
 have HBF:=Lib.hid hbf
 clear hzf hbf hp hcv
 rw [← hN] at HPL ⊢
 have HN:=Lib.hid hN
 clear hN
 generalize hq:VEnd w m i=Q at *
 simp only [mvs] at hwz
 show Calls _ _ #[.agg #[.int .i64 m.kind,.int .u64 (m.id:Int),.int .u64 (m.min_:Int),.int .u64 (m.max_:Int),.int .u64 (m.chosen:Int),.int .u64 (m.flags:Int),.int .u64 (m.cost:Int),.int .u64 (m.prio:Int),.int .u64 (m.dead:Int),.int .u64 (m.retry:Int),.int .u64 (m.epoch:Int),.int .u64 (m.base:Int),.int .u64 (m.digest:Int),.int .u64 (m.lag:Int),.int .u64 (m.code:Int),.int .u64 (m.want:Int),.int .i64 m.rem,.bool m.al,.string (txt m.nm),.string (txt m.rg),.string (txt m.nt),.slice dA m.d.length dc,.slice tA m.t.length tc,.slice rA m.rest.len rc],.string N] _ _
 have y5:=as_yes 5
 have n0:=as_no50
 have n1:=as_no51
 have n2:=as_no52
 have n3:=as_no53
 have n4:=as_no54
 simp only [ptrT] at *
 go_enter Tryz.func44,Tryz.ntmps44
 go_wp2_with fail
 rw [← hwz]
 refine (HPL.out _).mono ?_
 rintro e w1 ⟨rfl,hb1⟩
 have hm1:=(HM.out.below HBF.out HM.out.lt).below hb1 (HM.out.below HBF.out HM.out.lt).lt
 have hz1:=HZF.out.below hb1 HZF.out.lt
 have hc1:=(hm1.cell (cellIx i)).trans hca
 have HB1:=Lib.hid (bb (bb HBM.out HBF.out) hb1)
 have HZ1:=Lib.hid hz1
 have hlz:=hz1.lt
 have hwsz:w.heap.size < w1.heap.size:=by omega
 clear hm1 hz1 hb1 hca HM HZF HBF hwz
 rw [HD.out] at hc1
 simp only [List.length_nil] at hc1
 go_wp2_with fail
 refine (oftext_any 0 ⟨#[]⟩ _).mono ?_
 rintro e w2 ⟨rfl,hb2⟩
 have hb2:=hb2
 have hz2:=HZ1.out.below hb2 HZ1.out.lt
 have d0:=hz2.cell 0
 have d1:=hz2.cell 1
 have d2:=hz2.cell 2
 have d3:=hz2.cell 3
 have d4:=hz2.cell 4
 have f0:=hz2.free 0
 have f1:=hz2.free 1
 have f2:=hz2.free 2
 have f3:=hz2.free 3
 have f4:=hz2.free 4
 have hlz2:=hz2.lt
 simp at d0 d1 d2 d3 d4
 have HE:Hid (∀ w',Tch (fun j => j=w.heap.size+1) w2 w'→Below w.heap.size w w'):=fun w' ht => (bb HB1.out hb2).trans (ht.toBelowB (by have:=(bb HB1.out hb2).size;exact this) fun g hg e => by omega)
 clear hz2 hb2 HZ1
 go_wp2_with fail
 refine bodyPost_ret (v:=.tuple #[vfield 5 (0) ([]),.bool true]) (by simp [vfield,results,Tryz.results44,go_sem,d0,d1,d2,d3,d4];try rfl) rfl (HPE.out _ _ rfl (HE.out _ (res_tch _ _ _ _ _ _ _)))
theorem value18_5 (i:Nat) (hi:i < 22) (hu:nmUse i=5) {I:Nat→Prop} {m:Mp} {dv tv rv:Value} (w:World) (hv:MgV w I m dv tv rv) (hn:m.val i=.rows m.t) (hd:m.t≠[]) (hz:Msz m) (hT:Tabs w) :
 Calls Tryz.prog 44 #[.agg (mvs m dv tv rv),.string (txt (nmAt i))] w (VEnd w m i):=by
 have hfl:(Mv.rows m.t).field=(0,(pkput echk m.t).1):=by simp only [Mv.field];rw [if_neg hd]
 obtain ⟨dA,dc,tA,tc,rA,rc,rfl,rfl,rfl⟩:=hv.slices
 have HV:=Lib.hid hv
 have hp:∀ b,plc b i=.iface (ptrT 5) (.pointer (some ⟨b,cellIx i,none⟩)):=fun b => by rw [plc,hu]
 have HM:Hid (BlkAt (w.alloc (.cells (mvs m (.slice dA m.d.length dc) (.slice tA m.t.length tc) (.slice rA m.rest.len rc)) 35)) w.heap.size 35 (mvs m (.slice dA m.d.length dc) (.slice tA m.t.length tc) (.slice rA m.rest.len rc))):=BlkAt.made w 35 (mvs m (.slice dA m.d.length dc) (.slice tA m.t.length tc) (.slice rA m.rest.len rc))
 have HBM:=Lib.hid (ba (a:=w) b0 (.cells (mvs m (.slice dA m.d.length dc) (.slice tA m.t.length tc) (.slice rA m.rest.len rc)) 35))
 obtain ⟨wz,hwz⟩:∃ wz,wz=w.alloc (.cells (mvs m (.slice dA m.d.length dc) (.slice tA m.t.length tc) (.slice rA m.rest.len rc)) 35):=⟨_,rfl⟩
 have hsz:wz.heap.size=w.heap.size+1:=by rw [hwz];simp
 rw [← hwz] at HM HBM
 clear hv
 have HPL:=Lib.hid (fun x => place_any w.heap.size x i hi)
 simp only [hp] at HPL
 have hcv:mvv m (.slice dA m.d.length dc) (.slice tA m.t.length tc) i=.slice tA m.t.length tc:=by rw [mvv,hn]
 have hca:(mvs m (.slice dA m.d.length dc) (.slice tA m.t.length tc) (.slice rA m.rest.len rc))[cellIx i]? = some (.slice tA m.t.length tc):=by rw [mvs_at _ _ _ _ i hi,hcv]
 obtain ⟨N,hN⟩:∃ N,N=txt (nmAt i):=⟨_,rfl⟩
 have HPE:Hid (∀ e w',e=.returned (.tuple #[vfield 5 (0) ((pkput echk m.t).1),.bool true])→Below w.heap.size w w'→VEnd w m i e w'):=fun e w' h3 h4 => ⟨by rw [h3,hu,hn,hfl],h4⟩
 have hzf:=BlkAt.made wz 47 #[.int .u64 0,.int .i64 0,.int .u64 0,.string ByteArray.empty,.slice none 0 0]
 have hbf:=ba (a:=wz) b0 (.cells #[.int .u64 0,.int .i64 0,.int .u64 0,.string ByteArray.empty,.slice none 0 0] 47)
 rw [hsz] at hzf
 have HZF:=Lib.hid hzf
 have HBF:=Lib.hid hbf
 clear hzf hbf hp hcv
 rw [← hN] at HPL ⊢
 have HN:=Lib.hid hN
 clear hN
 generalize hq:VEnd w m i=Q at *
 simp only [mvs] at hwz
 show Calls _ _ #[.agg #[.int .i64 m.kind,.int .u64 (m.id:Int),.int .u64 (m.min_:Int),.int .u64 (m.max_:Int),.int .u64 (m.chosen:Int),.int .u64 (m.flags:Int),.int .u64 (m.cost:Int),.int .u64 (m.prio:Int),.int .u64 (m.dead:Int),.int .u64 (m.retry:Int),.int .u64 (m.epoch:Int),.int .u64 (m.base:Int),.int .u64 (m.digest:Int),.int .u64 (m.lag:Int),.int .u64 (m.code:Int),.int .u64 (m.want:Int),.int .i64 m.rem,.bool m.al,.string (txt m.nm),.string (txt m.rg),.string (txt m.nt),.slice dA m.d.length dc,.slice tA m.t.length tc,.slice rA m.rest.len rc],.string N] _ _
 have y5:=as_yes 5
 have n0:=as_no50
 have n1:=as_no51
 have n2:=as_no52
 have n3:=as_no53
 have n4:=as_no54
 simp only [ptrT] at *
 go_enter Tryz.func44,Tryz.ntmps44
 go_wp2_with fail
 rw [← hwz]
 refine (HPL.out _).mono ?_
 rintro e w1 ⟨rfl,hb1⟩
 have hm1:=(HM.out.below HBF.out HM.out.lt).below hb1 (HM.out.below HBF.out HM.out.lt).lt
 have hz1:=HZF.out.below hb1 HZF.out.lt
 have hc1:=(hm1.cell (cellIx i)).trans hca
 have HB1:=Lib.hid (bb (bb HBM.out HBF.out) hb1)
 have HZ1:=Lib.hid hz1
 have hlz:=hz1.lt
 have hwsz:w.heap.size < w1.heap.size:=by omega
 clear hm1 hz1 hb1 hca HM HZF HBF hwz
 obtain ⟨_,⟨l,A',c',h1,h2,h3,h4,h5⟩,_⟩:=HV.out
 injection h1 with h1 hl h6
 subst h1 h6
 have HK:Hid (∀ x,Below w.heap.size w x→Calls Tryz.prog 90 #[.slice tA m.t.length tc] x fun e w' => e=.returned (.tuple #[.string (txt (pkput echk m.t).1),.int .i64 (pkput echk m.t).2])∧Below x.heap.size x w'):=fun x hx => by
  have:=pput_any tA tc l I x (h3.below hx) (fun r hr => (h4 r hr).below hx) (fun r hr => hz.t r.rw (by rw [h2];exact List.mem_map_of_mem hr)) (fun r hr => by
   have:=hz.good.1 20 (by decide) r.rw (by rw [h2];exact List.mem_map_of_mem hr)
   exact this) (by have:=hz.tl;rw [hl] at this;exact this) (hT.below hx)
  rw [hl,h2]
  exact this
 have hne:¬ m.t.length=0:=fun e => hd (List.eq_nil_of_length_eq_zero e)
 have hnb:(((m.t.length:Nat):Int) == 0)=false:=by simpa using hne
 clear h3 h2 hz hT h4 h5 hl
 generalize (pkput echk m.t).1=D at *
 generalize (pkput echk m.t).2=E at *
 generalize m.t.length=L at *
 go_wp2_with fail
 refine (HK.out _ HB1.out).mono ?_
 rintro e wq ⟨rfl,hbq⟩
 have HBQ:=Lib.hid hbq
 clear hbq HK
 go_wp2_with fail
 refine (oftext_any 0 (txt D) _).mono ?_
 rintro e w2 ⟨rfl,hb2⟩
 have hb2:=bb HBQ.out hb2
 have hz2:=HZ1.out.below hb2 HZ1.out.lt
 have d0:=hz2.cell 0
 have d1:=hz2.cell 1
 have d2:=hz2.cell 2
 have d3:=hz2.cell 3
 have d4:=hz2.cell 4
 have f0:=hz2.free 0
 have f1:=hz2.free 1
 have f2:=hz2.free 2
 have f3:=hz2.free 3
 have f4:=hz2.free 4
 have hlz2:=hz2.lt
 simp at d0 d1 d2 d3 d4
 have HE:Hid (∀ w',Tch (fun j => j=w.heap.size+1) w2 w'→Below w.heap.size w w'):=fun w' ht => (bb HB1.out hb2).trans (ht.toBelowB (by have:=(bb HB1.out hb2).size;exact this) fun g hg e => by omega)
 clear hz2 hb2 HZ1
 go_wp2_with fail
 refine bodyPost_ret (v:=.tuple #[vfield 5 (0) (D),.bool true]) (by simp [vfield,results,Tryz.results44,go_sem,d0,d1,d2,d3,d4];try rfl) rfl (HPE.out _ _ rfl (HE.out _ (res_tch _ _ _ _ _ _ _)))
theorem value_any {I:Nat→Prop} {m:Mp} {dv tv rv:Value} (w:World) (hv:MgV w I m dv tv rv) (hz:Msz m) (hE:m.d=[]∨EMil m.d) (hT:Tabs w):∀ i,i < 22 →
 Calls Tryz.prog 44 #[.agg (mvs m dv tv rv),.string (txt (nmAt i))] w (VEnd w m i):=by
 refine cases22 ?_ ?_ ?_ ?_ ?_ ?_ ?_ ?_ ?_ ?_ ?_ ?_ ?_ ?_ ?_ ?_ ?_ ?_ ?_ ?_ ?_ ?_
 · rcases hb:m.al with _ | _
   · exact value18_1f 0 (by decide) rfl w hv (by show Mv.flag m.al=_;rw [hb])
   · exact value18_1t 0 (by decide) rfl w hv (by show Mv.flag m.al=_;rw [hb])
 · exact value18_0 1 _ (by decide) rfl w hv rfl
 · exact value18_0 2 _ (by decide) rfl w hv rfl
 · exact value18_0 3 _ (by decide) rfl w hv rfl
 · exact value18_0 4 _ (by decide) rfl w hv rfl
 · exact value18_0 5 _ (by decide) rfl w hv rfl
 · by_cases hd:m.d=[]
   · exact value18_4z 6 (by decide) rfl w hv rfl hd
   · exact value18_4 6 (by decide) rfl w hv rfl hd (hE.resolve_left hd)
 · exact value18_0 7 _ (by decide) rfl w hv rfl
 · exact value18_0 8 _ (by decide) rfl w hv rfl
 · exact value18_0 9 _ (by decide) rfl w hv rfl
 · exact value18_0 10 _ (by decide) rfl w hv rfl
 · exact value18_0 11 _ (by decide) rfl w hv rfl
 · exact value18_0 12 _ (by decide) rfl w hv rfl
 · exact value18_0 13 _ (by decide) rfl w hv rfl
 · exact value18_3 14 _ (by decide) rfl w hv rfl
 · exact value18_3 15 _ (by decide) rfl w hv rfl
 · exact value18_0 16 _ (by decide) rfl w hv rfl
 · exact value18_3 17 _ (by decide) rfl w hv rfl
 · exact value18_2 18 _ (by decide) rfl w hv rfl (hz.good.1 18 (by decide))
 · exact value18_0 19 _ (by decide) rfl w hv rfl
 · by_cases hd:m.t=[]
   · exact value18_5z 20 (by decide) rfl w hv rfl hd
   · exact value18_5 20 (by decide) rfl w hv rfl hd hz hT
 · exact value18_0 21 _ (by decide) rfl w hv rfl
end Go.Proofs.YtgidfnhfgiehjaaGreatDoor
end
