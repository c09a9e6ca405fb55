/-
  Parts of the proof. Conditions: as each names.
-/
import Derived.Test.YtgidfnhfgiehjaaGreatDoorYbe
import Derived.Test.YtgidfnhfgiehjaaGreatDoorYbg
namespace Go.Proofs.YtgidfnhfgiehjaaGreatDoor
open Go.PM Go.RowKit Go.Proofs.Tryz
set_option maxRecDepth 100000
set_option maxHeartbeats 4000000
attribute [local go_sem ↓] Go.wp_at_zero Go.wp_at_succ
def lZ(use n:Nat)(s:List UInt8):Value:=.agg #[.int .u64 0,.int .i64 (if use≤2 then 0 else 1),.int .u64 (n:Int),.string (txt s),.slice none 0 0]
def l9(w:World)(m:Mp)(i:Nat)(e:Ending)(w':World):Prop:=e=.returned (.tuple #[lZ (gy i) (m.val i).field.1 (m.val i).field.2,.bool true])∧Below w.heap.size w w'
theorem uh(i n:Nat)(hi:i<22)(hu:gy i=0){I:Nat→Prop}{m:Mp}{dv tv rv:Value}(w:World)(hv:gU w I m dv tv rv)(hn:m.val i=.num n) :
 Calls prog 44 #[.agg (dR m dv tv rv),.string (txt (dW i))] w (l9 w m i):=by
 have hfl:(Mv.num n).field=(n,[]):=rfl
 obtain⟨dA,dc,tA,tc,rA,rc,rfl,rfl,rfl⟩:=hv.slices
 have HV:=ah hv
 have hp:∀b,gW b i=.iface (eY 0) (.pointer (some ⟨b,fP i,none⟩)):=fun b=>by rw[gW,hu]
 obtain⟨wz,hwz,hsz,HM,fC⟩:=lM w 35 (dR m (.slice dA m.d.length dc) (.slice tA m.t.length tc) (.slice rA m.rest.len rc))
 clear hv
 have gG:=ah (fun x=>qF w.heap.size x i hi)
 simp only[hp]at gG
 have hcv:mV m (.slice dA m.d.length dc) (.slice tA m.t.length tc) i=.int .u64 (n:Int):=by rw[mV,hn]
 have hca:(dR m (.slice dA m.d.length dc) (.slice tA m.t.length tc) (.slice rA m.rest.len rc))[fP i]?=some (.int .u64 (n:Int)):=by rw[wS _ _ _ _ i hi,hcv]
 obtain⟨N,hN⟩:∃N,N=txt (dW i):=⟨_,rfl⟩
 have qU:Hid (∀e w',e=.returned (.tuple #[lZ 0 (n) ([]),.bool true])→Below w.heap.size w w'→l9 w m i e w'):=fun e w' h3 h4=>⟨by rw[h3,hu,hn,hfl],h4⟩
 have jX:=dU.made wz 47 #[.int .u64 0,.int .i64 0,.int .u64 0,.string ByteArray.empty,.slice none 0 0]
 have hbf:=ba (a:=wz) b0 (.cells #[.int .u64 0,.int .i64 0,.int .u64 0,.string ByteArray.empty,.slice none 0 0] 47)
 rw[hsz]at jX
 have jU:=ah jX
 have fU:=ah hbf
 clear jX hbf hp hcv
 rw[← hN]at gG⊢
 have HN:=ah hN
 clear hN
 generalize hq:l9 w m i=Q at *
 simp only[dR]at hwz
 unfold dR
 have y0:=jO 0
 simp only[eY]at *
 go_enter func44,ntmps44
 go_wp2_with fail
 rw[← hwz]
 refine(gG.out _).mono ?_
 rintro e w1 ⟨rfl,hb1⟩
 have hm1:=(HM.out.below fU.out HM.out.lt).below hb1 (HM.out.below fU.out HM.out.lt).lt
 have hz1:=jU.out.below hb1 jU.out.lt
 have hc1:=(hm1.cell (fP i)).trans hca
 have HB1:=ah (bb (bb fC.out fU.out) hb1)
 have HZ1:=ah hz1
 have hlz:=hz1.lt
 have BU:w.heap.size<w1.heap.size:=by omega
 clear hm1 hz1 hb1 hca HM jU fU hwz
 go_wp2_with fail
 refine(wV 0 n _).mono ?_
 rintro e w2 ⟨rfl,hb2⟩
 have hb2:=hb2
 have hz2:=HZ1.out.below hb2 HZ1.out.lt
 have d0:=hz2.cell 0
 have d1:=hz2.cell 1
 have d2:=hz2.cell 2
 have d3:=hz2.cell 3
 have d4:=hz2.cell 4
 have f0:=hz2.free 0
 have f1:=hz2.free 1
 have f2:=hz2.free 2
 have f3:=hz2.free 3
 have f4:=hz2.free 4
 have BN:=hz2.lt
 simp at d0 d1 d2 d3 d4
 have HE:Hid (∀w',dX (fun j=>j=w.heap.size+1) w2 w'→Below w.heap.size w w'):=fun w' ht=>(bb HB1.out hb2).trans (ht.iI (by have:=(bb HB1.out hb2).size;exact this) fun g hg e=>by omega)
 clear hz2 hb2 HZ1
 go_wp2_with fail
 refine bodyPost_ret (v:=.tuple #[lZ 0 (n) ([]),.bool true]) (by simp[lZ,results,results44,go_sem,d0,d1,d2,d3,d4];try rfl) rfl (qU.out _ _ rfl (HE.out _ (qm _ _ _ _ _ _ _)))
theorem anG(i:Nat)(hi:i<22)(hu:gy i=1){I:Nat→Prop}{m:Mp}{dv tv rv:Value}(w:World)(hv:gU w I m dv tv rv)(hn:m.val i=.flag true) :
 Calls prog 44 #[.agg (dR m dv tv rv),.string (txt (dW i))] w (l9 w m i):=by
 have hfl:(Mv.flag true).field=(1,[]):=rfl
 obtain⟨dA,dc,tA,tc,rA,rc,rfl,rfl,rfl⟩:=hv.slices
 have HV:=ah hv
 have hp:∀b,gW b i=.iface (eY 1) (.pointer (some ⟨b,fP i,none⟩)):=fun b=>by rw[gW,hu]
 obtain⟨wz,hwz,hsz,HM,fC⟩:=lM w 35 (dR m (.slice dA m.d.length dc) (.slice tA m.t.length tc) (.slice rA m.rest.len rc))
 clear hv
 have gG:=ah (fun x=>qF w.heap.size x i hi)
 simp only[hp]at gG
 have hcv:mV m (.slice dA m.d.length dc) (.slice tA m.t.length tc) i=.bool true:=by rw[mV,hn]
 have hca:(dR m (.slice dA m.d.length dc) (.slice tA m.t.length tc) (.slice rA m.rest.len rc))[fP i]?=some (.bool true):=by rw[wS _ _ _ _ i hi,hcv]
 obtain⟨N,hN⟩:∃N,N=txt (dW i):=⟨_,rfl⟩
 have qU:Hid (∀e w',e=.returned (.tuple #[lZ 1 (1) ([]),.bool true])→Below w.heap.size w w'→l9 w m i e w'):=fun e w' h3 h4=>⟨by rw[h3,hu,hn,hfl],h4⟩
 have jX:=dU.made wz 47 #[.int .u64 0,.int .i64 0,.int .u64 0,.string ByteArray.empty,.slice none 0 0]
 have hbf:=ba (a:=wz) b0 (.cells #[.int .u64 0,.int .i64 0,.int .u64 0,.string ByteArray.empty,.slice none 0 0] 47)
 rw[hsz]at jX
 have jU:=ah jX
 have fU:=ah hbf
 clear jX hbf hp hcv
 rw[← hN]at gG⊢
 have HN:=ah hN
 clear hN
 generalize hq:l9 w m i=Q at *
 simp only[dR]at hwz
 unfold dR
 have y1:=jO 1
 have n0:=F8
 simp only[eY]at *
 go_enter func44,ntmps44
 go_wp2_with fail
 rw[← hwz]
 refine(gG.out _).mono ?_
 rintro e w1 ⟨rfl,hb1⟩
 have hm1:=(HM.out.below fU.out HM.out.lt).below hb1 (HM.out.below fU.out HM.out.lt).lt
 have hz1:=jU.out.below hb1 jU.out.lt
 have hc1:=(hm1.cell (fP i)).trans hca
 have HB1:=ah (bb (bb fC.out fU.out) hb1)
 have HZ1:=ah hz1
 have hlz:=hz1.lt
 have BU:w.heap.size<w1.heap.size:=by omega
 clear hm1 hz1 hb1 hca HM jU fU hwz
 go_wp2_with fail
 refine(wV 0 1 _).mono ?_
 rintro e w2 ⟨rfl,hb2⟩
 have hb2:=hb2
 have hz2:=HZ1.out.below hb2 HZ1.out.lt
 have d0:=hz2.cell 0
 have d1:=hz2.cell 1
 have d2:=hz2.cell 2
 have d3:=hz2.cell 3
 have d4:=hz2.cell 4
 have f0:=hz2.free 0
 have f1:=hz2.free 1
 have f2:=hz2.free 2
 have f3:=hz2.free 3
 have f4:=hz2.free 4
 have BN:=hz2.lt
 simp at d0 d1 d2 d3 d4
 have HE:Hid (∀w',dX (fun j=>j=w.heap.size+1) w2 w'→Below w.heap.size w w'):=fun w' ht=>(bb HB1.out hb2).trans (ht.iI (by have:=(bb HB1.out hb2).size;exact this) fun g hg e=>by omega)
 clear hz2 hb2 HZ1
 go_wp2_with fail
 refine bodyPost_ret (v:=.tuple #[lZ 1 (1) ([]),.bool true]) (by simp[lZ,results,results44,go_sem,d0,d1,d2,d3,d4];try rfl) rfl (qU.out _ _ rfl (HE.out _ (qm _ _ _ _ _ _ _)))
theorem anF(i:Nat)(hi:i<22)(hu:gy i=1){I:Nat→Prop}{m:Mp}{dv tv rv:Value}(w:World)(hv:gU w I m dv tv rv)(hn:m.val i=.flag false) :
 Calls prog 44 #[.agg (dR m dv tv rv),.string (txt (dW i))] w (l9 w m i):=by
 have hfl:(Mv.flag false).field=(0,[]):=rfl
 obtain⟨dA,dc,tA,tc,rA,rc,rfl,rfl,rfl⟩:=hv.slices
 have HV:=ah hv
 have hp:∀b,gW b i=.iface (eY 1) (.pointer (some ⟨b,fP i,none⟩)):=fun b=>by rw[gW,hu]
 obtain⟨wz,hwz,hsz,HM,fC⟩:=lM w 35 (dR m (.slice dA m.d.length dc) (.slice tA m.t.length tc) (.slice rA m.rest.len rc))
 clear hv
 have gG:=ah (fun x=>qF w.heap.size x i hi)
 simp only[hp]at gG
 have hcv:mV m (.slice dA m.d.length dc) (.slice tA m.t.length tc) i=.bool false:=by rw[mV,hn]
 have hca:(dR m (.slice dA m.d.length dc) (.slice tA m.t.length tc) (.slice rA m.rest.len rc))[fP i]?=some (.bool false):=by rw[wS _ _ _ _ i hi,hcv]
 obtain⟨N,hN⟩:∃N,N=txt (dW i):=⟨_,rfl⟩
 have qU:Hid (∀e w',e=.returned (.tuple #[lZ 1 (0) ([]),.bool true])→Below w.heap.size w w'→l9 w m i e w'):=fun e w' h3 h4=>⟨by rw[h3,hu,hn,hfl],h4⟩
 have jX:=dU.made wz 47 #[.int .u64 0,.int .i64 0,.int .u64 0,.string ByteArray.empty,.slice none 0 0]
 have hbf:=ba (a:=wz) b0 (.cells #[.int .u64 0,.int .i64 0,.int .u64 0,.string ByteArray.empty,.slice none 0 0] 47)
 rw[hsz]at jX
 have jU:=ah jX
 have fU:=ah hbf
 clear jX hbf hp hcv
 rw[← hN]at gG⊢
 have HN:=ah hN
 clear hN
 generalize hq:l9 w m i=Q at *
 simp only[dR]at hwz
 unfold dR
 have y1:=jO 1
 have n0:=F8
 simp only[eY]at *
 go_enter func44,ntmps44
 go_wp2_with fail
 rw[← hwz]
 refine(gG.out _).mono ?_
 rintro e w1 ⟨rfl,hb1⟩
 have hm1:=(HM.out.below fU.out HM.out.lt).below hb1 (HM.out.below fU.out HM.out.lt).lt
 have hz1:=jU.out.below hb1 jU.out.lt
 have hc1:=(hm1.cell (fP i)).trans hca
 have HB1:=ah (bb (bb fC.out fU.out) hb1)
 have HZ1:=ah hz1
 have hlz:=hz1.lt
 have BU:w.heap.size<w1.heap.size:=by omega
 clear hm1 hz1 hb1 hca HM jU fU hwz
 go_wp2_with fail
 refine(wV 0 0 _).mono ?_
 rintro e w2 ⟨rfl,hb2⟩
 have hb2:=hb2
 have hz2:=HZ1.out.below hb2 HZ1.out.lt
 have d0:=hz2.cell 0
 have d1:=hz2.cell 1
 have d2:=hz2.cell 2
 have d3:=hz2.cell 3
 have d4:=hz2.cell 4
 have f0:=hz2.free 0
 have f1:=hz2.free 1
 have f2:=hz2.free 2
 have f3:=hz2.free 3
 have f4:=hz2.free 4
 have BN:=hz2.lt
 simp at d0 d1 d2 d3 d4
 have HE:Hid (∀w',dX (fun j=>j=w.heap.size+1) w2 w'→Below w.heap.size w w'):=fun w' ht=>(bb HB1.out hb2).trans (ht.iI (by have:=(bb HB1.out hb2).size;exact this) fun g hg e=>by omega)
 clear hz2 hb2 HZ1
 go_wp2_with fail
 refine bodyPost_ret (v:=.tuple #[lZ 1 (0) ([]),.bool true]) (by simp[lZ,results,results44,go_sem,d0,d1,d2,d3,d4];try rfl) rfl (qU.out _ _ rfl (HE.out _ (qm _ _ _ _ _ _ _)))
theorem anH(i:Nat)(z:Int)(hi:i<22)(hu:gy i=2){I:Nat→Prop}{m:Mp}{dv tv rv:Value}(w:World)(hv:gU w I m dv tv rv)(hn:m.val i=.qG z)(hz:iK z) :
 Calls prog 44 #[.agg (dR m dv tv rv),.string (txt (dW i))] w (l9 w m i):=by
 have hfl:(Mv.qG z).field=(nP z,[]):=rfl
 obtain⟨dA,dc,tA,tc,rA,rc,rfl,rfl,rfl⟩:=hv.slices
 have HV:=ah hv
 have hp:∀b,gW b i=.iface (eY 2) (.pointer (some ⟨b,fP i,none⟩)):=fun b=>by rw[gW,hu]
 obtain⟨wz,hwz,hsz,HM,fC⟩:=lM w 35 (dR m (.slice dA m.d.length dc) (.slice tA m.t.length tc) (.slice rA m.rest.len rc))
 clear hv
 have gG:=ah (fun x=>qF w.heap.size x i hi)
 simp only[hp]at gG
 have hcv:mV m (.slice dA m.d.length dc) (.slice tA m.t.length tc) i=.int .i64 z:=by rw[mV,hn]
 have hca:(dR m (.slice dA m.d.length dc) (.slice tA m.t.length tc) (.slice rA m.rest.len rc))[fP i]?=some (.int .i64 z):=by rw[wS _ _ _ _ i hi,hcv]
 obtain⟨N,hN⟩:∃N,N=txt (dW i):=⟨_,rfl⟩
 have qU:Hid (∀e w',e=.returned (.tuple #[lZ 2 (nP z) ([]),.bool true])→Below w.heap.size w w'→l9 w m i e w'):=fun e w' h3 h4=>⟨by rw[h3,hu,hn,hfl],h4⟩
 have jX:=dU.made wz 47 #[.int .u64 0,.int .i64 0,.int .u64 0,.string ByteArray.empty,.slice none 0 0]
 have hbf:=ba (a:=wz) b0 (.cells #[.int .u64 0,.int .i64 0,.int .u64 0,.string ByteArray.empty,.slice none 0 0] 47)
 rw[hsz]at jX
 have jU:=ah jX
 have fU:=ah hbf
 clear jX hbf hp hcv
 rw[← hN]at gG⊢
 have HN:=ah hN
 clear hN
 generalize hq:l9 w m i=Q at *
 simp only[dR]at hwz
 unfold dR
 have y2:=jO 2
 have n0:=Ja
 have n1:=Jb
 simp only[eY]at *
 go_enter func44,ntmps44
 go_wp2_with fail
 rw[← hwz]
 refine(gG.out _).mono ?_
 rintro e w1 ⟨rfl,hb1⟩
 have hm1:=(HM.out.below fU.out HM.out.lt).below hb1 (HM.out.below fU.out HM.out.lt).lt
 have hz1:=jU.out.below hb1 jU.out.lt
 have hc1:=(hm1.cell (fP i)).trans hca
 have HB1:=ah (bb (bb fC.out fU.out) hb1)
 have HZ1:=ah hz1
 have hlz:=hz1.lt
 have BU:w.heap.size<w1.heap.size:=by omega
 clear hm1 hz1 hb1 hca HM jU fU hwz
 go_wp2_with fail
 refine(ab6 z _ hz).mono ?_
 rintro e wq ⟨rfl,hbq⟩
 have xg:=ah hbq
 clear hbq
 go_wp2_with fail
 refine(wV 0 (nP z) _).mono ?_
 rintro e w2 ⟨rfl,hb2⟩
 have hb2:=bb xg.out hb2
 have hz2:=HZ1.out.below hb2 HZ1.out.lt
 have d0:=hz2.cell 0
 have d1:=hz2.cell 1
 have d2:=hz2.cell 2
 have d3:=hz2.cell 3
 have d4:=hz2.cell 4
 have f0:=hz2.free 0
 have f1:=hz2.free 1
 have f2:=hz2.free 2
 have f3:=hz2.free 3
 have f4:=hz2.free 4
 have BN:=hz2.lt
 simp at d0 d1 d2 d3 d4
 have HE:Hid (∀w',dX (fun j=>j=w.heap.size+1) w2 w'→Below w.heap.size w w'):=fun w' ht=>(bb HB1.out hb2).trans (ht.iI (by have:=(bb HB1.out hb2).size;exact this) fun g hg e=>by omega)
 clear hz2 hb2 HZ1
 go_wp2_with fail
 refine bodyPost_ret (v:=.tuple #[lZ 2 (nP z) ([]),.bool true]) (by simp[lZ,results,results44,go_sem,d0,d1,d2,d3,d4];try rfl) rfl (qU.out _ _ rfl (HE.out _ (qm _ _ _ _ _ _ _)))
theorem Wi(i:Nat)(s:List UInt8)(hi:i<22)(hu:gy i=3){I:Nat→Prop}{m:Mp}{dv tv rv:Value}(w:World)(hv:gU w I m dv tv rv)(hn:m.val i=.word s) :
 Calls prog 44 #[.agg (dR m dv tv rv),.string (txt (dW i))] w (l9 w m i):=by
 have hfl:(Mv.word s).field=(0,s):=rfl
 obtain⟨dA,dc,tA,tc,rA,rc,rfl,rfl,rfl⟩:=hv.slices
 have HV:=ah hv
 have hp:∀b,gW b i=.iface (eY 3) (.pointer (some ⟨b,fP i,none⟩)):=fun b=>by rw[gW,hu]
 obtain⟨wz,hwz,hsz,HM,fC⟩:=lM w 35 (dR m (.slice dA m.d.length dc) (.slice tA m.t.length tc) (.slice rA m.rest.len rc))
 clear hv
 have gG:=ah (fun x=>qF w.heap.size x i hi)
 simp only[hp]at gG
 have hcv:mV m (.slice dA m.d.length dc) (.slice tA m.t.length tc) i=.string (txt s):=by rw[mV,hn]
 have hca:(dR m (.slice dA m.d.length dc) (.slice tA m.t.length tc) (.slice rA m.rest.len rc))[fP i]?=some (.string (txt s)):=by rw[wS _ _ _ _ i hi,hcv]
 obtain⟨N,hN⟩:∃N,N=txt (dW i):=⟨_,rfl⟩
 have qU:Hid (∀e w',e=.returned (.tuple #[lZ 3 (0) (s),.bool true])→Below w.heap.size w w'→l9 w m i e w'):=fun e w' h3 h4=>⟨by rw[h3,hu,hn,hfl],h4⟩
 have jX:=dU.made wz 47 #[.int .u64 0,.int .i64 0,.int .u64 0,.string ByteArray.empty,.slice none 0 0]
 have hbf:=ba (a:=wz) b0 (.cells #[.int .u64 0,.int .i64 0,.int .u64 0,.string ByteArray.empty,.slice none 0 0] 47)
 rw[hsz]at jX
 have jU:=ah jX
 have fU:=ah hbf
 clear jX hbf hp hcv
 rw[← hN]at gG⊢
 have HN:=ah hN
 clear hN
 generalize hq:l9 w m i=Q at *
 simp only[dR]at hwz
 unfold dR
 have y3:=jO 3
 have n0:=Jc
 have n1:=Jd
 have n2:=Je
 simp only[eY]at *
 go_enter func44,ntmps44
 go_wp2_with fail
 rw[← hwz]
 refine(gG.out _).mono ?_
 rintro e w1 ⟨rfl,hb1⟩
 have hm1:=(HM.out.below fU.out HM.out.lt).below hb1 (HM.out.below fU.out HM.out.lt).lt
 have hz1:=jU.out.below hb1 jU.out.lt
 have hc1:=(hm1.cell (fP i)).trans hca
 have HB1:=ah (bb (bb fC.out fU.out) hb1)
 have HZ1:=ah hz1
 have hlz:=hz1.lt
 have BU:w.heap.size<w1.heap.size:=by omega
 clear hm1 hz1 hb1 hca HM jU fU hwz
 go_wp2_with fail
 refine(Hg 0 (txt s) _).mono ?_
 rintro e w2 ⟨rfl,hb2⟩
 have hb2:=hb2
 have hz2:=HZ1.out.below hb2 HZ1.out.lt
 have d0:=hz2.cell 0
 have d1:=hz2.cell 1
 have d2:=hz2.cell 2
 have d3:=hz2.cell 3
 have d4:=hz2.cell 4
 have f0:=hz2.free 0
 have f1:=hz2.free 1
 have f2:=hz2.free 2
 have f3:=hz2.free 3
 have f4:=hz2.free 4
 have BN:=hz2.lt
 simp at d0 d1 d2 d3 d4
 have HE:Hid (∀w',dX (fun j=>j=w.heap.size+1) w2 w'→Below w.heap.size w w'):=fun w' ht=>(bb HB1.out hb2).trans (ht.iI (by have:=(bb HB1.out hb2).size;exact this) fun g hg e=>by omega)
 clear hz2 hb2 HZ1
 go_wp2_with fail
 refine bodyPost_ret (v:=.tuple #[lZ 3 (0) (s),.bool true]) (by simp[lZ,results,results44,go_sem,d0,d1,d2,d3,d4];try rfl) rfl (qU.out _ _ rfl (HE.out _ (qm _ _ _ _ _ _ _)))
theorem anJ(i:Nat)(hi:i<22)(hu:gy i=4){I:Nat→Prop}{m:Mp}{dv tv rv:Value}(w:World)(hv:gU w I m dv tv rv)(hn:m.val i=.of m.d)(hd:m.d=[]) :
 Calls prog 44 #[.agg (dR m dv tv rv),.string (txt (dW i))] w (l9 w m i):=by
 have hfl:(Mv.of m.d).field=(0,[]):=by rw[hd];rfl
 have HD:=ah hd
 clear hd
 obtain⟨dA,dc,tA,tc,rA,rc,rfl,rfl,rfl⟩:=hv.slices
 have HV:=ah hv
 have hp:∀b,gW b i=.iface (eY 4) (.pointer (some ⟨b,fP i,none⟩)):=fun b=>by rw[gW,hu]
 obtain⟨wz,hwz,hsz,HM,fC⟩:=lM w 35 (dR m (.slice dA m.d.length dc) (.slice tA m.t.length tc) (.slice rA m.rest.len rc))
 clear hv
 have gG:=ah (fun x=>qF w.heap.size x i hi)
 simp only[hp]at gG
 have hcv:mV m (.slice dA m.d.length dc) (.slice tA m.t.length tc) i=.slice dA m.d.length dc:=by rw[mV,hn]
 have hca:(dR m (.slice dA m.d.length dc) (.slice tA m.t.length tc) (.slice rA m.rest.len rc))[fP i]?=some (.slice dA m.d.length dc):=by rw[wS _ _ _ _ i hi,hcv]
 obtain⟨N,hN⟩:∃N,N=txt (dW i):=⟨_,rfl⟩
 have qU:Hid (∀e w',e=.returned (.tuple #[lZ 4 (0) ([]),.bool true])→Below w.heap.size w w'→l9 w m i e w'):=fun e w' h3 h4=>⟨by rw[h3,hu,hn,hfl],h4⟩
 have jX:=dU.made wz 47 #[.int .u64 0,.int .i64 0,.int .u64 0,.string ByteArray.empty,.slice none 0 0]
 have hbf:=ba (a:=wz) b0 (.cells #[.int .u64 0,.int .i64 0,.int .u64 0,.string ByteArray.empty,.slice none 0 0] 47)
 rw[hsz]at jX
 have jU:=ah jX
 have fU:=ah hbf
 clear jX hbf hp hcv
 rw[← hN]at gG⊢
 have HN:=ah hN
 clear hN
 generalize hq:l9 w m i=Q at *
 simp only[dR]at hwz
 unfold dR
 have y4:=jO 4
 have n0:=F9
 have n1:=Gf
 have n2:=Gg
 have n3:=DV
 simp only[eY]at *
 go_enter func44,ntmps44
 go_wp2_with fail
 rw[← hwz]
 refine(gG.out _).mono ?_
 rintro e w1 ⟨rfl,hb1⟩
 have hm1:=(HM.out.below fU.out HM.out.lt).below hb1 (HM.out.below fU.out HM.out.lt).lt
 have hz1:=jU.out.below hb1 jU.out.lt
 have hc1:=(hm1.cell (fP i)).trans hca
 have HB1:=ah (bb (bb fC.out fU.out) hb1)
 have HZ1:=ah hz1
 have hlz:=hz1.lt
 have BU:w.heap.size<w1.heap.size:=by omega
 clear hm1 hz1 hb1 hca HM jU fU hwz
 rw[HD.out]at hc1
 simp only[cO]at hc1
 go_wp2_with fail
 refine(Hg 0 ⟨#[]⟩ _).mono ?_
 rintro e w2 ⟨rfl,hb2⟩
 have hb2:=hb2
 have hz2:=HZ1.out.below hb2 HZ1.out.lt
 have d0:=hz2.cell 0
 have d1:=hz2.cell 1
 have d2:=hz2.cell 2
 have d3:=hz2.cell 3
 have d4:=hz2.cell 4
 have f0:=hz2.free 0
 have f1:=hz2.free 1
 have f2:=hz2.free 2
 have f3:=hz2.free 3
 have f4:=hz2.free 4
 have BN:=hz2.lt
 simp at d0 d1 d2 d3 d4
 have HE:Hid (∀w',dX (fun j=>j=w.heap.size+1) w2 w'→Below w.heap.size w w'):=fun w' ht=>(bb HB1.out hb2).trans (ht.iI (by have:=(bb HB1.out hb2).size;exact this) fun g hg e=>by omega)
 clear hz2 hb2 HZ1
 go_wp2_with fail
 refine bodyPost_ret (v:=.tuple #[lZ 4 (0) ([]),.bool true]) (by simp[lZ,results,results44,go_sem,d0,d1,d2,d3,d4];try rfl) rfl (qU.out _ _ rfl (HE.out _ (qm _ _ _ _ _ _ _)))
theorem anI(i:Nat)(hi:i<22)(hu:gy i=4){I:Nat→Prop}{m:Mp}{dv tv rv:Value}(w:World)(hv:gU w I m dv tv rv)(hn:m.val i=.of m.d)(hd:m.d≠[])(hz:um m.d) :
 Calls prog 44 #[.agg (dR m dv tv rv),.string (txt (dW i))] w (l9 w m i):=by
 have hfl:(Mv.of m.d).field=(0,eG m.d):=by simp only[Mv.field];rw[ay hd]
 obtain⟨dA,dc,tA,tc,rA,rc,rfl,rfl,rfl⟩:=hv.slices
 have HV:=ah hv
 have hp:∀b,gW b i=.iface (eY 4) (.pointer (some ⟨b,fP i,none⟩)):=fun b=>by rw[gW,hu]
 obtain⟨wz,hwz,hsz,HM,fC⟩:=lM w 35 (dR m (.slice dA m.d.length dc) (.slice tA m.t.length tc) (.slice rA m.rest.len rc))
 clear hv
 have gG:=ah (fun x=>qF w.heap.size x i hi)
 simp only[hp]at gG
 have hcv:mV m (.slice dA m.d.length dc) (.slice tA m.t.length tc) i=.slice dA m.d.length dc:=by rw[mV,hn]
 have hca:(dR m (.slice dA m.d.length dc) (.slice tA m.t.length tc) (.slice rA m.rest.len rc))[fP i]?=some (.slice dA m.d.length dc):=by rw[wS _ _ _ _ i hi,hcv]
 obtain⟨N,hN⟩:∃N,N=txt (dW i):=⟨_,rfl⟩
 have qU:Hid (∀e w',e=.returned (.tuple #[lZ 4 (0) (eG m.d),.bool true])→Below w.heap.size w w'→l9 w m i e w'):=fun e w' h3 h4=>⟨by rw[h3,hu,hn,hfl],h4⟩
 have jX:=dU.made wz 47 #[.int .u64 0,.int .i64 0,.int .u64 0,.string ByteArray.empty,.slice none 0 0]
 have hbf:=ba (a:=wz) b0 (.cells #[.int .u64 0,.int .i64 0,.int .u64 0,.string ByteArray.empty,.slice none 0 0] 47)
 rw[hsz]at jX
 have jU:=ah jX
 have fU:=ah hbf
 clear jX hbf hp hcv
 rw[← hN]at gG⊢
 have HN:=ah hN
 clear hN
 generalize hq:l9 w m i=Q at *
 simp only[dR]at hwz
 unfold dR
 have y4:=jO 4
 have n0:=F9
 have n1:=Gf
 have n2:=Gg
 have n3:=DV
 simp only[eY]at *
 go_enter func44,ntmps44
 go_wp2_with fail
 rw[← hwz]
 refine(gG.out _).mono ?_
 rintro e w1 ⟨rfl,hb1⟩
 have hm1:=(HM.out.below fU.out HM.out.lt).below hb1 (HM.out.below fU.out HM.out.lt).lt
 have hz1:=jU.out.below hb1 jU.out.lt
 have hc1:=(hm1.cell (fP i)).trans hca
 have HB1:=ah (bb (bb fC.out fU.out) hb1)
 have HZ1:=ah hz1
 have hlz:=hz1.lt
 have BU:w.heap.size<w1.heap.size:=by omega
 clear hm1 hz1 hb1 hca HM jU fU hwz
 obtain⟨⟨A',c',h1,h2,h3⟩,_,_⟩:=HV.out
 injection h1 with h1 _ h4
 subst h1 h4
 have HK:=ah (fun x hx=>zf dA dc m.d x (h3.rd.below hx) hz)
 have hne:¬m.d.length=0:=fun e=>hd (aV e)
 have hnb:(((m.d.length:Nat):Int)==0)=false:=by simpa using hne
 clear h3 h2 hz
 generalize eG m.d=D at *
 generalize m.d.length=L at *
 go_wp2_with fail
 refine(HK.out _ HB1.out).mono ?_
 rintro e wq ⟨rfl,hbq⟩
 have xg:=ah hbq
 clear hbq HK
 go_wp2_with fail
 refine(Hg 0 (txt D) _).mono ?_
 rintro e w2 ⟨rfl,hb2⟩
 have hb2:=bb xg.out hb2
 have hz2:=HZ1.out.below hb2 HZ1.out.lt
 have d0:=hz2.cell 0
 have d1:=hz2.cell 1
 have d2:=hz2.cell 2
 have d3:=hz2.cell 3
 have d4:=hz2.cell 4
 have f0:=hz2.free 0
 have f1:=hz2.free 1
 have f2:=hz2.free 2
 have f3:=hz2.free 3
 have f4:=hz2.free 4
 have BN:=hz2.lt
 simp at d0 d1 d2 d3 d4
 have HE:Hid (∀w',dX (fun j=>j=w.heap.size+1) w2 w'→Below w.heap.size w w'):=fun w' ht=>(bb HB1.out hb2).trans (ht.iI (by have:=(bb HB1.out hb2).size;exact this) fun g hg e=>by omega)
 clear hz2 hb2 HZ1
 go_wp2_with fail
 refine bodyPost_ret (v:=.tuple #[lZ 4 (0) (D),.bool true]) (by simp[lZ,results,results44,go_sem,d0,d1,d2,d3,d4];try rfl) rfl (qU.out _ _ rfl (HE.out _ (qm _ _ _ _ _ _ _)))
theorem anL(i:Nat)(hi:i<22)(hu:gy i=5){I:Nat→Prop}{m:Mp}{dv tv rv:Value}(w:World)(hv:gU w I m dv tv rv)(hn:m.val i=.rows m.t)(hd:m.t=[]) :
 Calls prog 44 #[.agg (dR m dv tv rv),.string (txt (dW i))] w (l9 w m i):=by
 have hfl:(Mv.rows m.t).field=(0,[]):=by rw[hd];rfl
 have HD:=ah hd
 clear hd
 obtain⟨dA,dc,tA,tc,rA,rc,rfl,rfl,rfl⟩:=hv.slices
 have HV:=ah hv
 have hp:∀b,gW b i=.iface (eY 5) (.pointer (some ⟨b,fP i,none⟩)):=fun b=>by rw[gW,hu]
 obtain⟨wz,hwz,hsz,HM,fC⟩:=lM w 35 (dR m (.slice dA m.d.length dc) (.slice tA m.t.length tc) (.slice rA m.rest.len rc))
 clear hv
 have gG:=ah (fun x=>qF w.heap.size x i hi)
 simp only[hp]at gG
 have hcv:mV m (.slice dA m.d.length dc) (.slice tA m.t.length tc) i=.slice tA m.t.length tc:=by rw[mV,hn]
 have hca:(dR m (.slice dA m.d.length dc) (.slice tA m.t.length tc) (.slice rA m.rest.len rc))[fP i]?=some (.slice tA m.t.length tc):=by rw[wS _ _ _ _ i hi,hcv]
 obtain⟨N,hN⟩:∃N,N=txt (dW i):=⟨_,rfl⟩
 have qU:Hid (∀e w',e=.returned (.tuple #[lZ 5 (0) ([]),.bool true])→Below w.heap.size w w'→l9 w m i e w'):=fun e w' h3 h4=>⟨by rw[h3,hu,hn,hfl],h4⟩
 have jX:=dU.made wz 47 #[.int .u64 0,.int .i64 0,.int .u64 0,.string ByteArray.empty,.slice none 0 0]
 have hbf:=ba (a:=wz) b0 (.cells #[.int .u64 0,.int .i64 0,.int .u64 0,.string ByteArray.empty,.slice none 0 0] 47)
 rw[hsz]at jX
 have jU:=ah jX
 have fU:=ah hbf
 clear jX hbf hp hcv
 rw[← hN]at gG⊢
 have HN:=ah hN
 clear hN
 generalize hq:l9 w m i=Q at *
 simp only[dR]at hwz
 unfold dR
 have y5:=jO 5
 have n0:=Gh
 have n1:=Gi
 have n2:=Gj
 have n3:=DW
 have n4:=DX
 simp only[eY]at *
 go_enter func44,ntmps44
 go_wp2_with fail
 rw[← hwz]
 refine(gG.out _).mono ?_
 rintro e w1 ⟨rfl,hb1⟩
 have hm1:=(HM.out.below fU.out HM.out.lt).below hb1 (HM.out.below fU.out HM.out.lt).lt
 have hz1:=jU.out.below hb1 jU.out.lt
 have hc1:=(hm1.cell (fP i)).trans hca
 have HB1:=ah (bb (bb fC.out fU.out) hb1)
 have HZ1:=ah hz1
 have hlz:=hz1.lt
 have BU:w.heap.size<w1.heap.size:=by omega
 clear hm1 hz1 hb1 hca HM jU fU hwz
 rw[HD.out]at hc1
 simp only[cO]at hc1
 go_wp2_with fail
 refine(Hg 0 ⟨#[]⟩ _).mono ?_
 rintro e w2 ⟨rfl,hb2⟩
 have hb2:=hb2
 have hz2:=HZ1.out.below hb2 HZ1.out.lt
 have d0:=hz2.cell 0
 have d1:=hz2.cell 1
 have d2:=hz2.cell 2
 have d3:=hz2.cell 3
 have d4:=hz2.cell 4
 have f0:=hz2.free 0
 have f1:=hz2.free 1
 have f2:=hz2.free 2
 have f3:=hz2.free 3
 have f4:=hz2.free 4
 have BN:=hz2.lt
 simp at d0 d1 d2 d3 d4
 have HE:Hid (∀w',dX (fun j=>j=w.heap.size+1) w2 w'→Below w.heap.size w w'):=fun w' ht=>(bb HB1.out hb2).trans (ht.iI (by have:=(bb HB1.out hb2).size;exact this) fun g hg e=>by omega)
 clear hz2 hb2 HZ1
 go_wp2_with fail
 refine bodyPost_ret (v:=.tuple #[lZ 5 (0) ([]),.bool true]) (by simp[lZ,results,results44,go_sem,d0,d1,d2,d3,d4];try rfl) rfl (qU.out _ _ rfl (HE.out _ (qm _ _ _ _ _ _ _)))
theorem anK(i:Nat)(hi:i<22)(hu:gy i=5){I:Nat→Prop}{m:Mp}{dv tv rv:Value}(w:World)(hv:gU w I m dv tv rv)(hn:m.val i=.rows m.t)(hd:m.t≠[])(hz:jV m)(hT:Tabs w) :
 Calls prog 44 #[.agg (dR m dv tv rv),.string (txt (dW i))] w (l9 w m i):=by
 have hfl:(Mv.rows m.t).field=(0,(oV dV m.t).1):=by simp only[Mv.field];rw[ay hd]
 obtain⟨dA,dc,tA,tc,rA,rc,rfl,rfl,rfl⟩:=hv.slices
 have HV:=ah hv
 have hp:∀b,gW b i=.iface (eY 5) (.pointer (some ⟨b,fP i,none⟩)):=fun b=>by rw[gW,hu]
 obtain⟨wz,hwz,hsz,HM,fC⟩:=lM w 35 (dR m (.slice dA m.d.length dc) (.slice tA m.t.length tc) (.slice rA m.rest.len rc))
 clear hv
 have gG:=ah (fun x=>qF w.heap.size x i hi)
 simp only[hp]at gG
 have hcv:mV m (.slice dA m.d.length dc) (.slice tA m.t.length tc) i=.slice tA m.t.length tc:=by rw[mV,hn]
 have hca:(dR m (.slice dA m.d.length dc) (.slice tA m.t.length tc) (.slice rA m.rest.len rc))[fP i]?=some (.slice tA m.t.length tc):=by rw[wS _ _ _ _ i hi,hcv]
 obtain⟨N,hN⟩:∃N,N=txt (dW i):=⟨_,rfl⟩
 have qU:Hid (∀e w',e=.returned (.tuple #[lZ 5 (0) ((oV dV m.t).1),.bool true])→Below w.heap.size w w'→l9 w m i e w'):=fun e w' h3 h4=>⟨by rw[h3,hu,hn,hfl],h4⟩
 have jX:=dU.made wz 47 #[.int .u64 0,.int .i64 0,.int .u64 0,.string ByteArray.empty,.slice none 0 0]
 have hbf:=ba (a:=wz) b0 (.cells #[.int .u64 0,.int .i64 0,.int .u64 0,.string ByteArray.empty,.slice none 0 0] 47)
 rw[hsz]at jX
 have jU:=ah jX
 have fU:=ah hbf
 clear jX hbf hp hcv
 rw[← hN]at gG⊢
 have HN:=ah hN
 clear hN
 generalize hq:l9 w m i=Q at *
 simp only[dR]at hwz
 unfold dR
 have y5:=jO 5
 have n0:=Gh
 have n1:=Gi
 have n2:=Gj
 have n3:=DW
 have n4:=DX
 simp only[eY]at *
 go_enter func44,ntmps44
 go_wp2_with fail
 rw[← hwz]
 refine(gG.out _).mono ?_
 rintro e w1 ⟨rfl,hb1⟩
 have hm1:=(HM.out.below fU.out HM.out.lt).below hb1 (HM.out.below fU.out HM.out.lt).lt
 have hz1:=jU.out.below hb1 jU.out.lt
 have hc1:=(hm1.cell (fP i)).trans hca
 have HB1:=ah (bb (bb fC.out fU.out) hb1)
 have HZ1:=ah hz1
 have hlz:=hz1.lt
 have BU:w.heap.size<w1.heap.size:=by omega
 clear hm1 hz1 hb1 hca HM jU fU hwz
 obtain⟨_,⟨l,A',c',h1,h2,h3,h4,h5⟩,_⟩:=HV.out
 injection h1 with h1 hl h6
 subst h1 h6
 have HK:Hid (∀x,Below w.heap.size w x→Calls prog 90 #[.slice tA m.t.length tc] x (aj x (.tuple #[.string (txt (oV dV m.t).1),.int .i64 (oV dV m.t).2]))):=fun x hx=>by
  have:=acO tA tc l I x (h3.below hx) (fun r hr=>(h4 r hr).below hx) (fun r hr=>hz.t r.rw (by rw[h2];exact List.mem_map_of_mem hr)) (fun r hr=>by
   have:=hz.good.1 20 (by decide) r.rw (by rw[h2];exact List.mem_map_of_mem hr);exact this) (by have:=hz.tl;rw[hl]at this;exact this) (hT.below hx)
  rw[hl,h2];exact this
 have hne:¬m.t.length=0:=fun e=>hd (aV e)
 have hnb:(((m.t.length:Nat):Int)==0)=false:=by simpa using hne
 clear h3 h2 hz hT h4 h5 hl
 generalize(oV dV m.t).1=D at *
 generalize(oV dV m.t).2=E at *
 generalize m.t.length=L at *
 go_wp2_with fail
 refine(HK.out _ HB1.out).mono ?_
 rintro e wq ⟨rfl,hbq⟩
 have xg:=ah hbq
 clear hbq HK
 go_wp2_with fail
 refine(Hg 0 (txt D) _).mono ?_
 rintro e w2 ⟨rfl,hb2⟩
 have hb2:=bb xg.out hb2
 have hz2:=HZ1.out.below hb2 HZ1.out.lt
 have d0:=hz2.cell 0
 have d1:=hz2.cell 1
 have d2:=hz2.cell 2
 have d3:=hz2.cell 3
 have d4:=hz2.cell 4
 have f0:=hz2.free 0
 have f1:=hz2.free 1
 have f2:=hz2.free 2
 have f3:=hz2.free 3
 have f4:=hz2.free 4
 have BN:=hz2.lt
 simp at d0 d1 d2 d3 d4
 have HE:Hid (∀w',dX (fun j=>j=w.heap.size+1) w2 w'→Below w.heap.size w w'):=fun w' ht=>(bb HB1.out hb2).trans (ht.iI (by have:=(bb HB1.out hb2).size;exact this) fun g hg e=>by omega)
 clear hz2 hb2 HZ1
 go_wp2_with fail
 refine bodyPost_ret (v:=.tuple #[lZ 5 (0) (D),.bool true]) (by simp[lZ,results,results44,go_sem,d0,d1,d2,d3,d4];try rfl) rfl (qU.out _ _ rfl (HE.out _ (qm _ _ _ _ _ _ _)))
theorem anM{I:Nat→Prop}{m:Mp}{dv tv rv:Value}(w:World)(hv:gU w I m dv tv rv)(hz:jV m)(hE:m.d=[]∨um m.d)(hT:Tabs w):∀i,i<22→
 Calls prog 44 #[.agg (dR m dv tv rv),.string (txt (dW i))] w (l9 w m i):=by
 refine kD ?_ ?_ ?_ ?_ ?_ ?_ ?_ ?_ ?_ ?_ ?_ ?_ ?_ ?_ ?_ ?_ ?_ ?_ ?_ ?_ ?_ ?_
 ·rcases hb:m.al with _|_
  ·exact anF 0 (by decide) rfl w hv (by show Mv.flag m.al=_;rw[hb])
  exact anG 0 (by decide) rfl w hv (by show Mv.flag m.al=_;rw[hb])
 ·exact uh 1 _ (by decide) rfl w hv rfl
 ·exact uh 2 _ (by decide) rfl w hv rfl
 ·exact uh 3 _ (by decide) rfl w hv rfl
 ·exact uh 4 _ (by decide) rfl w hv rfl
 ·exact uh 5 _ (by decide) rfl w hv rfl
 ·by_cases hd:m.d=[]
  ·exact anJ 6 (by decide) rfl w hv rfl hd
  exact anI 6 (by decide) rfl w hv rfl hd (hE.resolve_left hd)
 ·exact uh 7 _ (by decide) rfl w hv rfl
 ·exact uh 8 _ (by decide) rfl w hv rfl
 ·exact uh 9 _ (by decide) rfl w hv rfl
 ·exact uh 10 _ (by decide) rfl w hv rfl
 ·exact uh 11 _ (by decide) rfl w hv rfl
 ·exact uh 12 _ (by decide) rfl w hv rfl
 ·exact uh 13 _ (by decide) rfl w hv rfl
 ·exact Wi 14 _ (by decide) rfl w hv rfl
 ·exact Wi 15 _ (by decide) rfl w hv rfl
 ·exact uh 16 _ (by decide) rfl w hv rfl
 ·exact Wi 17 _ (by decide) rfl w hv rfl
 ·exact anH 18 _ (by decide) rfl w hv rfl (hz.good.1 18 (by decide))
 ·exact uh 19 _ (by decide) rfl w hv rfl
 ·by_cases hd:m.t=[]
  ·exact anL 20 (by decide) rfl w hv rfl hd
  exact anK 20 (by decide) rfl w hv rfl hd hz hT
 ·exact uh 21 _ (by decide) rfl w hv rfl
theorem anB:∀i,i<22→((List.range 8).all fun k=>(jm (k+1)).all fun s=>decide (s.nm=dW i→s.use=gy i))=true:=by
 refine kD ?_ ?_ ?_ ?_ ?_ ?_ ?_ ?_ ?_ ?_ ?_ ?_ ?_ ?_ ?_ ?_ ?_ ?_ ?_ ?_ ?_ ?_<;>decide +kernel
theorem use_any:∀i,i<22→((List.range 8).any fun k=>(jm (k+1)).any fun s=>decide (s.nm=dW i))=true:=by
 refine kD ?_ ?_ ?_ ?_ ?_ ?_ ?_ ?_ ?_ ?_ ?_ ?_ ?_ ?_ ?_ ?_ ?_ ?_ ?_ ?_ ?_ ?_<;>decide +kernel
theorem Ht(i:Nat)(hi:i<22)(w:World):Calls prog 115 #[.string (txt (dW i))] w (aj w (.int .i64 (gy i:Int))):=by
 have sQ:Hid (∀(x:World) (k:Nat),k<8→Calls prog 157 #[.int .i64 ((k:Int)+1)] x (qw x (jm (k+1)))):=fun x k hk=>by
  have:=ac0 ((k:Int)+1) x
  rwa [show(k:Int)+1=((k+1:Nat):Int)by omega,OL (by omega) (by omega)]at this
 have yx:Hid (∀k,k<8→∀s∈jm (k+1),s.nm=dW i→s.use=gy i):=fun k hk s hs h=>by
  have h1:=List.all_eq_true.1 (anB i hi) k (List.mem_range.2 hk);exact of_decide_eq_true (List.all_eq_true.1 h1 s hs) h
 have HEX:Hid (∃k,k<8∧∃s∈jm (k+1),s.nm=dW i):=by
  obtain⟨k,hk,h1⟩:=List.any_eq_true.1 (use_any i hi);obtain⟨s,hs,h2⟩:=List.any_eq_true.1 h1;exact⟨k,List.mem_range.1 hk,s,hs,of_decide_eq_true h2⟩
 have H0:Hid (∀j,j<0→∀s∈jm (j+1),s.nm≠dW i):=fun j h=>aJ h (by omega);generalize gy i=U at *;have XL:=ah (Vg i hi);generalize dW i=nm at *;clear hi;go_enter func115,ntmps115;go_wp2_with fail;go_loopg [3] 8 (fun gk kk wr=>∃k:Nat,k≤8∧8 - k≤gk∧kk=.int .i64 ((k:Int)+1)∧Hid (∀j,j<k→∀s∈jm (j+1),s.nm≠nm)∧Hid (Below w.heap.size w wr))
 case atStart=>exact⟨0,aW _,by omega,rfl,H0,b0⟩
 case round=>
  obtain⟨k,hk,hgk,rfl,HN,HB⟩:=hrel;obtain⟨wx,rfl⟩:∃wx,wx=wr:=⟨_,rfl⟩;obtain⟨G,hG⟩:∃G,G=gk:=⟨_,rfl⟩;by_cases hlt:k<8
  ·have hki:(k:Int)+1≤8:=by omega
   have hwk:IntKind.i64.wrap ((k:Int)+1+1)=(k:Int)+1+1:=(by rw[IntKind.wrap_i64];omega);have X6:=ah (sQ.out wx k hlt);have Qu:Hid (∀s∈jm (k+1),s.nm=nm→s.use=U):=yx.out k hlt;have kP:Hid ((∀s∈jm (k+1),s.nm≠nm)→∀j,j<k+1→∀s∈jm (j+1),s.nm≠nm):=fun h j hj=>by
    rcases Nat.lt_or_ge j k with h2|h2
    ·exact HN.out j h2
    obtain rfl:j=k:=(by omega);exact h
   have hll:=Au (k+1);generalize jm (k+1)=L at *;clear sQ yx HEX HN H0;go_wp2_with fail;refine X6.out.mono ?_;rintro e w2 ⟨A0,cc0,rfl,hrd,hc0,hb2⟩;have HB2:=ah (bb HB.out hb2);have jq:=ah hrd;have Qq:Hid (∀j (h:j<L.length),j<0→L[j].nm≠nm):=fun j _ h=>aJ h (by omega);clear hrd hb2 X6 HB;go_wp2_with fail;go_loopg [13] L.length (fun gk ki wr=>∃j:Nat,j≤L.length∧L.length - j≤gk∧ki=.int .i64 (j:Int)∧Hid (∀j' (h:j'<L.length),j'<j→L[j'].nm≠nm)∧Hid (Below w2.heap.size w2 wr))
   case atStart=>exact⟨0,aW _,by omega,rfl,Qq,b0⟩
   case round=>
    obtain⟨j,hj,hgj,rfl,HJ,nC⟩:=hrel;by_cases hjl:j<L.length
    ·obtain⟨b,off,iL,hbl,c0,c1,c2,c3⟩:=uU (jq.out.below nC.out) hjl
     subst iL;have hus:=Qu.out _ (aS hjl);have xw:Hid (L[j].nm≠nm→∀j' (h:j'<L.length),j'<j+1→L[j'].nm≠nm):=fun h j' h' hj'=>by
      rcases Nat.lt_or_ge j' j with h2|h2
      ·exact HJ.out j' h' h2
      obtain rfl:j'=j:=(by omega);exact h
     generalize L[j]=s at *;have hbe:((txt s.nm).toList==(txt nm).toList)=decide (s.nm=nm):=by
      rw[ByteArray.toList_eq,ByteArray.toList_eq,Bool.eq_iff_iff];simp[txt]
     have iy:=ah (ba nC.out (.cells #[.int .u64 (s.tag:Int),.int .i64 (s.use:Int),.int .i64 (s.from_:Int),.string (txt s.nm)] 198));clear HJ nC Qq;by_cases he:s.nm=nm
     ·have hu:=hus he
      have ahT:((txt s.nm).toList==(txt nm).toList)=true:=(by rw[hbe];exact bH he);clear hbe hus xw he kP Qu;rw[hu]at c1 iy;clear hu;go_wp2_with fail;go_ret;exact⟨rfl,bb HB2.out iy.out⟩
     have ahT:((txt s.nm).toList==(txt nm).toList)=false:=(by rw[hbe];exact aO he);have HJ2:=ah (xw.out he);clear hbe hus xw he;go_wp2_with fail;go_roundg (L.length - (j+1))
     case measure=>omega
     case rel=>exact⟨j+1,by omega,au _,by go_num,HJ2,iy⟩
    obtain rfl:j=L.length:=(by omega);have iq:=ah (kP.out fun s hs=>by
     obtain⟨q,hq,rfl⟩:=List.getElem_of_mem hs;exact HJ.out q hq hq)
    have HB3:=ah (bb HB2.out nC.out);clear HJ nC Qq kP Qu;go_wp2_with fail;go_roundg (8 - (k+1))
    case measure=>omega
    case rel=>exact⟨k+1,by omega,au _,by go_num,iq,HB3⟩
  obtain rfl:k=8:=by omega
  exfalso;obtain⟨k,hk,s,hs,he⟩:=HEX.out;exact HN.out k hk s hs he
theorem amh(A B:Option Addr)(c c':Nat)(l m:List Rv)(I:Nat→Prop)(w:World)(hA:Rd w A (gZ l))(hB:Rd w B (gZ m))(hl:∀r∈l,gJ w I r∧r.d.length≤9223372036854775807)(hm:∀r∈m,gJ w I r)(hll:l.length≤9223372036854775807)(he:l.map Rv.rw=m.map Rv.rw) :
 Calls prog 68 #[.slice A l.length c,.slice B m.length c'] w (aj w (.bool true)):=by
 have HA:=ah hA
 have HB:=ah hB
 have HL:=ah hl
 have HM:=ah hm
 have HAT:Hid (∀k (h1:k<l.length) (h2:k<m.length),l[k].d=m[k].d∧l[k].n=m[k].n):=fun k h1 h2=>by
  have:=congrArg (fun x=>x[k]?) he;simp only[List.getElem?_map,aP h1,aP h2,Option.map_some,bJ,Rv.rw,Prod.mk.injEq]at this;exact this
 have hlm:l.length=m.length:=by have:=congrArg List.length he;rwa [aY,aY]at this
 have hneq:=fun x y x' y'=>ZQ x y x' y'
 have hgd:=ZP
 have xB:=ah hlm
 rw[← hlm]
 clear hA hB hl hm he hlm
 go_enter func68,ntmps68
 go_wp2_with fail
 go_loopg [14] l.length (fun gk ki wr=>∃k:Nat,k≤l.length∧l.length - k≤gk∧ki=.int .i64 (k:Int)∧Hid (Below w.heap.size w wr))
 case atStart=>exact⟨0,aW _,by omega,rfl,b0⟩
 case round=>
  obtain⟨k,hk,hgk,rfl,jd⟩:=hrel;by_cases hlt:k<l.length
  ·have hlt2:k<m.length:=by have:=xB.out;omega
   obtain⟨b,off,rfl,hbl,c0,c1⟩:=(HA.out.below jd.out).row hlt;obtain⟨b',off',rfl,sZ,e0,e1⟩:=(HB.out.below jd.out).row hlt2;have hlk:=HL.out _ (aS hlt);have hmk:=HM.out _ (aS hlt2);have hat:=HAT.out k hlt hlt2;generalize l[k]=x at *;generalize m[k]=y at *;obtain⟨xd,xA,xc,xn⟩:=x;obtain⟨yd,yA,yc,yn⟩:=y;obtain⟨ha1,ha2⟩:=hat
   simp only at c0 c1 e0 e1 ha1 ha2;subst ha1 ha2;have HX:=ah (hlk.1.2.rd.below jd.out);have HY:=ah (hmk.2.rd.below jd.out);have hxl:=hlk.2;simp only at hxl;clear hlk hmk;go_wp2_with fail;go_quiet(fail);go_wp2_with fail;go_loopg [49] xd.length (fun gi kj wx=>∃j:Nat,j≤xd.length∧xd.length - j≤gi∧kj=.int .i64 (j:Int)∧Hid (Below wr.heap.size wr wx))
   case atStart=>exact⟨0,aW _,by omega,rfl,bn b0 _⟩
   case round=>
    obtain⟨j,hj,hgj,rfl,iy⟩:=hrel;have c0':=(World.cell?_of_block (a:=⟨b,off+k*2,none⟩) (iy.out.block b hbl)).trans c0;have e0':=(World.cell?_of_block (a:=⟨b',off'+k*2,none⟩) (iy.out.block b' sZ)).trans e0;by_cases hjt:j<xd.length
    ·obtain⟨p,po,rfl,hpl,p0,p1⟩:=(HX.out.below iy.out).ent hjt
     obtain⟨q,qo,rfl,Ag,q0,q1⟩:=(HY.out.below iy.out).ent hjt;generalize xd[j]=z at *;obtain⟨z0,z1⟩:=z;simp only at p0 p1 q0 q1;have hd:decide (txt z0=txt z0∧txt z1=txt z1)=true:=(by simp);go_wp2_with fail;go_quiet(fail);go_wp2_with fail;go_roundg (xd.length - (j+1))
     case measure=>omega
     case rel=>exact⟨j+1,by omega,au _,by go_num,bn iy.out _⟩
    obtain rfl:j=xd.length:=(by omega);have qI:=ah (bb jd.out iy.out);go_wp2_with fail;go_roundg (l.length - (k+1))
    case measure=>omega
    case rel=>exact⟨k+1,by omega,au _,by go_num,qI⟩
  obtain rfl:k=l.length:=by omega
  go_wp2_with fail;go_ret;exact⟨rfl,jd.out⟩
theorem aew(b i b' i' x y:Nat)(w:World)(hb:b<w.heap.size)(hb':b'<w.heap.size)(h1:w.cell? ⟨b,i,none⟩=some (.int .u64 (x:Int)))(h2:w.cell? ⟨b',i',none⟩=some (.int .u64 (y:Int))) :
 Calls prog 58 #[.iface (eY 0) (.pointer (some ⟨b,i,none⟩)),.iface (eY 0) (.pointer (some ⟨b',i',none⟩))] w (aj w (.bool (decide (x=y)))):=by
 have hq:((x:Int)==(y:Int))=decide (x=y):=by
  (rw[Bool.eq_iff_iff,bF,decide_eq_true_iff];omega)
 generalize decide (x=y)=F at *
 have y0:=jO 0
 simp only[eY]at *
 have n0:∀n:fV w,n.wld.cell? ⟨b,i,none⟩=some (.int .u64 (x:Int)):=fun n=>(n.bel.cell (p:=⟨b,i,none⟩) hb).trans h1
 have n1:∀n:fV w,n.wld.cell? ⟨b',i',none⟩=some (.int .u64 (y:Int)):=fun n=>(n.bel.cell (p:=⟨b',i',none⟩) hb').trans h2
 go_enter func58,ntmps58
 go_wp2_with fail
 refine kM (by kernel_rfl) (by kernel_rfl) ?_
 repeat(first|go_big_quiet_skip|(go_big_quiet_want;go_big_quiet_op;first|go_big_quiet_on|(apply Exists.intro;refine⟨fun nq=>?_,?_⟩;(fail);go_big_quiet_on)))
 refine wpQuiet_nil ?_
 intro wq hnq
 obtain⟨nq,rfl⟩:=hnq
 have hq:=nq.bel
 generalize nq.wld=wq at hq⊢
 clear nq
 go_wp2_with fail
 go_ret
 exact⟨rfl,by assumption⟩
theorem aex(b i b' i':Nat)(x y:Bool)(w:World)(hb:b<w.heap.size)(hb':b'<w.heap.size)(h1:w.cell? ⟨b,i,none⟩=some (.bool x))(h2:w.cell? ⟨b',i',none⟩=some (.bool y)) :
 Calls prog 58 #[.iface (eY 1) (.pointer (some ⟨b,i,none⟩)),.iface (eY 1) (.pointer (some ⟨b',i',none⟩))] w (aj w (.bool (decide (x=y)))):=by
 have hq:(x==y)=decide (x=y):=by
  (cases x<;>cases y<;>rfl)
 generalize decide (x=y)=F at *
 have y1:=jO 1
 have n0:=F8
 simp only[eY]at *
 have n0:∀n:fV w,n.wld.cell? ⟨b,i,none⟩=some (.bool x):=fun n=>(n.bel.cell (p:=⟨b,i,none⟩) hb).trans h1
 have n1:∀n:fV w,n.wld.cell? ⟨b',i',none⟩=some (.bool y):=fun n=>(n.bel.cell (p:=⟨b',i',none⟩) hb').trans h2
 go_enter func58,ntmps58
 go_wp2_with fail
 refine kM (by kernel_rfl) (by kernel_rfl) ?_
 repeat(first|go_big_quiet_skip|(go_big_quiet_want;go_big_quiet_op;first|go_big_quiet_on|(apply Exists.intro;refine⟨fun nq=>?_,?_⟩;(fail);go_big_quiet_on)))
 refine wpQuiet_nil ?_
 intro wq hnq
 obtain⟨nq,rfl⟩:=hnq
 have hq:=nq.bel
 generalize nq.wld=wq at hq⊢
 clear nq
 go_wp2_with fail
 go_ret
 exact⟨rfl,by assumption⟩
theorem aez(b i b' i':Nat)(x y:Int)(w:World)(hb:b<w.heap.size)(hb':b'<w.heap.size)(h1:w.cell? ⟨b,i,none⟩=some (.int .i64 x))(h2:w.cell? ⟨b',i',none⟩=some (.int .i64 y)) :
 Calls prog 58 #[.iface (eY 2) (.pointer (some ⟨b,i,none⟩)),.iface (eY 2) (.pointer (some ⟨b',i',none⟩))] w (aj w (.bool (decide (x=y)))):=by
 have hq:(x==y)=decide (x=y):=by
  (rw[Bool.eq_iff_iff,bF,decide_eq_true_iff])
 generalize decide (x=y)=F at *
 have y2:=jO 2
 have n0:=Ja
 have n1:=Jb
 simp only[eY]at *
 have n0:∀n:fV w,n.wld.cell? ⟨b,i,none⟩=some (.int .i64 x):=fun n=>(n.bel.cell (p:=⟨b,i,none⟩) hb).trans h1
 have n1:∀n:fV w,n.wld.cell? ⟨b',i',none⟩=some (.int .i64 y):=fun n=>(n.bel.cell (p:=⟨b',i',none⟩) hb').trans h2
 go_enter func58,ntmps58
 go_wp2_with fail
 refine kM (by kernel_rfl) (by kernel_rfl) ?_
 repeat(first|go_big_quiet_skip|(go_big_quiet_want;go_big_quiet_op;first|go_big_quiet_on|(apply Exists.intro;refine⟨fun nq=>?_,?_⟩;(fail);go_big_quiet_on)))
 refine wpQuiet_nil ?_
 intro wq hnq
 obtain⟨nq,rfl⟩:=hnq
 have hq:=nq.bel
 generalize nq.wld=wq at hq⊢
 clear nq
 go_wp2_with fail
 go_ret
 exact⟨rfl,by assumption⟩
theorem aeA(b i b' i':Nat)(x y:List UInt8)(w:World)(hb:b<w.heap.size)(hb':b'<w.heap.size)(h1:w.cell? ⟨b,i,none⟩=some (.string (txt x)))(h2:w.cell? ⟨b',i',none⟩=some (.string (txt y))) :
 Calls prog 58 #[.iface (eY 3) (.pointer (some ⟨b,i,none⟩)),.iface (eY 3) (.pointer (some ⟨b',i',none⟩))] w (aj w (.bool (decide (x=y)))):=by
 have hq:((txt x).toList==(txt y).toList)=decide (x=y):=by
  (rw[ByteArray.toList_eq,ByteArray.toList_eq,iD,iD,Bool.eq_iff_iff,bF,decide_eq_true_iff])
 generalize decide (x=y)=F at *
 have y3:=jO 3
 have n0:=Jc
 have n1:=Jd
 have n2:=Je
 simp only[eY]at *
 have n0:∀n:fV w,n.wld.cell? ⟨b,i,none⟩=some (.string (txt x)):=fun n=>(n.bel.cell (p:=⟨b,i,none⟩) hb).trans h1
 have n1:∀n:fV w,n.wld.cell? ⟨b',i',none⟩=some (.string (txt y)):=fun n=>(n.bel.cell (p:=⟨b',i',none⟩) hb').trans h2
 go_enter func58,ntmps58
 go_wp2_with fail
 refine kM (by kernel_rfl) (by kernel_rfl) ?_
 repeat(first|go_big_quiet_skip|(go_big_quiet_want;go_big_quiet_op;first|go_big_quiet_on|(apply Exists.intro;refine⟨fun nq=>?_,?_⟩;(fail);go_big_quiet_on)))
 refine wpQuiet_nil ?_
 intro wq hnq
 obtain⟨nq,rfl⟩:=hnq
 have hq:=nq.bel
 generalize nq.wld=wq at hq⊢
 clear nq
 go_wp2_with fail
 go_ret
 exact⟨rfl,by assumption⟩
theorem aeB(b i b' i':Nat)(x y:List fD)(A B:Option Addr)(c d:Nat)(w:World)(hb:b<w.heap.size)(hb':b'<w.heap.size)(h1:w.cell? ⟨b,i,none⟩=some (.slice A x.length c))(h2:w.cell? ⟨b',i',none⟩=some (.slice B y.length d))(hx:Rd w A (ents x))(hy:Rd w B (ents y))(hl:x.length≤9223372036854775807) :
 Calls prog 58 #[.iface (eY 4) (.pointer (some ⟨b,i,none⟩)),.iface (eY 4) (.pointer (some ⟨b',i',none⟩))] w (aj w (.bool (decide (x=y)))):=by
 have HE:Hid (∀n:fV w,Calls prog 101 #[.slice A x.length c,.slice B y.length d] n.wld (aj n.wld (.bool (decide (x=y))))):=fun n=>ZJ A B c d x y n.wld (hx.below n.bel) (hy.below n.bel) hl
 clear hx hy hl
 generalize decide (x=y)=F at *
 generalize x.length=xl at *
 generalize y.length=yl at *
 generalize OA:Value.slice A xl c=vx at h1
 generalize UG:Value.slice B yl d=vy at h2
 have n9:∀n:fV w,n.wld.cell? ⟨b,i,none⟩=some vx:=fun n=>(n.bel.cell (p:=⟨b,i,none⟩) hb).trans h1
 have n8:∀n:fV w,n.wld.cell? ⟨b',i',none⟩=some vy:=fun n=>(n.bel.cell (p:=⟨b',i',none⟩) hb').trans h2
 subst OA UG
 clear h1 h2
 have y4:=jO 4
 have n0:=F9
 have n1:=Gf
 have n2:=Gg
 have n3:=DV
 simp only[eY]at *
 go_enter func58,ntmps58
 go_wp2_with fail
 refine kM (by kernel_rfl) (by kernel_rfl) ?_
 repeat(first|go_big_quiet_skip|(go_big_quiet_want;go_big_quiet_op;first|go_big_quiet_on|(apply Exists.intro;refine⟨fun nq=>?_,?_⟩;(go_at_call 101;exact jW (HE.out _));go_big_quiet_on)))
 refine wpQuiet_nil ?_
 intro wq hnq
 obtain⟨nq,rfl⟩:=hnq
 have hq:=nq.bel
 generalize nq.wld=wq at hq⊢
 clear nq
 go_wp2_with fail
 go_ret
 exact⟨rfl,by assumption⟩
theorem aeC(b i b' i':Nat)(x y:List Rw)(vx vy:Value)(I:Nat→Prop)(w:World)(hb:b<w.heap.size)(hb':b'<w.heap.size)(h1:w.cell? ⟨b,i,none⟩=some vx)(h2:w.cell? ⟨b',i',none⟩=some vy)(hx:vF w I vx x)(hy:vF w I vy y)(hl:∀r∈x,r.1.length≤9223372036854775807)(hll:x.length≤9223372036854775807) :
 Calls prog 58 #[.iface (eY 5) (.pointer (some ⟨b,i,none⟩)),.iface (eY 5) (.pointer (some ⟨b',i',none⟩))] w (aj w (.bool (decide (x=y)))):=by
 have HE:Hid (∀n:fV w,Calls prog 102 #[vx,vy] n.wld (aj n.wld (.bool (decide (x=y))))):=fun n=>ang y vx vy x I n.wld (hx.below n.bel) (hy.below n.bel) hl hll
 obtain⟨lx,A,c,OA,_⟩:=hx
 obtain⟨ly,B,d,UG,_⟩:=hy
 clear hl hll
 generalize decide (x=y)=F at *
 have n9:∀n:fV w,n.wld.cell? ⟨b,i,none⟩=some vx:=fun n=>(n.bel.cell (p:=⟨b,i,none⟩) hb).trans h1
 have n8:∀n:fV w,n.wld.cell? ⟨b',i',none⟩=some vy:=fun n=>(n.bel.cell (p:=⟨b',i',none⟩) hb').trans h2
 subst OA UG
 generalize lx.length=xl at *
 generalize ly.length=yl at *
 clear h1 h2
 have y5:=jO 5
 have n0:=Gh
 have n1:=Gi
 have n2:=Gj
 have n3:=DW
 have n4:=DX
 simp only[eY]at *
 go_enter func58,ntmps58
 go_wp2_with fail
 refine kM (by kernel_rfl) (by kernel_rfl) ?_
 repeat(first|go_big_quiet_skip|(go_big_quiet_want;go_big_quiet_op;first|go_big_quiet_on|(apply Exists.intro;refine⟨fun nq=>?_,?_⟩;(go_at_call 102;exact jW (HE.out _));go_big_quiet_on)))
 refine wpQuiet_nil ?_
 intro wq hnq
 obtain⟨nq,rfl⟩:=hnq
 have hq:=nq.bel
 generalize nq.wld=wq at hq⊢
 clear nq
 go_wp2_with fail
 go_ret
 exact⟨rfl,by assumption⟩
