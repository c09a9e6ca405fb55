/-
  Parts of the proof. Conditions: as each names.
-/
import Derived.Test.YtgidfnhfgiehjaaGreatDoorYbk
namespace Go.Proofs.YtgidfnhfgiehjaaGreatDoor
open Go.PM Go.RowKit Go.Proofs.Tryz
set_option maxRecDepth 100000
set_option maxHeartbeats 4000000
attribute [local go_sem ↓] Go.wp_at_zero Go.wp_at_succ
theorem tu(m:Mp)(dv tv rv:Value):(prog.info? 68).map (·.size)=some (dR m dv tv rv).size:=by kernel_rfl
def YK(w:World)(m:Mp)(e:Ending)(w':World):Prop:=∃dv tv rv,e=.returned (.agg (dR m dv tv rv))∧gU w' (fun _=>True) m dv tv rv∧Below w.heap.size w w'
theorem akb{I:Nat→Prop}{m:Mp}{dv tv rv:Value}(w:World)(hv:gU w I m dv tv rv)(hd:m.d.length≤100000)(ht:∀r∈m.t,r.1.length≤100000)(htl:m.t.length≤100000)(hr:m.rest.count≤1000000) :
 Calls prog 22 #[.agg (dR m dv tv rv)] w (YK w m):=by
 have HV:=ah hv
 obtain⟨⟨dA,dc,rfl,hdc,hdr⟩,⟨l,tA,tc,rfl,et,htr,hto,htc⟩,hrs⟩:=hv
 have hll:l.length=m.t.length:=by rw[et,aY]
 obtain⟨rA,rc,rfl,hrc,_⟩:=id hrs
 have gK:Hid (∀x:World,Below w.heap.size w x→Calls prog 63 #[.slice dA m.d.length dc] x fun e w'=>∃A' c',e=.returned (.slice A' m.d.length c')∧gJ w' (x.heap.size≤·) ⟨m.d,A',c',0⟩∧Below x.heap.size x w'):=fun x hx=>adw dA dc m.d x (hdr.rd.below hx) hd
 have HC2:Hid (∀x:World,Below w.heap.size w x→Calls prog 64 #[.slice tA m.t.length tc] x fun e w'=>∃v,e=.returned v∧l7 x.heap.size w' v m.t∧Below x.heap.size x w'):=fun x hx=>by
  have:=anf tA tc l I x (htr.below hx) (fun r hr=>(hto r hr).below hx) (fun r hr=>ht r.rw (by rw[et];exact List.mem_map_of_mem hr)) (by omega);rw[hll,← et]at this;exact this
 have nS:Hid (∀x:World,Below w.heap.size w x→Calls prog 65 #[.slice rA m.rest.len rc] x (P7 x m.rest)):=fun x hx=>akd m.rest.count rA rc m.rest I x (au _) (hrs.below hx) hr
 rw[hll]
 clear hdc hdr htr hto htc hrs hrc hd ht htl hr et hll HV
 obtain⟨wz,hwz,hsz,HM,fC⟩:=lM w 35 (dR m (.slice dA m.d.length dc) (.slice tA m.t.length tc) (.slice rA m.rest.len rc))
 have hy1:=dU.made wz 68 fF
 have hb1:=fC.out.alloc fC.out.size (.cells fF 68)
 have hM1:=HM.out.more (.cells fF 68)
 obtain⟨wy,hwy⟩:∃wy,wy=(wz.alloc (.cells fF 68)).drew:=⟨_,rfl⟩
 rw[hsz]at hy1
 have HB0:Hid (Below w.heap.size w wy):=by rw[hwy];exact hb1.drew
 have xC:Hid (dU wy w.heap.size 35 (dR m (.slice dA m.d.length dc) (.slice tA m.t.length tc) (.slice rA m.rest.len rc))):=by rw[hwy];exact hM1.dr
 have HZ0:Hid (dU wy (w.heap.size+1) 68 fF):=by rw[hwy];exact hy1.dr
 clear hb1 hy1 hM1 HM fC hsz
 simp only[fF]at hwy
 rw[hwz]at hwy
 simp only[dR]at hwy hwz
 unfold dR
 go_enter func22,ntmps22
 go_wp2_with fail
 refine wp_region_held_drew (S:=fun q=>∀j,q.cell? ⟨w.heap.size,j,none⟩=(dR m (.slice dA m.d.length dc) (.slice tA m.t.length tc) (.slice rA m.rest.len rc))[j]?) (by kernel_rfl) (by rw[← hwy];exact fun j=>xC.out.cell j) (fun hHeld=>?_)
 rw[← hwy]at hHeld⊢
 clear hwy hwz
 refine dO (i:=0) (v:=?_) rfl ⟨by rfl,?_⟩ ?_
 rotate_left
 ·((intro q dS;clear dS;go_simp);with_reducible rfl)
 generalize hd:Oper.dst _=dd
 obtain rfl:some 3=dd:=hd
 simp only[Act.put,aF,aG,aH]
 refine dO (i:=1) (v:=?_) rfl ⟨by rfl,?_⟩ ?_
 rotate_left
 ·((intro q dS;have hc:q.cell? ⟨w.heap.size,0,none⟩=some (.int .i64 m.kind):=dS 0;clear dS;go_simp);with_reducible rfl)
 generalize hd:Oper.dst _=dd
 obtain rfl:some 4=dd:=hd
 simp only[Act.put,aF,aG,aH]
 refine dO (i:=2) (v:=?_) rfl ⟨by rfl,?_⟩ ?_
 rotate_left
 ·((intro q dS;clear dS;go_simp);with_reducible rfl)
 generalize hd:Oper.dst _=dd
 obtain rfl:some 5=dd:=hd
 simp only[Act.put,aF,aG,aH]
 refine dO (i:=3) (v:=?_) rfl ⟨by rfl,?_⟩ ?_
 rotate_left
 ·((intro q dS;have hc:q.cell? ⟨w.heap.size,1,none⟩=some (.int .u64 (m.id:Int)):=dS 1;clear dS;go_simp);with_reducible rfl)
 generalize hd:Oper.dst _=dd
 obtain rfl:some 6=dd:=hd
 simp only[Act.put,aF,aG,aH]
 refine dO (i:=4) (v:=?_) rfl ⟨by rfl,?_⟩ ?_
 rotate_left
 ·((intro q dS;clear dS;go_simp);with_reducible rfl)
 generalize hd:Oper.dst _=dd
 obtain rfl:some 7=dd:=hd
 simp only[Act.put,aF,aG,aH]
 refine dO (i:=5) (v:=?_) rfl ⟨by rfl,?_⟩ ?_
 rotate_left
 ·((intro q dS;have hc:q.cell? ⟨w.heap.size,2,none⟩=some (.int .u64 (m.min_:Int)):=dS 2;clear dS;go_simp);with_reducible rfl)
 generalize hd:Oper.dst _=dd
 obtain rfl:some 8=dd:=hd
 simp only[Act.put,aF,aG,aH]
 refine dO (i:=6) (v:=?_) rfl ⟨by rfl,?_⟩ ?_
 rotate_left
 ·((intro q dS;clear dS;go_simp);with_reducible rfl)
 generalize hd:Oper.dst _=dd
 obtain rfl:some 9=dd:=hd
 simp only[Act.put,aF,aG,aH]
 refine dO (i:=7) (v:=?_) rfl ⟨by rfl,?_⟩ ?_
 rotate_left
 ·((intro q dS;have hc:q.cell? ⟨w.heap.size,3,none⟩=some (.int .u64 (m.max_:Int)):=dS 3;clear dS;go_simp);with_reducible rfl)
 generalize hd:Oper.dst _=dd
 obtain rfl:some 10=dd:=hd
 simp only[Act.put,aF,aG,aH]
 refine dO (i:=8) (v:=?_) rfl ⟨by rfl,?_⟩ ?_
 rotate_left
 ·((intro q dS;clear dS;go_simp);with_reducible rfl)
 generalize hd:Oper.dst _=dd
 obtain rfl:some 11=dd:=hd
 simp only[Act.put,aF,aG,aH]
 refine dO (i:=9) (v:=?_) rfl ⟨by rfl,?_⟩ ?_
 rotate_left
 ·((intro q dS;have hc:q.cell? ⟨w.heap.size,4,none⟩=some (.int .u64 (m.chosen:Int)):=dS 4;clear dS;go_simp);with_reducible rfl)
 generalize hd:Oper.dst _=dd
 obtain rfl:some 12=dd:=hd
 simp only[Act.put,aF,aG,aH]
 refine dO (i:=10) (v:=?_) rfl ⟨by rfl,?_⟩ ?_
 rotate_left
 ·((intro q dS;clear dS;go_simp);with_reducible rfl)
 generalize hd:Oper.dst _=dd
 obtain rfl:some 13=dd:=hd
 simp only[Act.put,aF,aG,aH]
 refine dO (i:=11) (v:=?_) rfl ⟨by rfl,?_⟩ ?_
 rotate_left
 ·((intro q dS;have hc:q.cell? ⟨w.heap.size,5,none⟩=some (.int .u64 (m.flags:Int)):=dS 5;clear dS;go_simp);with_reducible rfl)
 generalize hd:Oper.dst _=dd
 obtain rfl:some 14=dd:=hd
 simp only[Act.put,aF,aG,aH]
 refine dO (i:=12) (v:=?_) rfl ⟨by rfl,?_⟩ ?_
 rotate_left
 ·((intro q dS;clear dS;go_simp);with_reducible rfl)
 generalize hd:Oper.dst _=dd
 obtain rfl:some 15=dd:=hd
 simp only[Act.put,aF,aG,aH]
 refine dO (i:=13) (v:=?_) rfl ⟨by rfl,?_⟩ ?_
 rotate_left
 ·((intro q dS;have hc:q.cell? ⟨w.heap.size,6,none⟩=some (.int .u64 (m.cost:Int)):=dS 6;clear dS;go_simp);with_reducible rfl)
 generalize hd:Oper.dst _=dd
 obtain rfl:some 16=dd:=hd
 simp only[Act.put,aF,aG,aH]
 refine dO (i:=14) (v:=?_) rfl ⟨by rfl,?_⟩ ?_
 rotate_left
 ·((intro q dS;clear dS;go_simp);with_reducible rfl)
 generalize hd:Oper.dst _=dd
 obtain rfl:some 17=dd:=hd
 simp only[Act.put,aF,aG,aH]
 refine dO (i:=15) (v:=?_) rfl ⟨by rfl,?_⟩ ?_
 rotate_left
 ·((intro q dS;have hc:q.cell? ⟨w.heap.size,7,none⟩=some (.int .u64 (m.prio:Int)):=dS 7;clear dS;go_simp);with_reducible rfl)
 generalize hd:Oper.dst _=dd
 obtain rfl:some 18=dd:=hd
 simp only[Act.put,aF,aG,aH]
 refine dO (i:=16) (v:=?_) rfl ⟨by rfl,?_⟩ ?_
 rotate_left
 ·((intro q dS;clear dS;go_simp);with_reducible rfl)
 generalize hd:Oper.dst _=dd
 obtain rfl:some 19=dd:=hd
 simp only[Act.put,aF,aG,aH]
 refine dO (i:=17) (v:=?_) rfl ⟨by rfl,?_⟩ ?_
 rotate_left
 ·((intro q dS;have hc:q.cell? ⟨w.heap.size,8,none⟩=some (.int .u64 (m.dead:Int)):=dS 8;clear dS;go_simp);with_reducible rfl)
 generalize hd:Oper.dst _=dd
 obtain rfl:some 20=dd:=hd
 simp only[Act.put,aF,aG,aH]
 refine dO (i:=18) (v:=?_) rfl ⟨by rfl,?_⟩ ?_
 rotate_left
 ·((intro q dS;clear dS;go_simp);with_reducible rfl)
 generalize hd:Oper.dst _=dd
 obtain rfl:some 21=dd:=hd
 simp only[Act.put,aF,aG,aH]
 refine dO (i:=19) (v:=?_) rfl ⟨by rfl,?_⟩ ?_
 rotate_left
 ·((intro q dS;have hc:q.cell? ⟨w.heap.size,9,none⟩=some (.int .u64 (m.retry:Int)):=dS 9;clear dS;go_simp);with_reducible rfl)
 generalize hd:Oper.dst _=dd
 obtain rfl:some 22=dd:=hd
 simp only[Act.put,aF,aG,aH]
 refine dO (i:=20) (v:=?_) rfl ⟨by rfl,?_⟩ ?_
 rotate_left
 ·((intro q dS;clear dS;go_simp);with_reducible rfl)
 generalize hd:Oper.dst _=dd
 obtain rfl:some 23=dd:=hd
 simp only[Act.put,aF,aG,aH]
 refine dO (i:=21) (v:=?_) rfl ⟨by rfl,?_⟩ ?_
 rotate_left
 ·((intro q dS;have hc:q.cell? ⟨w.heap.size,10,none⟩=some (.int .u64 (m.epoch:Int)):=dS 10;clear dS;go_simp);with_reducible rfl)
 generalize hd:Oper.dst _=dd
 obtain rfl:some 24=dd:=hd
 simp only[Act.put,aF,aG,aH]
 refine dO (i:=22) (v:=?_) rfl ⟨by rfl,?_⟩ ?_
 rotate_left
 ·((intro q dS;clear dS;go_simp);with_reducible rfl)
 generalize hd:Oper.dst _=dd
 obtain rfl:some 25=dd:=hd
 simp only[Act.put,aF,aG,aH]
 refine dO (i:=23) (v:=?_) rfl ⟨by rfl,?_⟩ ?_
 rotate_left
 ·((intro q dS;have hc:q.cell? ⟨w.heap.size,11,none⟩=some (.int .u64 (m.base:Int)):=dS 11;clear dS;go_simp);with_reducible rfl)
 generalize hd:Oper.dst _=dd
 obtain rfl:some 26=dd:=hd
 simp only[Act.put,aF,aG,aH]
 refine dO (i:=24) (v:=?_) rfl ⟨by rfl,?_⟩ ?_
 rotate_left
 ·((intro q dS;clear dS;go_simp);with_reducible rfl)
 generalize hd:Oper.dst _=dd
 obtain rfl:some 27=dd:=hd
 simp only[Act.put,aF,aG,aH]
 refine dO (i:=25) (v:=?_) rfl ⟨by rfl,?_⟩ ?_
 rotate_left
 ·((intro q dS;have hc:q.cell? ⟨w.heap.size,12,none⟩=some (.int .u64 (m.digest:Int)):=dS 12;clear dS;go_simp);with_reducible rfl)
 generalize hd:Oper.dst _=dd
 obtain rfl:some 28=dd:=hd
 simp only[Act.put,aF,aG,aH]
 refine dO (i:=26) (v:=?_) rfl ⟨by rfl,?_⟩ ?_
 rotate_left
 ·((intro q dS;clear dS;go_simp);with_reducible rfl)
 generalize hd:Oper.dst _=dd
 obtain rfl:some 29=dd:=hd
 simp only[Act.put,aF,aG,aH]
 refine dO (i:=27) (v:=?_) rfl ⟨by rfl,?_⟩ ?_
 rotate_left
 ·((intro q dS;have hc:q.cell? ⟨w.heap.size,13,none⟩=some (.int .u64 (m.lag:Int)):=dS 13;clear dS;go_simp);with_reducible rfl)
 generalize hd:Oper.dst _=dd
 obtain rfl:some 30=dd:=hd
 simp only[Act.put,aF,aG,aH]
 refine dO (i:=28) (v:=?_) rfl ⟨by rfl,?_⟩ ?_
 rotate_left
 ·((intro q dS;clear dS;go_simp);with_reducible rfl)
 generalize hd:Oper.dst _=dd
 obtain rfl:some 31=dd:=hd
 simp only[Act.put,aF,aG,aH]
 refine dO (i:=29) (v:=?_) rfl ⟨by rfl,?_⟩ ?_
 rotate_left
 ·((intro q dS;have hc:q.cell? ⟨w.heap.size,14,none⟩=some (.int .u64 (m.code:Int)):=dS 14;clear dS;go_simp);with_reducible rfl)
 generalize hd:Oper.dst _=dd
 obtain rfl:some 32=dd:=hd
 simp only[Act.put,aF,aG,aH]
 refine dO (i:=30) (v:=?_) rfl ⟨by rfl,?_⟩ ?_
 rotate_left
 ·((intro q dS;clear dS;go_simp);with_reducible rfl)
 generalize hd:Oper.dst _=dd
 obtain rfl:some 33=dd:=hd
 simp only[Act.put,aF,aG,aH]
 refine dO (i:=31) (v:=?_) rfl ⟨by rfl,?_⟩ ?_
 rotate_left
 ·((intro q dS;have hc:q.cell? ⟨w.heap.size,15,none⟩=some (.int .u64 (m.want:Int)):=dS 15;clear dS;go_simp);with_reducible rfl)
 generalize hd:Oper.dst _=dd
 obtain rfl:some 34=dd:=hd
 simp only[Act.put,aF,aG,aH]
 refine dO (i:=32) (v:=?_) rfl ⟨by rfl,?_⟩ ?_
 rotate_left
 ·((intro q dS;clear dS;go_simp);with_reducible rfl)
 generalize hd:Oper.dst _=dd
 obtain rfl:some 35=dd:=hd
 simp only[Act.put,aF,aG,aH]
 refine dO (i:=33) (v:=?_) rfl ⟨by rfl,?_⟩ ?_
 rotate_left
 ·((intro q dS;have hc:q.cell? ⟨w.heap.size,16,none⟩=some (.int .i64 m.rem):=dS 16;clear dS;go_simp);with_reducible rfl)
 generalize hd:Oper.dst _=dd
 obtain rfl:some 36=dd:=hd
 simp only[Act.put,aF,aG,aH]
 refine dO (i:=34) (v:=?_) rfl ⟨by rfl,?_⟩ ?_
 rotate_left
 ·((intro q dS;clear dS;go_simp);with_reducible rfl)
 generalize hd:Oper.dst _=dd
 obtain rfl:some 37=dd:=hd
 simp only[Act.put,aF,aG,aH]
 refine dO (i:=35) (v:=?_) rfl ⟨by rfl,?_⟩ ?_
 rotate_left
 ·((intro q dS;have hc:q.cell? ⟨w.heap.size,17,none⟩=some (.bool m.al):=dS 17;clear dS;go_simp);with_reducible rfl)
 generalize hd:Oper.dst _=dd
 obtain rfl:some 38=dd:=hd
 simp only[Act.put,aF,aG,aH]
 refine dO (i:=36) (v:=?_) rfl ⟨by rfl,?_⟩ ?_
 rotate_left
 ·((intro q dS;clear dS;go_simp);with_reducible rfl)
 generalize hd:Oper.dst _=dd
 obtain rfl:some 39=dd:=hd
 simp only[Act.put,aF,aG,aH]
 refine dO (i:=37) (v:=?_) rfl ⟨by rfl,?_⟩ ?_
 rotate_left
 ·((intro q dS;have hc:q.cell? ⟨w.heap.size,18,none⟩=some (.string (txt m.nm)):=dS 18;clear dS;go_simp);with_reducible rfl)
 generalize hd:Oper.dst _=dd
 obtain rfl:some 40=dd:=hd
 simp only[Act.put,aF,aG,aH]
 refine dO (i:=38) (v:=?_) rfl ⟨by rfl,?_⟩ ?_
 rotate_left
 ·((intro q dS;clear dS;go_simp);with_reducible rfl)
 generalize hd:Oper.dst _=dd
 obtain rfl:some 41=dd:=hd
 simp only[Act.put,aF,aG,aH]
 refine dO (i:=39) (v:=?_) rfl ⟨by rfl,?_⟩ ?_
 rotate_left
 ·((intro q dS;have hc:q.cell? ⟨w.heap.size,19,none⟩=some (.string (txt m.rg)):=dS 19;clear dS;go_simp);with_reducible rfl)
 generalize hd:Oper.dst _=dd
 obtain rfl:some 42=dd:=hd
 simp only[Act.put,aF,aG,aH]
 refine dO (i:=40) (v:=?_) rfl ⟨by rfl,?_⟩ ?_
 rotate_left
 ·((intro q dS;clear dS;go_simp);with_reducible rfl)
 generalize hd:Oper.dst _=dd
 obtain rfl:some 43=dd:=hd
 simp only[Act.put,aF,aG,aH]
 refine dO (i:=41) (v:=?_) rfl ⟨by rfl,?_⟩ ?_
 rotate_left
 ·((intro q dS;have hc:q.cell? ⟨w.heap.size,20,none⟩=some (.string (txt m.nt)):=dS 20;clear dS;go_simp);with_reducible rfl)
 generalize hd:Oper.dst _=dd
 obtain rfl:some 44=dd:=hd
 simp only[Act.put,aF,aG,aH]
 refine dO (i:=42) (v:=?_) rfl ⟨by rfl,?_⟩ ?_
 rotate_left
 ·((intro q dS;clear dS;go_simp);with_reducible rfl)
 generalize hd:Oper.dst _=dd
 obtain rfl:some 45=dd:=hd
 simp only[Act.put,aF,aG,aH]
 refine dO (i:=43) (v:=?_) rfl ⟨by rfl,?_⟩ ?_
 rotate_left
 ·((intro q dS;have hc:q.cell? ⟨w.heap.size,21,none⟩=some (.slice dA m.d.length dc):=dS 21;clear dS;go_simp);with_reducible rfl)
 generalize hd:Oper.dst _=dd
 obtain rfl:some 46=dd:=hd
 simp only[Act.put,aF,aG,aH]
 refine dO (i:=45) (v:=?_) rfl ⟨by rfl,?_⟩ ?_
 rotate_left
 ·((intro q dS;clear dS;go_simp);with_reducible rfl)
 generalize hd:Oper.dst _=dd
 obtain rfl:some 48=dd:=hd
 simp only[Act.put,aF,aG,aH]
 refine dO (i:=46) (v:=?_) rfl ⟨by rfl,?_⟩ ?_
 rotate_left
 ·((intro q dS;have hc:q.cell? ⟨w.heap.size,22,none⟩=some (.slice tA m.t.length tc):=dS 22;clear dS;go_simp);with_reducible rfl)
 generalize hd:Oper.dst _=dd
 obtain rfl:some 49=dd:=hd
 simp only[Act.put,aF,aG,aH]
 refine dO (i:=48) (v:=?_) rfl ⟨by rfl,?_⟩ ?_
 rotate_left
 ·((intro q dS;clear dS;go_simp);with_reducible rfl)
 generalize hd:Oper.dst _=dd
 obtain rfl:some 51=dd:=hd
 simp only[Act.put,aF,aG,aH]
 refine dO (i:=49) (v:=?_) rfl ⟨by rfl,?_⟩ ?_
 rotate_left
 ·((intro q dS;have hc:q.cell? ⟨w.heap.size,23,none⟩=some (.slice rA m.rest.len rc):=dS 23;clear dS;go_simp);with_reducible rfl)
 generalize hd:Oper.dst _=dd
 obtain rfl:some 52=dd:=hd
 simp only[Act.put,aF,aG,aH]
 clear hHeld
 refine wpAnyH_ready (rs:=[44]) (by kernel_rfl) (by simp) ?_
 refine dP rfl fun K hK=>?_
 go_simp
 refine(gK.out _ HB0.out).mono ?_
 rintro e W1 ⟨A1,c1,rfl,hs,hb⟩
 have Dz:=ah (hs.imp (J:=fun q=>w.heap.size+1<q) fun q _ hq=>aQ HZ0.out.lt hq)
 have K1:=ah hb
 have HB1:=ah (bb HB0.out hb)
 have gQ:=ah (xC.out.below hb xC.out.lt)
 have HZ1:=ah (HZ0.out.below hb HZ0.out.lt)
 clear hs hb
 go_simp
 refine hK.out _ _ (fun j=>gQ.out.cell j) (fun _=>?_)
 clear hK K
 refine wpAnyH_ready (rs:=[47]) (by kernel_rfl) (by simp) ?_
 refine dP rfl fun K hK=>?_
 go_simp
 refine(HC2.out _ HB1.out).mono ?_
 rintro e W2 ⟨v2,rfl,hs,hb⟩
 have HS2:=ah (hs.mono (C:=w.heap.size+2) HZ1.out.lt)
 have K2:=ah hb
 have HB2:=ah (bb HB1.out hb)
 have jK:=ah (gQ.out.below hb gQ.out.lt)
 have HZ2:=ah (HZ1.out.below hb HZ1.out.lt)
 clear hs hb
 go_simp
 refine hK.out _ _ (fun j=>jK.out.cell j) (fun _=>?_)
 clear hK K
 refine wpAnyH_ready (rs:=[50]) (by kernel_rfl) (by simp) ?_
 refine dP rfl fun K hK=>?_
 go_simp
 refine(nS.out _ HB2.out).mono ?_
 rintro e W3 ⟨A3,c3,rfl,hs,hb⟩
 have QS:=ah (hs.imp (J:=fun q=>w.heap.size+1<q) fun q hq=>aQ HZ2.out.lt hq)
 have K3:=ah hb
 have HB3:=ah (bb HB2.out hb)
 have AZ:=ah (jK.out.below hb jK.out.lt)
 have HZ3:=ah (HZ2.out.below hb HZ2.out.lt)
 clear hs hb
 go_simp
 refine hK.out _ _ (fun j=>AZ.out.cell j) (fun _=>?_)
 clear hK K
 obtain⟨A2,c2,hv2⟩:∃A2 c2,v2=.slice A2 m.t.length c2:=by
  obtain⟨l2,A2,c2,h1,h2,_⟩:=HS2.out;exact⟨A2,c2,by rw[h1,h2,aY]⟩
 subst hv2
 refine wpAnyH_take (i:=51) (v:=.agg (dR m (.slice A1 m.d.length c1) (.slice A2 m.t.length c2) (.slice A3 m.rest.len c3))) rfl (by kernel_rfl) (by kernel_rfl) (by kernel_rfl) (fun _ _ _ h=>h) (Or.inl ⟨by rfl,?_⟩) (fun j=>AZ.out.cell j) ?_
 ·intro q dS
  kernel_rfl
 generalize hd:Oper.dst _=dd
 obtain rfl:some 54=dd:=hd
 simp only[Act.put,aF,aG,aH]
 refine wpAnyH_ready (rs:=[52]) (by kernel_rfl) (by simp) ?_
 refine dP rfl fun K hK=>?_
 refine wp_store_mid 68 (.tmp 2) (.tmp 54) rfl (w.heap.size+1) 0 (dR m (.slice A1 m.d.length c1) (.slice A2 m.t.length c2) (.slice A3 m.rest.len c3)) rfl rfl (fun j hj=>by rw[aX];exact⟨by rw[HZ3.out.cell j,Array.getElem?_eq_getElem (show j<fF.size from hj)];rfl,HZ3.out.free j⟩) (tu _ _ _ _) sF ?_
 have hs:=mD W3 (w.heap.size+1) (dR m (.slice A1 m.d.length c1) (.slice A2 m.t.length c2) (.slice A3 m.rest.len c3))
 have hz:=ny (ds:=dR m (.slice A1 m.d.length c1) (.slice A2 m.t.length c2) (.slice A3 m.rest.len c3)) HZ3.out rfl
 show K _ (World.jM W3 (w.heap.size+1) (dR m (.slice A1 m.d.length c1) (.slice A2 m.t.length c2) (.slice A3 m.rest.len c3)))
 generalize World.jM W3 (w.heap.size+1) (dR m (.slice A1 m.d.length c1) (.slice A2 m.t.length c2) (.slice A3 m.rest.len c3))=w9 at hs hz⊢
 generalize hd:Oper.dst _=dd
 obtain rfl:none=dd:=hd
 simp only[Act.put]
 refine hK.out _ _ (fun j=>(AZ.out.fE hs (by omega)).cell j) (fun _=>?_)
 clear hK K
 refine wpAnyH_done (by kernel_rfl) ?_ _
 have h1:gJ w9 (fun q=>w.heap.size+1<q) ⟨m.d,A1,c1,0⟩:=(Dz.out.below (bb K2.out K3.out)).fE hs fun q hq e=>by omega
 have h3:eF w9 (fun q=>w.heap.size+1<q) (.slice A3 m.rest.len c3) m.rest:=QS.out.fE hs fun q hq e=>by omega
 have h2:=(HS2.out.below K3.out).fE hs fun q hq e=>by omega
 have h4:Below w.heap.size w w9:=HB3.out.trans (hs.iI HB3.out.size fun g hg e=>by omega)
 have h5:gU w9 (fun _=>True) m (.slice A1 m.d.length c1) (.slice A2 m.t.length c2) (.slice A3 m.rest.len c3):=⟨⟨A1,c1,rfl,h1.1,h1.2.imp fun _ _ _=>trivial⟩,by obtain⟨l2,A5,c5,k1,k2,k3,k4,k5,_⟩:=h2;exact⟨l2,A5,c5,k1,k2,k3,fun r hr=>(k4 r hr).imp fun _ _ _=>trivial,k5⟩,h3.imp fun _ _=>trivial⟩
 clear h1 h2 h3 hs
 have HE:=ah (And.intro h5 h4)
 have HZ9:=ah hz
 clear hz h5 h4
 go_wp2_with fail
 refine bodyPost_ret (v:=.agg (dR m (.slice A1 m.d.length c1) (.slice A2 m.t.length c2) (.slice A3 m.rest.len c3))) (by exact results_cell_row rfl _ _ (w.heap.size+1) 68 _ (0,0) _ rfl HZ9.out underlying68 rfl (tu _ _ _ _)) rfl ?_
 exact⟨_,_,_,rfl,HE.out.1,HE.out.2⟩
def oD(w:World)(m:Mp)(i:Nat)(e:Ending)(w':World):Prop:=e=.returned (.tuple #[.int .u64 ((m.val i).field.1:Int),.string (txt (m.val i).field.2)])∧Below w.heap.size w w'
theorem tX{I:Nat→Prop}{m:Mp}{dv tv rv:Value}(i:Nat)(hi:i<22)(hu:gy i=0)(w:World)(hv:gU w I m dv tv rv):Calls prog 67 #[.agg (dR m dv tv rv),.string (txt (dW i))] w (oD w m i):=by
 have HQ:Hid (∀(n:Nat) (s:List UInt8) w',(m.val i).field=(n,s)→Below w.heap.size w w'→oD w m i (.returned (.tuple #[.int .u64 (n:Int),.string (txt s)])) w'):=fun n s w' h hb=>⟨by rw[h],hb⟩;have HU:=ah (fun x=>Ht i hi x);rw[hu]at HU;have HF:Hid ((m.val i).field=((m.val i).field.1,[])):=by
  have:=(Td (m.val i)).1 (by rw[Mp.CB,hu];omega);exact Prod.ext rfl this
 have HN:=ah (fun(dA tA rA:Option Addr) (dn dc tn tc rn rc:Nat) x=>alZ m dA tA rA dn dc tn tc rn rc x i hi hu);clear hu hi;generalize(m.val i).field.1=fn at *;generalize oD w m i=Q at *;generalize txt (dW i)=nm at *;obtain⟨dA,dc,tA,tc,rA,rc,rfl,rfl,rfl⟩:=hv.slices;obtain⟨wz,hwz,-,HM,fC⟩:=lM w 68 (dR m (.slice dA m.d.length dc) (.slice tA m.t.length tc) (.slice rA m.rest.len rc));have HV:=ah (hv.below fC.out);clear hv;simp only[dR]at hwz;unfold dR;go_enter func67,ntmps67;go_wp2_with fail;rw[← hwz];refine(HU.out _).mono ?_;rintro e w1 ⟨rfl,hb1⟩;have HB1:=ah (bb fC.out hb1);have gQ:=ah (HM.out.below hb1 HM.out.lt);clear hb1 HU HM fC HV hwz
 go_wp2_with
  (with_reducible show wpList _ _ _ (Oper.mk _ (Op.load 68 _) _ _ _ _::_) _ _;apply pin)
 refine nN rfl _ _ rfl _ rfl _ gQ.out underlying68 rfl (tu m _ _ _) ?_;go_wp2_with fail;refine(HN.out _ _ _ _ _ _ _ _ _ _).mono ?_;rintro e w2 ⟨rfl,hb2⟩;have HB2:=ah (bb HB1.out hb2);clear hb2 HB1 gQ HN;go_wp2_with fail;exact HQ.out fn [] _ HF.out HB2.out
theorem amm{I:Nat→Prop}{m:Mp}{dv tv rv:Value}(w:World)(hv:gU w I m dv tv rv):Calls prog 67 #[.agg (dR m dv tv rv),.string (txt (dW 0))] w (oD w m 0):=by
 have HQ:Hid (∀(n:Nat) (s:List UInt8) w',(m.val 0).field=(n,s)→Below w.heap.size w w'→oD w m 0 (.returned (.tuple #[.int .u64 (n:Int),.string (txt s)])) w'):=fun n s w' h hb=>⟨by rw[h],hb⟩;have HU:Hid (∀x,Calls prog 115 #[.string (txt (dW 0))] x (aj x (.int .i64 1))):=fun x=>Ht 0 (by decide) x;generalize oD w m 0=Q at *;generalize txt (dW 0)=nm at *;obtain⟨dA,dc,tA,tc,rA,rc,rfl,rfl,rfl⟩:=hv.slices;obtain⟨wz,hwz,-,HM,fC⟩:=lM w 68 (dR m (.slice dA m.d.length dc) (.slice tA m.t.length tc) (.slice rA m.rest.len rc));have HV:=ah (hv.below fC.out);clear hv;simp only[dR]at hwz;unfold dR;go_enter func67,ntmps67;go_wp2_with fail;rw[← hwz];refine(HU.out _).mono ?_;rintro e w1 ⟨rfl,hb1⟩;have HB1:=ah (bb fC.out hb1);have gQ:=ah (HM.out.below hb1 HM.out.lt)
 have ku:=ah (HV.out.below hb1);have hlt1:=gQ.out.lt;clear hb1 HU HM fC HV hwz;have c17:w1.cell? ⟨w.heap.size,17,none⟩=some (.bool m.al):=gQ.out.cell 17;have HA:Hid ((m.val 0).field=(if m.al then 1 else 0,[])):=rfl;clear gQ ku;cases hal:m.al with
 |true=>
   rw[hal]at HA c17;clear hal;go_wp2_with fail;exact HQ.out 1 [] _ HA.out HB1.out
 |false=>
   rw[hal]at HA c17;clear hal;go_wp2_with fail;exact HQ.out 0 [] _ HA.out HB1.out
theorem amn{I:Nat→Prop}{m:Mp}{dv tv rv:Value}(w:World)(hv:gU w I m dv tv rv)(hz:iK m.rem):Calls prog 67 #[.agg (dR m dv tv rv),.string (txt (dW 18))] w (oD w m 18):=by
 have HQ:Hid (∀(n:Nat) (s:List UInt8) w',(m.val 18).field=(n,s)→Below w.heap.size w w'→oD w m 18 (.returned (.tuple #[.int .u64 (n:Int),.string (txt s)])) w'):=fun n s w' h hb=>⟨by rw[h],hb⟩;have HU:Hid (∀x,Calls prog 115 #[.string (txt (dW 18))] x (aj x (.int .i64 2))):=fun x=>Ht 18 (by decide) x;have wI:=ah (fun x=>alC m.rem x hz);have HA:Hid ((m.val 18).field=(nP m.rem,[])):=rfl;clear hz;generalize nP m.rem=zm at *;generalize oD w m 18=Q at *;generalize txt (dW 18)=nm at *;obtain⟨dA,dc,tA,tc,rA,rc,rfl,rfl,rfl⟩:=hv.slices;obtain⟨wz,hwz,-,HM,fC⟩:=lM w 68 (dR m (.slice dA m.d.length dc) (.slice tA m.t.length tc) (.slice rA m.rest.len rc));have HV:=ah (hv.below fC.out);clear hv;simp only[dR]at hwz;unfold dR;go_enter func67,ntmps67;go_wp2_with fail;rw[← hwz]
 refine(HU.out _).mono ?_;rintro e w1 ⟨rfl,hb1⟩;have HB1:=ah (bb fC.out hb1);have gQ:=ah (HM.out.below hb1 HM.out.lt);have ku:=ah (HV.out.below hb1);have hlt1:=gQ.out.lt;clear hb1 HU HM fC HV hwz;have c16:w1.cell? ⟨w.heap.size,16,none⟩=some (.int .i64 m.rem):=gQ.out.cell 16;clear gQ ku;go_wp2_with fail;refine(wI.out _).mono ?_;rintro e w2 ⟨rfl,hb2⟩;have HB2:=ah (bb HB1.out hb2);clear hb2 HB1 wI c16;go_wp2_with fail;exact HQ.out zm [] _ HA.out HB2.out
theorem VJ{I:Nat→Prop}{m:Mp}{dv tv rv:Value}(i:Nat)(hi:i<22)(hu:gy i=3)(w:World)(hv:gU w I m dv tv rv):Calls prog 67 #[.agg (dR m dv tv rv),.string (txt (dW i))] w (oD w m i):=by
 have HQ:Hid (∀(n:Nat) (s:List UInt8) w',(m.val i).field=(n,s)→Below w.heap.size w w'→oD w m i (.returned (.tuple #[.int .u64 (n:Int),.string (txt s)])) w'):=fun n s w' h hb=>⟨by rw[h],hb⟩;have HU:Hid (∀x,Calls prog 115 #[.string (txt (dW i))] x (aj x (.int .i64 3))):=fun x=>by
  have:=Ht i hi x;rw[hu]at this;exact this
 have HF:Hid ((m.val i).field=(0,(m.val i).field.2)):=by
  have:=(Td (m.val i)).2 (by rw[Mp.CB,hu];omega);exact Prod.ext this rfl
 have HN:=ah (fun(dA tA rA:Option Addr) (dn dc tn tc rn rc:Nat) x=>ac3 m dA tA rA dn dc tn tc rn rc x i hi hu);clear hu hi;generalize(m.val i).field.2=fs at *;generalize oD w m i=Q at *;generalize txt (dW i)=nm at *;obtain⟨dA,dc,tA,tc,rA,rc,rfl,rfl,rfl⟩:=hv.slices;obtain⟨wz,hwz,-,HM,fC⟩:=lM w 68 (dR m (.slice dA m.d.length dc) (.slice tA m.t.length tc) (.slice rA m.rest.len rc));have HV:=ah (hv.below fC.out);clear hv;simp only[dR]at hwz;unfold dR;go_enter func67,ntmps67;go_wp2_with fail;rw[← hwz];refine(HU.out _).mono ?_;rintro e w1 ⟨rfl,hb1⟩;have HB1:=ah (bb fC.out hb1);have gQ:=ah (HM.out.below hb1 HM.out.lt);have ku:=ah (HV.out.below hb1);have hlt1:=gQ.out.lt;clear hb1 HU HM fC HV hwz;clear ku
 go_wp2_with
  (with_reducible show wpList _ _ _ (Oper.mk _ (Op.load 68 _) _ _ _ _::_) _ _;apply pin)
 refine nN rfl _ _ rfl _ rfl _ gQ.out underlying68 rfl (tu m _ _ _) ?_;go_wp2_with fail;refine(HN.out _ _ _ _ _ _ _ _ _ _).mono ?_;rintro e w2 ⟨rfl,hb2⟩;have HB2:=ah (bb HB1.out hb2);clear hb2 HB1 gQ HN;go_wp2_with fail;exact HQ.out 0 fs _ HF.out HB2.out
theorem amo{I:Nat→Prop}{m:Mp}{dv tv rv:Value}(w:World)(hv:gU w I m dv tv rv)(hm:(m.val 6).may=0):Calls prog 67 #[.agg (dR m dv tv rv),.string (txt (dW 6))] w (oD w m 6):=by
 have HQ:Hid (∀(n:Nat) (s:List UInt8) w',(m.val 6).field=(n,s)→Below w.heap.size w w'→oD w m 6 (.returned (.tuple #[.int .u64 (n:Int),.string (txt s)])) w'):=fun n s w' h hb=>⟨by rw[h],hb⟩;have HU:Hid (∀x,Calls prog 115 #[.string (txt (dW 6))] x (aj x (.int .i64 4))):=fun x=>Ht 6 (by decide) x;have HA:Hid ((m.val 6).field=(0,if m.d=[]then[]else eG m.d)):=rfl;have rM:=ah (Kq hm);have HVV:=ah hv;clear hm;generalize oD w m 6=Q at *;generalize txt (dW 6)=nm at *;obtain⟨dA,dc,tA,tc,rA,rc,rfl,rfl,rfl⟩:=hv.slices;obtain⟨wz,hwz,-,HM,fC⟩:=lM w 68 (dR m (.slice dA m.d.length dc) (.slice tA m.t.length tc) (.slice rA m.rest.len rc));have HV:=ah (hv.below fC.out);clear hv;simp only[dR]at hwz;unfold dR;go_enter func67,ntmps67;go_wp2_with fail;rw[← hwz];refine(HU.out _).mono ?_
 rintro e w1 ⟨rfl,hb1⟩;have HB1:=ah (bb fC.out hb1);have gQ:=ah (HM.out.below hb1 HM.out.lt);have ku:=ah (HV.out.below hb1);have hlt1:=gQ.out.lt;clear hb1 HU HM fC HV hwz;have c21:w1.cell? ⟨w.heap.size,21,none⟩=some (.slice dA m.d.length dc):=gQ.out.cell 21;obtain⟨⟨A',c',e1,_,hrd⟩,_⟩:=ku.out;injection e1 with e1 _ e3;subst e1 e3;have jq:=ah hrd.rd;clear gQ ku hrd HVV;by_cases hd:m.d=[]
 ·have ha:=HA.out
  rw[aA hd]at ha;have HA2:=ah ha;rw[hd]at c21;simp only[cO]at c21;clear ha HA rM jq hd;go_wp2_with fail;exact HQ.out 0 [] _ HA2.out HB1.out
 have ha:=HA.out;rw[ay hd]at ha;have HA2:=ah ha;have h0:0<m.d.length:=List.length_pos_iff.2 hd;have h0i:(0:Int)<(m.d.length:Int):=by omega
 have HK:Hid (∀x,Below w1.heap.size w1 x→Calls prog 118 #[.slice dA m.d.length dc] x (aj x (.string (txt (eG m.d))))):=fun x hx=>Kz dA dc m.d x (jq.out.below hx) (rM.out.resolve_left hd);clear ha HA rM jq hd;generalize eG m.d=KY at *;generalize m.d.length=dl at *;go_wp2_with fail;refine(HK.out _ b0).mono ?_;rintro e w2 ⟨rfl,hb2⟩;have HB2:=ah (bb HB1.out hb2);clear hb2 HB1 HK;go_wp2_with fail;exact HQ.out 0 KY _ HA2.out HB2.out
theorem amq{I:Nat→Prop}{m:Mp}{dv tv rv:Value}(w:World)(hv:gU w I m dv tv rv)(hz:∀r∈m.t,lg r.1∧r.1.length≤9223372036854775807)(hn:∀r∈m.t,r.2<18446744073709551616)(hl:m.t.length≤9223372036854775807):Calls prog 67 #[.agg (dR m dv tv rv),.string (txt (dW 20))] w (oD w m 20):=by
 have HQ:Hid (∀(n:Nat) (s:List UInt8) w',(m.val 20).field=(n,s)→Below w.heap.size w w'→oD w m 20 (.returned (.tuple #[.int .u64 (n:Int),.string (txt s)])) w'):=fun n s w' h hb=>⟨by rw[h],hb⟩;have HU:Hid (∀x,Calls prog 115 #[.string (txt (dW 20))] x (aj x (.int .i64 5))):=fun x=>Ht 20 (by decide) x;have HA:Hid ((m.val 20).field=(0,if m.t=[]then[]else(oV dV m.t).1)):=rfl;have HZ:=ah hz;have jh:=ah hn;clear hz hn;generalize oD w m 20=Q at *;generalize txt (dW 20)=nm at *;obtain⟨dA,dc,tA,tc,rA,rc,rfl,rfl,rfl⟩:=hv.slices;obtain⟨wz,hwz,-,HM,fC⟩:=lM w 68 (dR m (.slice dA m.d.length dc) (.slice tA m.t.length tc) (.slice rA m.rest.len rc));have HV:=ah (hv.below fC.out);clear hv;simp only[dR]at hwz;unfold dR;go_enter func67,ntmps67;go_wp2_with fail;rw[← hwz]
 refine(HU.out _).mono ?_;rintro e w1 ⟨rfl,hb1⟩;have HB1:=ah (bb fC.out hb1);have gQ:=ah (HM.out.below hb1 HM.out.lt);have ku:=ah (HV.out.below hb1);have hlt1:=gQ.out.lt;clear hb1 HU HM fC HV hwz;have MV:w1.cell? ⟨w.heap.size,22,none⟩=some (.slice tA m.t.length tc):=gQ.out.cell 22;obtain⟨_,⟨l,A',c',e1,et,hrd,hro,_⟩,_⟩:=ku.out;injection e1 with e1 e2 e3;subst e1 e3;have jq:=ah hrd;have qX:=ah hro;have Io:=ah et;have HE2:=ah e2;clear gQ ku hrd hro et e2;by_cases hd:m.t=[]
 ·have ha:=HA.out
  rw[aA hd]at ha;have HA2:=ah ha;rw[hd]at MV;simp only[cO]at MV;clear ha HA jq qX Io HE2 hd;go_wp2_with fail;exact HQ.out 0 [] _ HA2.out HB1.out
 have ha:=HA.out;rw[ay hd]at ha;have HA2:=ah ha;have h0:0<m.t.length:=List.length_pos_iff.2 hd;have h0i:(0:Int)<(m.t.length:Int):=by omega
 have HK:Hid (∀x,Below w1.heap.size w1 x→Calls prog 119 #[.slice tA m.t.length tc] x (aj x (.tuple #[.string (txt (oV dV m.t).1),.int .i64 (oV dV m.t).2]))):=fun x hx=>by
  have:=al1 tA tc l I x (jq.out.below hx) (fun r hr=>(qX.out r hr).below hx) (fun r hr=>HZ.out r.rw (by rw[Io.out];exact List.mem_map_of_mem hr)) (fun r hr=>jh.out r.rw (by rw[Io.out];exact List.mem_map_of_mem hr)) (by rw[← HE2.out];exact hl);rw[← Io.out,← HE2.out]at this;exact this
 clear ha HA jq qX Io HE2 hd HZ jh hl;generalize oV dV m.t=PK at *;obtain⟨PS,PE⟩:=PK;simp only at HK HA2;generalize m.t.length=tl at *;go_wp2_with fail;refine(HK.out _ b0).mono ?_;rintro e w2 ⟨rfl,hb2⟩;have HB2:=ah (bb HB1.out hb2);clear hb2 HB1 HK;go_wp2_with fail;exact HQ.out 0 PS _ HA2.out HB2.out
