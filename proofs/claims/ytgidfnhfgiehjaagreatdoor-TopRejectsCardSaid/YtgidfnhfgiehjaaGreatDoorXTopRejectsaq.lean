/-
  Texts of the proof, joined: Msg2 NamesP Names MsgS. Conditions: as each names.
-/
import Derived.Test.YtgidfnhfgiehjaaGreatDoorXTopRejectsae
import Derived.Test.YtgidfnhfgiehjaaGreatDoorXTopRejectsao
import Derived.Test.YtgidfnhfgiehjaaGreatDoorXTopRejectsap
import Derived.Test.YtgidfnhfgiehjaaGreatDoorXTopRejectsab
import Derived.Lib.SlicesCompact
import Derived.Test.YtgidfnhfgiehjaaGreatDoorXTopRejectsaf
import Derived.Test.YtgidfnhfgiehjaaGreatDoorXTopRejectsah
import Derived.Sort.OwnSorted
import Derived.Deep.MidRow
import Derived.Laws.ResultCell
import Derived.Laws.Rows

section
namespace Go.Proofs.YtgidfnhfgiehjaaGreatDoor
open Go.RowKit Go.PM
set_option maxRecDepth 100000
set_option maxHeartbeats 4000000
attribute [local go_sem ↓] Go.wp_at_zero Go.wp_at_succ
theorem eq0_nat (n:Nat):((n:Int) == 0)=decide (n=0):=by rw [Bool.eq_iff_iff];simp
theorem eq0_int (n:Int):(n == 0)=decide (n=0):=by rw [Bool.eq_iff_iff];simp
theorem eq0_str (s:List UInt8):(txt s).toList.isEmpty=decide (s=[]):=by rw [ByteArray.toList_eq,Bool.eq_iff_iff];simp [txt]
theorem as_yes (u:Nat) (x:World) (v:Value):(Instr.typeAssert (.iface (ptrT u) v) 20 (ptrT u) true).run Tryz.prog x=.ok (.tuple #[v,.bool true]) x:=by
 unfold ptrT
 split <;> kernel_rfl
theorem as_no10 (x:World) (v:Value):(Instr.typeAssert (.iface (ptrT 1) v) 20 (ptrT 0) true).run Tryz.prog x=.ok (.tuple #[.pointer none,.bool false]) x:=by kernel_rfl
theorem as_no20 (x:World) (v:Value):(Instr.typeAssert (.iface (ptrT 2) v) 20 (ptrT 0) true).run Tryz.prog x=.ok (.tuple #[.pointer none,.bool false]) x:=by kernel_rfl
theorem as_no21 (x:World) (v:Value):(Instr.typeAssert (.iface (ptrT 2) v) 20 (ptrT 1) true).run Tryz.prog x=.ok (.tuple #[.pointer none,.bool false]) x:=by kernel_rfl
theorem as_no30 (x:World) (v:Value):(Instr.typeAssert (.iface (ptrT 3) v) 20 (ptrT 0) true).run Tryz.prog x=.ok (.tuple #[.pointer none,.bool false]) x:=by kernel_rfl
theorem as_no31 (x:World) (v:Value):(Instr.typeAssert (.iface (ptrT 3) v) 20 (ptrT 1) true).run Tryz.prog x=.ok (.tuple #[.pointer none,.bool false]) x:=by kernel_rfl
theorem as_no32 (x:World) (v:Value):(Instr.typeAssert (.iface (ptrT 3) v) 20 (ptrT 2) true).run Tryz.prog x=.ok (.tuple #[.pointer none,.bool false]) x:=by kernel_rfl
theorem as_no40 (x:World) (v:Value):(Instr.typeAssert (.iface (ptrT 4) v) 20 (ptrT 0) true).run Tryz.prog x=.ok (.tuple #[.pointer none,.bool false]) x:=by kernel_rfl
theorem as_no41 (x:World) (v:Value):(Instr.typeAssert (.iface (ptrT 4) v) 20 (ptrT 1) true).run Tryz.prog x=.ok (.tuple #[.pointer none,.bool false]) x:=by kernel_rfl
theorem as_no42 (x:World) (v:Value):(Instr.typeAssert (.iface (ptrT 4) v) 20 (ptrT 2) true).run Tryz.prog x=.ok (.tuple #[.pointer none,.bool false]) x:=by kernel_rfl
theorem as_no43 (x:World) (v:Value):(Instr.typeAssert (.iface (ptrT 4) v) 20 (ptrT 3) true).run Tryz.prog x=.ok (.tuple #[.pointer none,.bool false]) x:=by kernel_rfl
theorem as_no50 (x:World) (v:Value):(Instr.typeAssert (.iface (ptrT 5) v) 20 (ptrT 0) true).run Tryz.prog x=.ok (.tuple #[.pointer none,.bool false]) x:=by kernel_rfl
theorem as_no51 (x:World) (v:Value):(Instr.typeAssert (.iface (ptrT 5) v) 20 (ptrT 1) true).run Tryz.prog x=.ok (.tuple #[.pointer none,.bool false]) x:=by kernel_rfl
theorem as_no52 (x:World) (v:Value):(Instr.typeAssert (.iface (ptrT 5) v) 20 (ptrT 2) true).run Tryz.prog x=.ok (.tuple #[.pointer none,.bool false]) x:=by kernel_rfl
theorem as_no53 (x:World) (v:Value):(Instr.typeAssert (.iface (ptrT 5) v) 20 (ptrT 3) true).run Tryz.prog x=.ok (.tuple #[.pointer none,.bool false]) x:=by kernel_rfl
theorem as_no54 (x:World) (v:Value):(Instr.typeAssert (.iface (ptrT 5) v) 20 (ptrT 4) true).run Tryz.prog x=.ok (.tuple #[.pointer none,.bool false]) x:=by kernel_rfl
theorem use18_0 (v:Value) (w:World):Calls Tryz.prog 138 #[.iface (ptrT 0) v] w fun e w' => e=.returned (.tuple #[.int .i64 0,.bool true])∧Below w.heap.size w w':=by
 have y0:=as_yes 0
 simp only [ptrT] at *
 go_enter Tryz.func138,Tryz.ntmps138
 go_wp2_with fail
 go_ret2
 exact ⟨rfl,b0⟩
theorem use18_1 (v:Value) (w:World):Calls Tryz.prog 138 #[.iface (ptrT 1) v] w fun e w' => e=.returned (.tuple #[.int .i64 1,.bool true])∧Below w.heap.size w w':=by
 have y1:=as_yes 1
 have n0:=as_no10
 simp only [ptrT] at *
 go_enter Tryz.func138,Tryz.ntmps138
 go_wp2_with fail
 go_ret2
 exact ⟨rfl,b0⟩
theorem use18_2 (v:Value) (w:World):Calls Tryz.prog 138 #[.iface (ptrT 2) v] w fun e w' => e=.returned (.tuple #[.int .i64 2,.bool true])∧Below w.heap.size w w':=by
 have y2:=as_yes 2
 have n0:=as_no20
 have n1:=as_no21
 simp only [ptrT] at *
 go_enter Tryz.func138,Tryz.ntmps138
 go_wp2_with fail
 go_ret2
 exact ⟨rfl,b0⟩
theorem use18_3 (v:Value) (w:World):Calls Tryz.prog 138 #[.iface (ptrT 3) v] w fun e w' => e=.returned (.tuple #[.int .i64 3,.bool true])∧Below w.heap.size w w':=by
 have y3:=as_yes 3
 have n0:=as_no30
 have n1:=as_no31
 have n2:=as_no32
 simp only [ptrT] at *
 go_enter Tryz.func138,Tryz.ntmps138
 go_wp2_with fail
 go_ret2
 exact ⟨rfl,b0⟩
theorem use18_4 (v:Value) (w:World):Calls Tryz.prog 138 #[.iface (ptrT 4) v] w fun e w' => e=.returned (.tuple #[.int .i64 4,.bool true])∧Below w.heap.size w w':=by
 have y4:=as_yes 4
 have n0:=as_no40
 have n1:=as_no41
 have n2:=as_no42
 have n3:=as_no43
 simp only [ptrT] at *
 go_enter Tryz.func138,Tryz.ntmps138
 go_wp2_with fail
 go_ret2
 exact ⟨rfl,b0⟩
theorem use18_5 (v:Value) (w:World):Calls Tryz.prog 138 #[.iface (ptrT 5) v] w fun e w' => e=.returned (.tuple #[.int .i64 5,.bool true])∧Below w.heap.size w w':=by
 have y5:=as_yes 5
 have n0:=as_no50
 have n1:=as_no51
 have n2:=as_no52
 have n3:=as_no53
 have n4:=as_no54
 simp only [ptrT] at *
 go_enter Tryz.func138,Tryz.ntmps138
 go_wp2_with fail
 go_ret2
 exact ⟨rfl,b0⟩
theorem nothing18_0 (q:Addr) (n:Nat) (w:World) (hc:w.cell? q=some (.int .u64 (n:Int))):Calls Tryz.prog 84 #[.iface (ptrT 0) (.pointer (some q))] w fun e w' => e=.returned (.bool (decide (n=0)))∧Below w.heap.size w w':=by
 have y0:=as_yes 0
 simp only [ptrT] at *
 go_enter Tryz.func84,Tryz.ntmps84
 go_wp2_with fail
 go_ret
 exact ⟨congrArg (fun x => Ending.returned (.bool x)) (eq0_nat n),b0⟩
theorem nothing18_1 (q:Addr) (b:Bool) (w:World) (hc:w.cell? q=some (.bool b)):Calls Tryz.prog 84 #[.iface (ptrT 1) (.pointer (some q))] w fun e w' => e=.returned (.bool (!b))∧Below w.heap.size w w':=by
 have y1:=as_yes 1
 have n0:=as_no10
 simp only [ptrT] at *
 go_enter Tryz.func84,Tryz.ntmps84
 go_wp2_with fail
 go_ret
 exact ⟨congrArg (fun x => Ending.returned (.bool x)) (rfl),b0⟩
theorem nothing18_2 (q:Addr) (z:Int) (w:World) (hc:w.cell? q=some (.int .i64 z)):Calls Tryz.prog 84 #[.iface (ptrT 2) (.pointer (some q))] w fun e w' => e=.returned (.bool (decide (z=0)))∧Below w.heap.size w w':=by
 have y2:=as_yes 2
 have n0:=as_no20
 have n1:=as_no21
 simp only [ptrT] at *
 go_enter Tryz.func84,Tryz.ntmps84
 go_wp2_with fail
 go_ret
 exact ⟨congrArg (fun x => Ending.returned (.bool x)) (eq0_int z),b0⟩
theorem nothing18_3 (q:Addr) (s:List UInt8) (w:World) (hc:w.cell? q=some (.string (txt s))):Calls Tryz.prog 84 #[.iface (ptrT 3) (.pointer (some q))] w fun e w' => e=.returned (.bool (decide (s=[])))∧Below w.heap.size w w':=by
 have y3:=as_yes 3
 have n0:=as_no30
 have n1:=as_no31
 have n2:=as_no32
 simp only [ptrT] at *
 go_enter Tryz.func84,Tryz.ntmps84
 go_wp2_with fail
 go_ret
 exact ⟨congrArg (fun x => Ending.returned (.bool x)) (eq0_str s),b0⟩
theorem nothing18_4 (q:Addr) (A:Option Addr) (n c:Nat) (w:World) (hc:w.cell? q=some (.slice A n c)):Calls Tryz.prog 84 #[.iface (ptrT 4) (.pointer (some q))] w fun e w' => e=.returned (.bool (decide (n=0)))∧Below w.heap.size w w':=by
 have y4:=as_yes 4
 have n0:=as_no40
 have n1:=as_no41
 have n2:=as_no42
 have n3:=as_no43
 simp only [ptrT] at *
 go_enter Tryz.func84,Tryz.ntmps84
 go_wp2_with fail
 go_ret
 exact ⟨congrArg (fun x => Ending.returned (.bool x)) (eq0_nat n),b0⟩
theorem nothing18_5 (q:Addr) (A:Option Addr) (n c:Nat) (w:World) (hc:w.cell? q=some (.slice A n c)):Calls Tryz.prog 84 #[.iface (ptrT 5) (.pointer (some q))] w fun e w' => e=.returned (.bool (decide (n=0)))∧Below w.heap.size w w':=by
 have y5:=as_yes 5
 have n0:=as_no50
 have n1:=as_no51
 have n2:=as_no52
 have n3:=as_no53
 have n4:=as_no54
 simp only [ptrT] at *
 go_enter Tryz.func84,Tryz.ntmps84
 go_wp2_with fail
 go_ret
 exact ⟨congrArg (fun x => Ending.returned (.bool x)) (eq0_nat n),b0⟩
def MgV (w:World) (I:Nat→Prop) (m:Mp) (dv tv rv:Value):Prop:=(∃ A c,dv=.slice A m.d.length c∧m.d.length≤c∧RdI w I A m.d)∧TbV w I tv m.t∧SlV w I rv m.rest
structure Msz (m:Mp):Prop where
 good:m.good
 kind:InI64 m.kind
 nm:m.nm.length≤9223372036854775807
 rg:m.rg.length≤9223372036854775807
 nt:m.nt.length≤9223372036854775807
 d:ESz m.d
 dl:m.d.length≤9223372036854775807
 t:∀ r ∈ m.t,ESz r.1∧r.1.length≤9223372036854775807
 tl:m.t.length≤9223372036854775807
 rest:m.rest.count≤900000
 restL:(ftx m.rest).length≤100000000
theorem MgV.below {w w':World} {I:Nat→Prop} {m:Mp} {dv tv rv:Value} (h:MgV w I m dv tv rv) (hb:Below w.heap.size w w'):MgV w' I m dv tv rv:=by
 obtain ⟨⟨A,c,h1,h2,h3⟩,h4,h5⟩:=h
 exact ⟨⟨A,c,h1,h2,h3.below hb⟩,h4.below hb,h5.below hb⟩
theorem MgV.slices {w:World} {I:Nat→Prop} {m:Mp} {dv tv rv:Value} (h:MgV w I m dv tv rv):∃ dA dc tA tc rA rc,dv=.slice dA m.d.length dc∧tv=.slice tA m.t.length tc∧rv=.slice rA m.rest.len rc:=by
 obtain ⟨⟨A,c,h1,h2,h3⟩,⟨l,tA,tc,rfl,e,_⟩,⟨rA,rc,rfl,_⟩⟩:=h
 exact ⟨A,c,tA,tc,rA,rc,h1,by rw [e,List.length_map],rfl⟩
def MsAt (w:World) (b:Nat) (m:Mp) (dv tv rv:Value):Prop:=BlkAt w b 35 (mvs m dv tv rv)
theorem MsAt.cell {w:World} {b:Nat} {m:Mp} {dv tv rv:Value} (h:MsAt w b m dv tv rv) {i:Nat} (hi:i < 22):w.cell? ⟨b,cellIx i,none⟩=some (mvv m dv tv i):=by
 have:=BlkAt.cell h (cellIx i)
 rw [this,mvs_at m dv tv rv i hi]
theorem nothing_any {b:Nat} {I:Nat→Prop} {m:Mp} {dv tv rv:Value} (w:World) (h:MsAt w b m dv tv rv) (hv:MgV w I m dv tv rv):∀ i,i < 22→Calls Tryz.prog 84 #[plc b i] w fun e w' => e=.returned (.bool (m.val i).nothing)∧Below w.heap.size w w':=by
 obtain ⟨dA,dc,tA,tc,rA,rc,rfl,rfl,rfl⟩:=hv.slices
 have hc:=fun i (hi:i < 22) => h.cell hi
 have e4:∀ d:List Ent,decide (d.length=0)=decide (d=[]):=fun d => by cases d <;> simp
 have e5:∀ d:List Rw,decide (d.length=0)=decide (d=[]):=fun d => by cases d <;> simp
 refine cases22 ?_ ?_ ?_ ?_ ?_ ?_ ?_ ?_ ?_ ?_ ?_ ?_ ?_ ?_ ?_ ?_ ?_ ?_ ?_ ?_ ?_ ?_
 · exact nothing18_1 _ _ w (hc 0 (by decide))
 · exact nothing18_0 _ _ w (hc 1 (by decide))
 · exact nothing18_0 _ _ w (hc 2 (by decide))
 · exact nothing18_0 _ _ w (hc 3 (by decide))
 · exact nothing18_0 _ _ w (hc 4 (by decide))
 · exact nothing18_0 _ _ w (hc 5 (by decide))
 · exact (nothing18_4 _ dA m.d.length dc w (hc 6 (by decide))).mono fun e w' ⟨h1,h2⟩ => ⟨by rw [h1,e4];rfl,h2⟩
 · exact nothing18_0 _ _ w (hc 7 (by decide))
 · exact nothing18_0 _ _ w (hc 8 (by decide))
 · exact nothing18_0 _ _ w (hc 9 (by decide))
 · exact nothing18_0 _ _ w (hc 10 (by decide))
 · exact nothing18_0 _ _ w (hc 11 (by decide))
 · exact nothing18_0 _ _ w (hc 12 (by decide))
 · exact nothing18_0 _ _ w (hc 13 (by decide))
 · exact nothing18_3 _ _ w (hc 14 (by decide))
 · exact nothing18_3 _ _ w (hc 15 (by decide))
 · exact nothing18_0 _ _ w (hc 16 (by decide))
 · exact nothing18_3 _ _ w (hc 17 (by decide))
 · exact nothing18_2 _ _ w (hc 18 (by decide))
 · exact nothing18_0 _ _ w (hc 19 (by decide))
 · exact (nothing18_5 _ tA m.t.length tc w (hc 20 (by decide))).mono fun e w' ⟨h1,h2⟩ => ⟨by rw [h1,e5];rfl,h2⟩
 · exact nothing18_0 _ _ w (hc 21 (by decide))
theorem may18_0 (q:Addr) (w:World):Calls Tryz.prog 85 #[.iface (ptrT 0) (.pointer (some q))] w fun e w' => e=.returned (.int .i64 0)∧Below w.heap.size w w':=by
 have n3:∀ (x:World) (v:Value),(Instr.typeAssert (.iface (ptrT 0) v) 20 (ptrT 3) true).run Tryz.prog x=.ok (.tuple #[.pointer none,.bool false]) x:=fun x v => by kernel_rfl
 have n4:∀ (x:World) (v:Value),(Instr.typeAssert (.iface (ptrT 0) v) 20 (ptrT 4) true).run Tryz.prog x=.ok (.tuple #[.pointer none,.bool false]) x:=fun x v => by kernel_rfl
 have n5:∀ (x:World) (v:Value),(Instr.typeAssert (.iface (ptrT 0) v) 20 (ptrT 5) true).run Tryz.prog x=.ok (.tuple #[.pointer none,.bool false]) x:=fun x v => by kernel_rfl
 simp only [ptrT] at *
 go_enter Tryz.func85,Tryz.ntmps85
 go_wp2_with fail
 go_ret
 exact ⟨rfl,b0⟩
theorem may18_1 (q:Addr) (w:World):Calls Tryz.prog 85 #[.iface (ptrT 1) (.pointer (some q))] w fun e w' => e=.returned (.int .i64 0)∧Below w.heap.size w w':=by
 have n3:∀ (x:World) (v:Value),(Instr.typeAssert (.iface (ptrT 1) v) 20 (ptrT 3) true).run Tryz.prog x=.ok (.tuple #[.pointer none,.bool false]) x:=fun x v => by kernel_rfl
 have n4:∀ (x:World) (v:Value),(Instr.typeAssert (.iface (ptrT 1) v) 20 (ptrT 4) true).run Tryz.prog x=.ok (.tuple #[.pointer none,.bool false]) x:=fun x v => by kernel_rfl
 have n5:∀ (x:World) (v:Value),(Instr.typeAssert (.iface (ptrT 1) v) 20 (ptrT 5) true).run Tryz.prog x=.ok (.tuple #[.pointer none,.bool false]) x:=fun x v => by kernel_rfl
 simp only [ptrT] at *
 go_enter Tryz.func85,Tryz.ntmps85
 go_wp2_with fail
 go_ret
 exact ⟨rfl,b0⟩
theorem may18_2 (q:Addr) (w:World):Calls Tryz.prog 85 #[.iface (ptrT 2) (.pointer (some q))] w fun e w' => e=.returned (.int .i64 0)∧Below w.heap.size w w':=by
 have n3:∀ (x:World) (v:Value),(Instr.typeAssert (.iface (ptrT 2) v) 20 (ptrT 3) true).run Tryz.prog x=.ok (.tuple #[.pointer none,.bool false]) x:=fun x v => by kernel_rfl
 have n4:∀ (x:World) (v:Value),(Instr.typeAssert (.iface (ptrT 2) v) 20 (ptrT 4) true).run Tryz.prog x=.ok (.tuple #[.pointer none,.bool false]) x:=fun x v => by kernel_rfl
 have n5:∀ (x:World) (v:Value),(Instr.typeAssert (.iface (ptrT 2) v) 20 (ptrT 5) true).run Tryz.prog x=.ok (.tuple #[.pointer none,.bool false]) x:=fun x v => by kernel_rfl
 simp only [ptrT] at *
 go_enter Tryz.func85,Tryz.ntmps85
 go_wp2_with fail
 go_ret
 exact ⟨rfl,b0⟩
theorem may18_3 (q:Addr) (s:List UInt8) (w:World) (hc:w.cell? q=some (.string (txt s))) (hs:s.length≤9223372036854775807) (hT:Tabs w):Calls Tryz.prog 85 #[.iface (ptrT 3) (.pointer (some q))] w fun e w' => e=.returned (.int .i64 (uchk s 0 256))∧Below w.heap.size w w':=by
 have y3:=as_yes 3
 have HC:=Lib.hid (ucheck_any (txt s) 0 256 w (by simpa [txt,ByteArray.size] using hs) hT)
 simp only [ptrT] at *
 go_enter Tryz.func85,Tryz.ntmps85
 go_wp2_with fail
 refine HC.out.mono ?_
 rintro e w1 ⟨rfl,hb1⟩
 have HB:=Lib.hid hb1
 clear hb1
 go_wp2_with fail
 go_ret
 exact ⟨by simp [txt],HB.out⟩
theorem may18_4 (q:Addr) (A:Option Addr) (c:Nat) (d:List Ent) (w:World) (hc:w.cell? q=some (.slice A d.length c)) (hr:Rd w A (ents d)) (hz:ESz d) (hl:d.length≤9223372036854775807) (hT:Tabs w) :
 Calls Tryz.prog 85 #[.iface (ptrT 4) (.pointer (some q))] w fun e w' => e=.returned (.int .i64 (if d=[] then 0 else dchk echk d))∧Below w.heap.size w w':=by
 have y4:=as_yes 4
 have n3:=as_no43
 have HC:=Lib.hid (check12_any A c d w hr hz hl hT)
 simp only [ptrT] at *
 by_cases hd:d=[]
 · subst hd
   go_enter Tryz.func85,Tryz.ntmps85
   go_wp2_with fail
   go_ret
   exact ⟨rfl,b0⟩
 · have h0:0 < d.length:=List.length_pos_iff.2 hd
   rw [if_neg hd]
   go_enter Tryz.func85,Tryz.ntmps85
   go_wp2_with fail
   refine HC.out.mono ?_
   rintro e w1 ⟨rfl,hb1⟩
   have HB:=Lib.hid hb1
   clear hb1
   go_wp2_with fail
   go_ret
   exact ⟨rfl,HB.out⟩
theorem may18_5 (q:Addr) (A:Option Addr) (c:Nat) (l:List Rv) (I:Nat→Prop) (w:World) (hc:w.cell? q=some (.slice A l.length c)) (hr:Rd w A (rvs l)) (ho:∀ r ∈ l,RvOk w I r) (hz:∀ r ∈ l,ESz r.d∧r.d.length≤9223372036854775807) (hl:l.length≤9223372036854775807) (hT:Tabs w) :
 Calls Tryz.prog 85 #[.iface (ptrT 5) (.pointer (some q))] w fun e w' => e=.returned (.int .i64 (tchk echk (l.map Rv.rw)))∧Below w.heap.size w w':=by
 have y5:=as_yes 5
 have n3:=as_no53
 have n4:=as_no54
 have HC:=Lib.hid (tcheck_any A c l I w hr ho hz hl hT)
 clear hr ho hz
 generalize tchk echk (l.map Rv.rw)=E at *
 simp only [ptrT] at *
 go_enter Tryz.func85,Tryz.ntmps85
 go_wp2_with fail
 refine HC.out.mono ?_
 rintro e w1 ⟨rfl,hb1⟩
 have HB:=Lib.hid hb1
 clear hb1
 go_wp2_with fail
 go_ret
 exact ⟨rfl,HB.out⟩
theorem may_any {b:Nat} {I:Nat→Prop} {m:Mp} {dv tv rv:Value} (w:World) (h:MsAt w b m dv tv rv) (hv:MgV w I m dv tv rv) (hz:Msz m) (hT:Tabs w):∀ i,i < 22→Calls Tryz.prog 85 #[plc b i] w fun e w' => e=.returned (.int .i64 (m.val i).may)∧Below w.heap.size w w':=by
 obtain ⟨⟨dA,dc,rfl,hdc,hd⟩,⟨l,tA,tc,rfl,et,htr,hto,htc⟩,hrs⟩:=hv
 have hR:Calls Tryz.prog 85 #[plc b 20] w fun e w' => e=.returned (.int .i64 (m.val 20).may)∧Below w.heap.size w w':=by
  have hr:=may18_5 ⟨b,cellIx 20,none⟩ tA tc l I w (h.cell (i:=20) (by decide)) htr hto (fun r hr => hz.t r.rw (by rw [et];exact List.mem_map_of_mem hr)) (by have:=hz.tl;rw [et,List.length_map] at this;exact this) hT
  rw [← et] at hr
  exact hr
 refine cases22 ?_ ?_ ?_ ?_ ?_ ?_ ?_ ?_ ?_ ?_ ?_ ?_ ?_ ?_ ?_ ?_ ?_ ?_ ?_ ?_ ?_ ?_
 · exact may18_1 _ w
 · exact may18_0 _ w
 · exact may18_0 _ w
 · exact may18_0 _ w
 · exact may18_0 _ w
 · exact may18_0 _ w
 · exact may18_4 _ dA dc m.d w (h.cell (i:=6) (by decide)) hd.rd hz.d hz.dl hT
 · exact may18_0 _ w
 · exact may18_0 _ w
 · exact may18_0 _ w
 · exact may18_0 _ w
 · exact may18_0 _ w
 · exact may18_0 _ w
 · exact may18_0 _ w
 · exact may18_3 _ m.nm w (h.cell (i:=14) (by decide)) hz.nm hT
 · exact may18_3 _ m.nt w (h.cell (i:=15) (by decide)) hz.nt hT
 · exact may18_0 _ w
 · exact may18_3 _ m.rg w (h.cell (i:=17) (by decide)) hz.rg hT
 · exact may18_2 _ w
 · exact may18_0 _ w
 · exact hR
 · exact may18_0 _ w
theorem bounds18 {I:Nat→Prop} {m:Mp} {dv tv rv:Value} (w:World) (hv:MgV w I m dv tv rv):Calls Tryz.prog 86 #[.agg (mvs m dv tv rv)] w fun e w' => e=.returned (.int .i64 m.bounds)∧Below w.heap.size w w':=by
 obtain ⟨dA,dc,tA,tc,rA,rc,rfl,rfl,rfl⟩:=hv.slices
 have HB:=Lib.hid (ba (a:=w) b0 (.cells (mvs m (.slice dA m.d.length dc) (.slice tA m.t.length tc) (.slice rA m.rest.len rc)) 35))
 clear hv
 simp only [mvs] at HB ⊢
 go_enter Tryz.func86,Tryz.ntmps86
 go_wp2_with fail
 all_goals go_ret
 all_goals refine ⟨congrArg (fun x => Ending.returned (.int .i64 x)) ?_,HB.out⟩
 all_goals (clear HB;unfold Mp.bounds)
 all_goals (simp_all)
 all_goals (try omega)
end Go.Proofs.YtgidfnhfgiehjaaGreatDoor
end

section
namespace Go.PM
def kallUp:Nat→List (List UInt8)
 | 0 => []
 | k+1 => kallUp k++(kspecs (k+1)).map Sp.nm
def kall:List (List UInt8):=kallUp 8
def ksorted:List (List UInt8):=[0,1,2,3,4,5,6,7,7,8,8,8,8,9,10,10,11,12,13,14,14,15,15,16,17,17,17,17,18,19,20,20,21].map nmAt
theorem knsort:kall.mergeSort (fun x y => decide (x≤y))=ksorted:=by
 refine List.Perm.eq_of_pairwise (le:=fun x y:List UInt8 => decide (x≤y)=true) (fun a b _ _ h1 h2 => List.le_antisymm (by simpa using h1) (by simpa using h2)) ?_ ?_ ?_
 · exact List.pairwise_mergeSort (fun a b c h1 h2 => by simp only [decide_eq_true_eq] at *;exact List.le_trans h1 h2) (fun a b => by simp only [Bool.or_eq_true,decide_eq_true_eq];exact List.le_total a b) kall
 · decide
 · refine (List.mergeSort_perm _ _).trans ?_
   decide
theorem kcompact:Lib.compact ksorted=mnames:=by decide
end Go.PM
end

section
namespace Go.Proofs.YtgidfnhfgiehjaaGreatDoor
open Go.RowKit Go.PM Go.Sort
set_option maxRecDepth 100000
set_option maxHeartbeats 4000000
attribute [local go_sem ↓] Go.wp_at_zero Go.wp_at_succ
def nmv (l:List (List UInt8)):List Value:=l.map fun s => .string (txt s)
theorem nmv_app (l m:List (List UInt8)):nmv (l++m)=nmv l++nmv m:=by simp [nmv]
theorem nmv_enc (l:List (List UInt8)):nmv l=l.map encStr:=rfl
theorem rd_left {w:World} {A:Option Addr} {xs ys:List Value} (h:Rd w A (xs++ys)):Rd w A xs:=by
 rcases h with h | ⟨b,off,e,hb,hc⟩
 · left
   rw [List.append_eq_nil_iff] at h
   exact h.1
 · refine .inr ⟨b,off,e,hb,fun j u hj => hc j u ?_⟩
   rw [List.getElem?_append_left (by by_cases h:j < xs.length;exact h;rw [List.getElem?_eq_none (by omega)] at hj;cases hj)]
   exact hj
theorem sort_str (B:Nat) (v:Value) (l:List (List UInt8)) (w:World) (h:w.ownsRow B 9 1 v l.length (nmv l)) (h0:0 < l.length) (hl:l.length≤1000000) :
 Calls Tryz.prog 99 #[v] w fun e w' => e=.returned (.tuple #[])∧w'.ownsRow B 9 1 v l.length (nmv (l.mergeSort fun x y => decide (x≤y)))∧w.grownBy w' v.ownBlock:=by
 rcases h.2 with ⟨rfl,h0'⟩ | ⟨g,cap,cur,rfl,hbase,hb,h1,h2,h3,h4⟩
 · omega
 · have hgl:g < w.heap.size:=(Array.getElem?_eq_some_iff.1 hb).1
   refine (Tryz.slices_Sort_string g 0 cap l w (holds_of_block hb (by rw [← nmv_enc];simpa using h4)) hgl (by omega)).mono fun e w' ⟨he,n,os,hw⟩ => ⟨he,?_,?_⟩
   · rw [hw,nmv_enc]
     exact ownsRow_sorted (w:=w) (n:=n) (os:=os) (ss:=l) (List.length_mergeSort _) hbase hb h1 h2 h3
   · rw [hw]
     exact grownBy_sorted _
theorem compact_str (B:Nat) (v:Value) (l m:List (List UInt8)) (w:World) (h:w.ownsRow B 9 1 v l.length (nmv l)) (h0:0 < l.length) (hl:l.length≤1000000) (hm:Lib.compact l=m) (hml:m.length≤l.length) :
 Calls Tryz.prog 100 #[v] w fun e w' => ∃ g c,e=.returned (.slice (some ⟨g,0,none⟩) m.length c)∧B≤g∧Rd w' (some ⟨g,0,none⟩) (nmv m)∧w.grownBy w' (some g):=by
 rcases h.2 with ⟨rfl,h0'⟩ | ⟨g,cap,cur,rfl,hbase,hb,h1,h2,h3,h4⟩
 · omega
 · refine (Tryz.slices_Compact_string g 0 cap l w (holds_of_block hb (by rw [← nmv_enc];simpa using h4)) (by omega) h1).mono fun e w' ⟨he,n,hw⟩ => ?_
   rw [hm] at he hw
   have hw':w'=grow (putRow encStr (Sort.ahead w n) g 0 (m++List.replicate (l.length - m.length) []).toArray) #[]:=by rw [hw,grow_empty]
   refine ⟨g,cap,he,hbase,?_,?_⟩
   · have ho:=ownsRow_sorted (w:=w) (base:=B) (n:=n) (os:=#[]) (ss:=l) (ts:=m++List.replicate (l.length - m.length) []) (by simp;omega) hbase hb h1 h2 h3
     rw [← hw'] at ho
     obtain ⟨A',c',e1,hrd,_⟩:=Rd.own ho
     injection e1 with e1
     rw [← e1,List.map_append] at hrd
     exact rd_left hrd
   · rw [hw']
     exact grownBy_sorted _
def NmAt (w:World) (l:List (List UInt8)) (vv:Value) (wr:World):Prop:=wr.ownsRow w.heap.size 9 1 vv l.length (nmv l)∧Below w.heap.size w wr
def NmInn (w:World) (bs:Nat) (L:List Sp) (l:List (List UInt8)) (vv:Value) (wr:World):Prop:=NmAt w l vv wr∧Rd wr (some ⟨bs,0,none⟩) (sps L)∧∀ q,vv.ownBlock=some q→q≠bs
theorem kallUp_len:∀ k,k≤8→(kallUp k).length≤33
 | 0,_ | 1,_ | 2,_ | 3,_ | 4,_ | 5,_ | 6,_ | 7,_ | 8,_ => by decide
 | n+9,h => absurd h (by omega)
theorem kspecs_len (k:Nat):(kspecs k).length≤5:=by
 unfold kspecs
 split <;> simp
def NmEnd (w:World) (e:Ending) (w':World):Prop:=∃ g c,e=.returned (.slice (some ⟨g,0,none⟩) 22 c)∧w.heap.size≤g∧Rd w' (some ⟨g,0,none⟩) (nmv mnames)∧Below w.heap.size w w'
theorem names18 (w:World):Calls Tryz.prog 57 #[] w (NmEnd w):=by
 obtain ⟨i0,hi0,hz0,hz1,hz2⟩:=info_parts info_str
 have H0:Hid (NmAt w (kallUp 0) (.slice none 0 0) w):=⟨World.ownsRow_nil _ _ _ _,b0⟩
 go_enter Tryz.func57,Tryz.ntmps57
 go_wp2_with fail
 go_loopg [1,2] 8 (fun gk vv ki wr => ∃ n:Nat,1≤n∧n≤9∧9 - n≤gk∧ki=.int .i64 (n:Int)∧Hid (NmAt w (kallUp (n - 1)) vv wr))
 case atStart => exact ⟨1,by omega,by omega,by omega,rfl,H0⟩
 case round =>
  obtain ⟨n,h1,hn,hgn,rfl,HS⟩:=hrel
  by_cases hlt:n≤8
  · clear H0
    go_wp2_with fail
    refine (specs17 n wr (by omega) (by omega)).mono ?_
    rintro e w2 ⟨bs,rfl,hbs,hrd,hb2⟩
    have HRD:=Lib.hid hrd
    have hst:kallUp n=kallUp (n - 1)++(kspecs n).map Sp.nm:=by
     obtain ⟨m,rfl⟩:∃ m,n=m+1:=⟨n - 1,by omega⟩
     rfl
    have HST:=Lib.hid hst
    have hl33:=kallUp_len (n - 1) (by omega)
    have hl5:=kspecs_len n
    generalize kspecs n=L at *
    generalize kallUp (n - 1)=K at *
    have HI:Hid (NmInn w bs L (K++(L.take 0).map Sp.nm) u1 w2):=by
     show NmInn w bs L (K++[]) u1 w2
     rw [List.append_nil]
     exact ⟨⟨own_below HS.out.1 hb2,bb HS.out.2 hb2⟩,hrd,fun q hq e => by have:=(HS.out.1.lt q hq).2;omega⟩
    clear hrd hb2 hst HS
    go_wp2_with fail
    go_loopg [1,12] L.length (fun gk vv ki wr => ∃ j:Nat,j≤L.length∧L.length - j≤gk∧ki=.int .i64 (j:Int)∧Hid (NmInn w bs L (K++(L.take j).map Sp.nm) vv wr))
    case atStart => exact ⟨0,Nat.zero_le _,by omega,rfl,HI⟩
    case round =>
     obtain ⟨j,hj,hgj,rfl,HO⟩:=hrel
     obtain ⟨⟨hown,hbel⟩,hrdj,hne⟩:=HO.out
     by_cases hltj:j < L.length
     · obtain ⟨b,off,hAe,hbl,c0,c1,c2,c3⟩:=rd_spec hrdj hltj
       injection hAe with hAe
       injection hAe with e1 e2
       subst e1 e2
       simp only [Nat.zero_add] at c0 c1 c2 c3
       have hstj:K++(L.take (j+1)).map Sp.nm=(K++(L.take j).map Sp.nm)++[L[j].nm]:=by
        rw [← List.take_append_getElem hltj,List.map_append,List.append_assoc]
        rfl
       have HSJ:=Lib.hid hstj
       have hlm:(K++(L.take j).map Sp.nm).length≤100:=by
        rw [List.length_append,List.length_map,List.length_take]
        omega
       generalize K++(L.take j).map Sp.nm=F at *
       generalize L[j]=s at *
       have hnew:=one_new (wr.alloc (.cells #[.int .u64 (s.tag:Int),.int .i64 (s.use:Int),.int .i64 (s.from_:Int),.string (txt s.nm)] 94)) (.string (txt s.nm)) 9
       simp only [World.size_alloc] at hnew
       have hwz:=hbel.size
       have HB2:=Lib.hid (ba (ba (a:=wr) b0 (.cells #[.int .u64 (s.tag:Int),.int .i64 (s.use:Int),.int .i64 (s.from_:Int),.string (txt s.nm)] 94)) (.cells #[.string (txt s.nm)] 9))
       have HOW:=Lib.hid hown
       clear hstj hown hbel hrdj hne HI
       go_wp2_with (at_builtin;go_must (refine wpList_append_lies _ rfl _ _ 50 rfl w.heap.size 9 i0 (.string ByteArray.empty) 1 16 Tryz.underlying50 hi0 hz0 hz1 hz2 rfl (by decide) _ _ _ rfl ((HOW.out.alloc _).alloc _) ⟨wr.heap.size+1,0,none⟩ 1 1 [.string (txt s.nm)] rfl rfl hnew (one_cell_str _) (by decide) (by unfold maxLen;omega) (by omega) (by simp;omega) (wr.heap.size+1+1) (by simp) ?_);intro g3 cap3 w3 hown3 hg3 hat3 hlt3)
       go_roundg (L.length - (j+1))
       case measure => omega
       case rel =>
        obtain ⟨⟨hown,hbel⟩,hrdj,hne⟩:=HO.out
        refine ⟨j+1,by omega,Nat.le_refl _,by go_num,?_⟩
        rw [HSJ.out]
        refine ⟨⟨by rw [List.length_append,nmv_app];exact hown3,(ba (ba hbel _) _).grown hg3 (ba (ba hbel _) _).size fun q hq => (hown.lt q hq).1⟩,(hrdj.below HB2.out).grown hg3 fun b off e e2 => ?_,fun q hq e2 => ?_⟩
        · injection e with e
          injection e with e
          exact hne b e2 e.symm
        · simp only [Value.ownBlock,Option.some.injEq] at hq
          rcases hat3 with h | h
          · exact hne _ h (hq.trans e2)
          · omega
     · obtain rfl:j=L.length:=by omega
       rw [List.take_of_length_le (Nat.le_refl _),← HST.out] at hown
       have HN:Hid (NmAt w (kallUp n) u1 wr):=⟨hown,hbel⟩
       clear hown hbel hrdj hne HO HI
       go_wp2_with fail
       go_roundg (9 - (n+1))
       case measure => omega
       case rel => exact ⟨n+1,by omega,by omega,Nat.le_refl _,by go_num,HN⟩
  · obtain rfl:n=9:=by omega
    have h:=HS.out
    have HS2:Hid (∀ x,x=kall→NmAt w x u1 wr):=fun x hx => by rw [hx];exact h
    have hso:=sort_str w.heap.size u1 kall wr h.1 (by decide) (by decide)
    rw [knsort] at hso
    have HSO:=Lib.hid hso
    have hlt9:=h.2
    have HBL:=Lib.hid hlt9
    clear h hso HS H0 hlt9 HS2
    go_wp2_with fail
    refine HSO.out.mono ?_
    rintro e w2 ⟨rfl,hown2,hg2⟩
    have hcm:=compact_str w.heap.size u1 ksorted mnames w2 hown2 (by decide) (by decide) kcompact (by decide)
    have HCM:=Lib.hid hcm
    have HB2:Hid (Below w.heap.size w w2):=HBL.out.grown hg2 HBL.out.size fun q hq => (hown2.lt q hq).1
    clear hown2 hg2 hcm HSO
    go_wp2_with fail
    refine HCM.out.mono ?_
    rintro e w3 ⟨g,c,rfl,hg,hrd,hg3⟩
    have HE:Hid (NmEnd w (.returned (.slice (some ⟨g,0,none⟩) 22 c)) w3):=⟨g,c,rfl,hg,hrd,HB2.out.grown hg3 HB2.out.size fun q hq => by injection hq with hq;omega⟩
    clear hrd hg3 hg HCM
    go_wp2_with fail
    go_ret
    exact HE.out
end Go.Proofs.YtgidfnhfgiehjaaGreatDoor
end

section
namespace Go.PM
open Go.RowKit
theorem blk_setCells {b:Nat} {t:TypeId}:∀ (vs:List Value) (o:Nat) (cs:Array Value) (w:World),BlkAt w b t cs→o+vs.length≤cs.size→BlkAt (w.setCells b o vs) b t (cs.toList.take o++vs++cs.toList.drop (o+vs.length)).toArray
 | [],o,cs,w,h,_ => by simpa [World.setCells] using h
 | v :: r,o,cs,w,h,hl => by
   rw [List.length_cons] at hl
   rw [World.setCells]
   have h1:=blk_setCells r (o+1) (cs.setIfInBounds o v) _ (h.put o v) (by rw [Array.size_setIfInBounds];omega)
   have ho:o < cs.toList.length:=by rw [Array.length_toList];omega
   have e:(cs.setIfInBounds o v).toList=cs.toList.take o++v :: cs.toList.drop (o+1):=by
    rw [Array.toList_setIfInBounds,List.set_eq_take_append_cons_drop,if_pos ho]
   have hlt:(cs.toList.take o).length=o:=by rw [List.length_take];omega
   rw [e] at h1
   have e1:(cs.toList.take o++v :: cs.toList.drop (o+1)).take (o+1)=cs.toList.take o++[v]:=by
    rw [List.take_append,hlt,List.take_of_length_le (by rw [hlt];omega),show o+1 - o=1 by omega]
    rfl
   have e2:(cs.toList.take o++v :: cs.toList.drop (o+1)).drop (o+1+r.length)=cs.toList.drop (o+(v :: r).length):=by
    rw [List.drop_append,hlt,List.drop_eq_nil_of_le (by rw [hlt];omega),List.nil_append,show o+1+r.length - o=r.length+1 by omega,List.drop_succ_cons,List.drop_drop]
    congr 1
    rw [List.length_cons]
    omega
   rw [e1,e2] at h1
   simpa using h1
def World.putAll (w:World) (b:Nat) (cs:Array Value):World:=w.setCells b 0 cs.toList
theorem putAll_at {w:World} {b:Nat} {t:TypeId} {cs ds:Array Value} (h:BlkAt w b t cs) (hs:cs.size=ds.size):BlkAt (World.putAll w b ds) b t ds:=by
 have h1:=blk_setCells ds.toList 0 cs w h (by rw [Array.length_toList];omega)
 rw [List.take_zero,List.nil_append,List.drop_eq_nil_of_le (by simp [hs]),List.append_nil] at h1
 have h2:BlkAt (w.setCells b 0 ds.toList) b t ds:=by simpa using h1
 exact h2
theorem setCells_tch {b:Nat} {S:Nat→Prop} (hS:S b) {a:World}:∀ (vs:List Value) (o:Nat) (w:World),Tch S a w→Tch S a (w.setCells b o vs)
 | [],_,_,h => h
 | v :: r,o,w,h => by
   rw [World.setCells]
   exact setCells_tch hS r (o+1) _ (h.put (fun _ => hS) v)
theorem putAll_tch (w:World) (b:Nat) (ds:Array Value):Tch (fun j => j=b) w (World.putAll w b ds):=setCells_tch (S:=fun j => j=b) rfl ds.toList 0 w (Tch.refl (fun j => j=b) w)
theorem results_blk_tmp {P:Program} {fn:Func} {p u:Tmp} {ty:TypeId} (h:fn.results=#[.cell p ty,.tmp u]) (tmps:Array Value) (w:World) (g:Nat) (t:TypeId) (cs:Array Value) (d:TypeDesc) (x:Value)
 (hp:tmps.getD p undef=.pointer (some ⟨g,0,none⟩)) (hg:BlkAt w g t cs) (hu:P.underlying ty=some d) (hd:(match d with | .struct _ | .array _ _ => true | _ => false)=true) (hi:(P.info? ty).map (·.size)=some cs.size) (hx:tmps.getD u undef=x) :
 (results fn tmps).run P w=.ok (.tuple #[.agg cs,x]) w:=by
 rw [results_cell_tmp h,hp]
 simp only [asAddr,Sem.run_pure,Result.andThen_ok,run_loadVar_row w g t ty cs (0,0) d hg hu hd hi,hx]
theorem wpList_load_blk {P:Program} {ops:Array Oper} {rest:List Oper} {op:Oper} {a:Act} {w:World} {Q:Exit→Act→World→Prop} (hgd:op.guard=none) (ty:TypeId) (x:Operand) (ho:op.op=.load ty x)
 (b:Nat) (hx:a.eval x=.pointer (some ⟨b,0,none⟩)) {t:TypeId} (cs:Array Value) (hc:BlkAt w b t cs) {d:TypeDesc}
 (hu:P.underlying ty=some d) (hd:d.isRow=true) (hi:(P.info? ty).map (·.size)=some cs.size)
 (h:wpList P ops Q rest (a.put op.dst (.agg cs)) w):wpList P ops Q (op :: rest) a w :=
 wpList_load_mid hgd ty x ho b 0 hx cs.toList d (fun j v hv => by rw [Nat.zero_add,hc.cell j,← Array.getElem?_toList];exact hv) hu hd (by rw [hi];simp) (by simpa using h)
theorem wpList_store_blk {P:Program} {ops:Array Oper} {rest:List Oper} {op:Oper} {a:Act} {w:World} {Q:Exit→Act→World→Prop} (hgd:op.guard=none) (ty:TypeId) (x y:Operand) (ho:op.op=.store ty x y)
 (b:Nat) (cells:Array Value) (hx:a.eval x=.pointer (some ⟨b,0,none⟩)) (hy:a.eval y=.agg cells) {t:TypeId} {cs:Array Value} (hc:BlkAt w b t cs) (hs:cs.size=cells.size)
 (hi:(P.info? ty).map (·.size)=some cells.size) (h1:cells.all (·.oneCell')=true)
 (h:wpList P ops Q rest (a.put op.dst undef) (World.putAll w b cells)):wpList P ops Q (op :: rest) a w :=
 wpList_store_mid hgd ty x y ho b 0 cells hx hy (fun j hj => by rw [Nat.zero_add];exact ⟨by rw [hc.cell j,Array.getElem?_eq_getElem (by omega)];rfl,hc.free j⟩) hi h1 h
end Go.PM
end
