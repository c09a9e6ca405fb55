/-
  Parts of the proof. Conditions: as each names.
-/
import Derived.Test.YtgidfnhfgiehjaaGreatDoorYau
import Derived.Test.YtgidfnhfgiehjaaGreatDoorYas
namespace Go.Proofs.YtgidfnhfgiehjaaGreatDoor
open Go.PM Go.RowKit Go.Proofs.Tryz
set_option maxRecDepth 100000
set_option maxHeartbeats 4000000
attribute [local go_sem ↓] Go.wp_at_zero Go.wp_at_succ
def fP:Nat→Nat
 |0=>17
 |1=>11
 |2=>4
 |3=>14
 |4=>6
 |5=>8
 |6=>21
 |7=>12
 |8=>10
 |9=>5
 |10=>1
 |11=>13
 |12=>3
 |13=>2
 |14=>18
 |15=>20
 |16=>7
 |17=>19
 |18=>16
 |19=>9
 |20=>22
 |21=>15
 |_=>0
def eY:Nat→TypeId
 |0=>159
 |1=>161
 |2=>162
 |3=>164
 |4=>166
 |_=>167
def gW(b i:Nat):Value:=.iface (eY (gy i)) (.pointer (some ⟨b,fP i,none⟩))
def dR(m:Mp)(dv tv rv:Value):Array Value:=#[.int .i64 m.kind,.int .u64 (m.id:Int),.int .u64 (m.min_:Int),.int .u64 (m.max_:Int),.int .u64 (m.chosen:Int),.int .u64 (m.flags:Int),.int .u64 (m.cost:Int),.int .u64 (m.prio:Int),.int .u64 (m.dead:Int),.int .u64 (m.retry:Int),.int .u64 (m.epoch:Int),.int .u64 (m.base:Int),.int .u64 (m.digest:Int),.int .u64 (m.lag:Int),.int .u64 (m.code:Int),.int .u64 (m.want:Int),.int .i64 m.rem,.bool m.al,.string (txt m.nm),.string (txt m.rg),.string (txt m.nt),dv,tv,rv]
def mV(m:Mp)(dv tv:Value)(i:Nat):Value:=match m.val i with
 |.num n=>.int .u64 (n:Int)
 |.flag b=>.bool b
 |.qG z=>.int .i64 z
 |.word s=>.string (txt s)
 |.of _=>dv
 |.rows _=>tv
theorem wS(m:Mp)(dv tv rv:Value):∀i,i<22→(dR m dv tv rv)[fP i]?=some (mV m dv tv i):=by
 refine kD ?_ ?_ ?_ ?_ ?_ ?_ ?_ ?_ ?_ ?_ ?_ ?_ ?_ ?_ ?_ ?_ ?_ ?_ ?_ ?_ ?_ ?_<;>rfl
theorem ajS(b:Nat)(w:World):Calls prog 103 #[.pointer (some ⟨b,0,none⟩),.string (txt (dW 1))] w (aj w (.pointer (some ⟨b,fP 1,none⟩))):=by
 have hs:(txt (dW 1)).toList=[98,97,115,101]:=by rw[ByteArray.toList_eq];rfl
 go_enter func103,ntmps103;go_wp2_with fail;go_ret;exact⟨rfl,b0⟩
theorem ajY(b:Nat)(w:World):Calls prog 103 #[.pointer (some ⟨b,0,none⟩),.string (txt (dW 2))] w (aj w (.pointer (some ⟨b,fP 2,none⟩))):=by
 have hs:(txt (dW 2)).toList=[99,104,111,115,101,110]:=by rw[ByteArray.toList_eq];rfl
 go_enter func103,ntmps103;go_wp2_with fail;go_ret;exact⟨rfl,b0⟩
theorem aj0(b:Nat)(w:World):Calls prog 103 #[.pointer (some ⟨b,0,none⟩),.string (txt (dW 3))] w (aj w (.pointer (some ⟨b,fP 3,none⟩))):=by
 have hs:(txt (dW 3)).toList=[99,111,100,101]:=by rw[ByteArray.toList_eq];rfl
 go_enter func103,ntmps103;go_wp2_with fail;go_ret;exact⟨rfl,b0⟩
theorem aj1(b:Nat)(w:World):Calls prog 103 #[.pointer (some ⟨b,0,none⟩),.string (txt (dW 4))] w (aj w (.pointer (some ⟨b,fP 4,none⟩))):=by
 have hs:(txt (dW 4)).toList=[99,111,115,116]:=by rw[ByteArray.toList_eq];rfl
 go_enter func103,ntmps103;go_wp2_with fail;go_ret;exact⟨rfl,b0⟩
theorem aj2(b:Nat)(w:World):Calls prog 103 #[.pointer (some ⟨b,0,none⟩),.string (txt (dW 5))] w (aj w (.pointer (some ⟨b,fP 5,none⟩))):=by
 have hs:(txt (dW 5)).toList=[100,101,97,100,108,105,110,101]:=by rw[ByteArray.toList_eq];rfl
 go_enter func103,ntmps103;go_wp2_with fail;go_ret;exact⟨rfl,b0⟩
theorem aj3(b:Nat)(w:World):Calls prog 103 #[.pointer (some ⟨b,0,none⟩),.string (txt (dW 7))] w (aj w (.pointer (some ⟨b,fP 7,none⟩))):=by
 have hs:(txt (dW 7)).toList=[100,105,103,101,115,116]:=by rw[ByteArray.toList_eq];rfl
 go_enter func103,ntmps103;go_wp2_with fail;go_ret;exact⟨rfl,b0⟩
theorem aj6(b:Nat)(w:World):Calls prog 103 #[.pointer (some ⟨b,0,none⟩),.string (txt (dW 8))] w (aj w (.pointer (some ⟨b,fP 8,none⟩))):=by
 have hs:(txt (dW 8)).toList=[101,112,111,99,104]:=by rw[ByteArray.toList_eq];rfl
 go_enter func103,ntmps103;go_wp2_with fail;go_ret;exact⟨rfl,b0⟩
theorem aj7(b:Nat)(w:World):Calls prog 103 #[.pointer (some ⟨b,0,none⟩),.string (txt (dW 9))] w (aj w (.pointer (some ⟨b,fP 9,none⟩))):=by
 have hs:(txt (dW 9)).toList=[102,108,97,103,115]:=by rw[ByteArray.toList_eq];rfl
 go_enter func103,ntmps103;go_wp2_with fail;go_ret;exact⟨rfl,b0⟩
theorem ajT(b:Nat)(w:World):Calls prog 103 #[.pointer (some ⟨b,0,none⟩),.string (txt (dW 10))] w (aj w (.pointer (some ⟨b,fP 10,none⟩))):=by
 have hs:(txt (dW 10)).toList=[105,100]:=by rw[ByteArray.toList_eq];rfl
 go_enter func103,ntmps103;go_wp2_with fail;go_ret;exact⟨rfl,b0⟩
theorem ajU(b:Nat)(w:World):Calls prog 103 #[.pointer (some ⟨b,0,none⟩),.string (txt (dW 11))] w (aj w (.pointer (some ⟨b,fP 11,none⟩))):=by
 have hs:(txt (dW 11)).toList=[108,97,103]:=by rw[ByteArray.toList_eq];rfl
 go_enter func103,ntmps103;go_wp2_with fail;go_ret;exact⟨rfl,b0⟩
theorem ajV(b:Nat)(w:World):Calls prog 103 #[.pointer (some ⟨b,0,none⟩),.string (txt (dW 12))] w (aj w (.pointer (some ⟨b,fP 12,none⟩))):=by
 have hs:(txt (dW 12)).toList=[109,97,120]:=by rw[ByteArray.toList_eq];rfl
 go_enter func103,ntmps103;go_wp2_with fail;go_ret;exact⟨rfl,b0⟩
theorem ajW(b:Nat)(w:World):Calls prog 103 #[.pointer (some ⟨b,0,none⟩),.string (txt (dW 13))] w (aj w (.pointer (some ⟨b,fP 13,none⟩))):=by
 have hs:(txt (dW 13)).toList=[109,105,110]:=by rw[ByteArray.toList_eq];rfl
 go_enter func103,ntmps103;go_wp2_with fail;go_ret;exact⟨rfl,b0⟩
theorem number16(b:Nat)(w:World):Calls prog 103 #[.pointer (some ⟨b,0,none⟩),.string (txt (dW 16))] w (aj w (.pointer (some ⟨b,fP 16,none⟩))):=by
 have hs:(txt (dW 16)).toList=[112,114,105,111,114,105,116,121]:=by rw[ByteArray.toList_eq];rfl
 go_enter func103,ntmps103;go_wp2_with fail;go_ret;exact⟨rfl,b0⟩
theorem ajX(b:Nat)(w:World):Calls prog 103 #[.pointer (some ⟨b,0,none⟩),.string (txt (dW 19))] w (aj w (.pointer (some ⟨b,fP 19,none⟩))):=by
 have hs:(txt (dW 19)).toList=[114,101,116,114,121]:=by rw[ByteArray.toList_eq];rfl
 go_enter func103,ntmps103;go_wp2_with fail;go_ret;exact⟨rfl,b0⟩
theorem ajZ(b:Nat)(w:World):Calls prog 103 #[.pointer (some ⟨b,0,none⟩),.string (txt (dW 21))] w (aj w (.pointer (some ⟨b,fP 21,none⟩))):=by
 have hs:(txt (dW 21)).toList=[119,97,110,116]:=by rw[ByteArray.toList_eq];rfl
 go_enter func103,ntmps103;go_wp2_with fail;go_ret;exact⟨rfl,b0⟩
theorem akF(b:Nat)(w:World):Calls prog 59 #[.pointer (some ⟨b,0,none⟩),.string (txt (dW 0))] w (aj w (gW b 0)):=by
 have hs:(txt (dW 0)).toList=[97,108,108,111,119,101,100]:=by rw[ByteArray.toList_eq];rfl
 go_enter func59,ntmps59;go_wp2_with fail;go_ret;exact⟨rfl,b0⟩
theorem akG(b:Nat)(w:World):Calls prog 59 #[.pointer (some ⟨b,0,none⟩),.string (txt (dW 1))] w (aj w (gW b 1)):=by
 have HC:=ah (ajS b w);have hs:(txt (dW 1)).toList=[98,97,115,101]:=by rw[ByteArray.toList_eq];rfl
 go_enter func59,ntmps59;go_wp2_with fail;refine HC.out.mono ?_;rintro e w1 ⟨rfl,hb1⟩;have HB:=ah hb1;clear hb1;go_wp2_with fail;go_ret;exact⟨rfl,HB.out⟩
theorem akR(b:Nat)(w:World):Calls prog 59 #[.pointer (some ⟨b,0,none⟩),.string (txt (dW 2))] w (aj w (gW b 2)):=by
 have HC:=ah (ajY b w);have hs:(txt (dW 2)).toList=[99,104,111,115,101,110]:=by rw[ByteArray.toList_eq];rfl
 go_enter func59,ntmps59;go_wp2_with fail;refine HC.out.mono ?_;rintro e w1 ⟨rfl,hb1⟩;have HB:=ah hb1;clear hb1;go_wp2_with fail;go_ret;exact⟨rfl,HB.out⟩
theorem akU(b:Nat)(w:World):Calls prog 59 #[.pointer (some ⟨b,0,none⟩),.string (txt (dW 3))] w (aj w (gW b 3)):=by
 have HC:=ah (aj0 b w);have hs:(txt (dW 3)).toList=[99,111,100,101]:=by rw[ByteArray.toList_eq];rfl
 go_enter func59,ntmps59;go_wp2_with fail;refine HC.out.mono ?_;rintro e w1 ⟨rfl,hb1⟩;have HB:=ah hb1;clear hb1;go_wp2_with fail;go_ret;exact⟨rfl,HB.out⟩
theorem akV(b:Nat)(w:World):Calls prog 59 #[.pointer (some ⟨b,0,none⟩),.string (txt (dW 4))] w (aj w (gW b 4)):=by
 have HC:=ah (aj1 b w);have hs:(txt (dW 4)).toList=[99,111,115,116]:=by rw[ByteArray.toList_eq];rfl
 go_enter func59,ntmps59;go_wp2_with fail;refine HC.out.mono ?_;rintro e w1 ⟨rfl,hb1⟩;have HB:=ah hb1;clear hb1;go_wp2_with fail;go_ret;exact⟨rfl,HB.out⟩
theorem akW(b:Nat)(w:World):Calls prog 59 #[.pointer (some ⟨b,0,none⟩),.string (txt (dW 5))] w (aj w (gW b 5)):=by
 have HC:=ah (aj2 b w);have hs:(txt (dW 5)).toList=[100,101,97,100,108,105,110,101]:=by rw[ByteArray.toList_eq];rfl
 go_enter func59,ntmps59;go_wp2_with fail;refine HC.out.mono ?_;rintro e w1 ⟨rfl,hb1⟩;have HB:=ah hb1;clear hb1;go_wp2_with fail;go_ret;exact⟨rfl,HB.out⟩
theorem akX(b:Nat)(w:World):Calls prog 59 #[.pointer (some ⟨b,0,none⟩),.string (txt (dW 6))] w (aj w (gW b 6)):=by
 have hs:(txt (dW 6)).toList=[100,101,115,99,114]:=by rw[ByteArray.toList_eq];rfl
 go_enter func59,ntmps59;go_wp2_with fail;go_ret;exact⟨rfl,b0⟩
theorem akY(b:Nat)(w:World):Calls prog 59 #[.pointer (some ⟨b,0,none⟩),.string (txt (dW 7))] w (aj w (gW b 7)):=by
 have HC:=ah (aj3 b w);have hs:(txt (dW 7)).toList=[100,105,103,101,115,116]:=by rw[ByteArray.toList_eq];rfl
 go_enter func59,ntmps59;go_wp2_with fail;refine HC.out.mono ?_;rintro e w1 ⟨rfl,hb1⟩;have HB:=ah hb1;clear hb1;go_wp2_with fail;go_ret;exact⟨rfl,HB.out⟩
theorem akZ(b:Nat)(w:World):Calls prog 59 #[.pointer (some ⟨b,0,none⟩),.string (txt (dW 8))] w (aj w (gW b 8)):=by
 have HC:=ah (aj6 b w);have hs:(txt (dW 8)).toList=[101,112,111,99,104]:=by rw[ByteArray.toList_eq];rfl
 go_enter func59,ntmps59;go_wp2_with fail;refine HC.out.mono ?_;rintro e w1 ⟨rfl,hb1⟩;have HB:=ah hb1;clear hb1;go_wp2_with fail;go_ret;exact⟨rfl,HB.out⟩
theorem ak0(b:Nat)(w:World):Calls prog 59 #[.pointer (some ⟨b,0,none⟩),.string (txt (dW 9))] w (aj w (gW b 9)):=by
 have HC:=ah (aj7 b w);have hs:(txt (dW 9)).toList=[102,108,97,103,115]:=by rw[ByteArray.toList_eq];rfl
 go_enter func59,ntmps59;go_wp2_with fail;refine HC.out.mono ?_;rintro e w1 ⟨rfl,hb1⟩;have HB:=ah hb1;clear hb1;go_wp2_with fail;go_ret;exact⟨rfl,HB.out⟩
theorem akH(b:Nat)(w:World):Calls prog 59 #[.pointer (some ⟨b,0,none⟩),.string (txt (dW 10))] w (aj w (gW b 10)):=by
 have HC:=ah (ajT b w);have hs:(txt (dW 10)).toList=[105,100]:=by rw[ByteArray.toList_eq];rfl
 go_enter func59,ntmps59;go_wp2_with fail;refine HC.out.mono ?_;rintro e w1 ⟨rfl,hb1⟩;have HB:=ah hb1;clear hb1;go_wp2_with fail;go_ret;exact⟨rfl,HB.out⟩
theorem akI(b:Nat)(w:World):Calls prog 59 #[.pointer (some ⟨b,0,none⟩),.string (txt (dW 11))] w (aj w (gW b 11)):=by
 have HC:=ah (ajU b w);have hs:(txt (dW 11)).toList=[108,97,103]:=by rw[ByteArray.toList_eq];rfl
 go_enter func59,ntmps59;go_wp2_with fail;refine HC.out.mono ?_;rintro e w1 ⟨rfl,hb1⟩;have HB:=ah hb1;clear hb1;go_wp2_with fail;go_ret;exact⟨rfl,HB.out⟩
theorem akJ(b:Nat)(w:World):Calls prog 59 #[.pointer (some ⟨b,0,none⟩),.string (txt (dW 12))] w (aj w (gW b 12)):=by
 have HC:=ah (ajV b w);have hs:(txt (dW 12)).toList=[109,97,120]:=by rw[ByteArray.toList_eq];rfl
 go_enter func59,ntmps59;go_wp2_with fail;refine HC.out.mono ?_;rintro e w1 ⟨rfl,hb1⟩;have HB:=ah hb1;clear hb1;go_wp2_with fail;go_ret;exact⟨rfl,HB.out⟩
theorem akK(b:Nat)(w:World):Calls prog 59 #[.pointer (some ⟨b,0,none⟩),.string (txt (dW 13))] w (aj w (gW b 13)):=by
 have HC:=ah (ajW b w);have hs:(txt (dW 13)).toList=[109,105,110]:=by rw[ByteArray.toList_eq];rfl
 go_enter func59,ntmps59;go_wp2_with fail;refine HC.out.mono ?_;rintro e w1 ⟨rfl,hb1⟩;have HB:=ah hb1;clear hb1;go_wp2_with fail;go_ret;exact⟨rfl,HB.out⟩
theorem akL(b:Nat)(w:World):Calls prog 59 #[.pointer (some ⟨b,0,none⟩),.string (txt (dW 14))] w (aj w (gW b 14)):=by
 have hs:(txt (dW 14)).toList=[110,97,109,101]:=by rw[ByteArray.toList_eq];rfl
 go_enter func59,ntmps59;go_wp2_with fail;go_ret;exact⟨rfl,b0⟩
theorem akM(b:Nat)(w:World):Calls prog 59 #[.pointer (some ⟨b,0,none⟩),.string (txt (dW 15))] w (aj w (gW b 15)):=by
 have hs:(txt (dW 15)).toList=[110,111,116,101]:=by rw[ByteArray.toList_eq];rfl
 go_enter func59,ntmps59;go_wp2_with fail;go_ret;exact⟨rfl,b0⟩
theorem akN(b:Nat)(w:World):Calls prog 59 #[.pointer (some ⟨b,0,none⟩),.string (txt (dW 16))] w (aj w (gW b 16)):=by
 have HC:=ah (number16 b w);have hs:(txt (dW 16)).toList=[112,114,105,111,114,105,116,121]:=by rw[ByteArray.toList_eq];rfl
 go_enter func59,ntmps59;go_wp2_with fail;refine HC.out.mono ?_;rintro e w1 ⟨rfl,hb1⟩;have HB:=ah hb1;clear hb1;go_wp2_with fail;go_ret;exact⟨rfl,HB.out⟩
theorem akO(b:Nat)(w:World):Calls prog 59 #[.pointer (some ⟨b,0,none⟩),.string (txt (dW 17))] w (aj w (gW b 17)):=by
 have hs:(txt (dW 17)).toList=[114,101,103,105,111,110]:=by rw[ByteArray.toList_eq];rfl
 go_enter func59,ntmps59;go_wp2_with fail;go_ret;exact⟨rfl,b0⟩
theorem akP(b:Nat)(w:World):Calls prog 59 #[.pointer (some ⟨b,0,none⟩),.string (txt (dW 18))] w (aj w (gW b 18)):=by
 have hs:(txt (dW 18)).toList=[114,101,109,97,105,110,105,110,103]:=by rw[ByteArray.toList_eq];rfl
 go_enter func59,ntmps59;go_wp2_with fail;go_ret;exact⟨rfl,b0⟩
theorem akQ(b:Nat)(w:World):Calls prog 59 #[.pointer (some ⟨b,0,none⟩),.string (txt (dW 19))] w (aj w (gW b 19)):=by
 have HC:=ah (ajX b w);have hs:(txt (dW 19)).toList=[114,101,116,114,121]:=by rw[ByteArray.toList_eq];rfl
 go_enter func59,ntmps59;go_wp2_with fail;refine HC.out.mono ?_;rintro e w1 ⟨rfl,hb1⟩;have HB:=ah hb1;clear hb1;go_wp2_with fail;go_ret;exact⟨rfl,HB.out⟩
theorem akS(b:Nat)(w:World):Calls prog 59 #[.pointer (some ⟨b,0,none⟩),.string (txt (dW 20))] w (aj w (gW b 20)):=by
 have hs:(txt (dW 20)).toList=[116,97,98,108,101]:=by rw[ByteArray.toList_eq];rfl
 go_enter func59,ntmps59;go_wp2_with fail;go_ret;exact⟨rfl,b0⟩
theorem akT(b:Nat)(w:World):Calls prog 59 #[.pointer (some ⟨b,0,none⟩),.string (txt (dW 21))] w (aj w (gW b 21)):=by
 have HC:=ah (ajZ b w);have hs:(txt (dW 21)).toList=[119,97,110,116]:=by rw[ByteArray.toList_eq];rfl
 go_enter func59,ntmps59;go_wp2_with fail;refine HC.out.mono ?_;rintro e w1 ⟨rfl,hb1⟩;have HB:=ah hb1;clear hb1;go_wp2_with fail;go_ret;exact⟨rfl,HB.out⟩
theorem qF(b:Nat)(w:World):∀i,i<22→Calls prog 59 #[.pointer (some ⟨b,0,none⟩),.string (txt (dW i))] w (aj w (gW b i)) :=
 kD (akF b w) (akG b w) (akR b w) (akU b w) (akV b w) (akW b w) (akX b w) (akY b w) (akZ b w) (ak0 b w) (akH b w) (akI b w) (akJ b w) (akK b w) (akL b w) (akM b w) (akN b w) (akO b w) (akP b w) (akQ b w) (akS b w) (akT b w)
def gu(tags:List Nat)(yes:Bool):Fs→Fs
 |.nil=>.nil
 |.cons t y n s i r=>if decide (t∈tags)=yes then .cons t y n s i (gu tags yes r)else gu tags yes r
theorem aaF(tags:List Nat)(yes:Bool)(g:Fs):∀f:Fs,gu tags yes (f.app g)=(gu tags yes f).app (gu tags yes g)
 |.nil=>rfl
 |.cons t y n s i r=>by
   rw[Fs.app,gu,gu,aaF tags yes g r];split<;>rfl
theorem Nz(tags:List Nat)(yes:Bool):∀f:Fs,(gu tags yes f).count≤f.count
 |.nil=>au _
 |.cons t y n s i r=>by
   have:=Nz tags yes r;rw[gu];split<;>simp only[Fs.count]<;>omega
theorem NC(tags:List Nat)(yes:Bool):∀f:Fs,(gu tags yes f).len≤f.len
 |.nil=>au _
 |.cons t y n s i r=>by
   have:=NC tags yes r;rw[gu];split<;>simp only[Fs.len]<;>omega
theorem amk(w:World)(k:IntKind)(n:Int):(Instr.makeMap 154 (some (.int k n))).run prog w=.ok (.map (some w.heap.size)) (w.alloc (.map #[] 0)):=by
 simp[Instr.makeMap,run_underlying underlying154,asInt,asIntOf,Result.andThen]
theorem UZ:Maps.Keyed prog 22:=Maps.int_keyed underlying22
theorem adT(w:World):(zeroValue 4).run prog w=.ok (.bool false) w:=rfl
def Bo(w:World)(m k:Nat)(tags:List Nat):Prop:=w.ownsMap (H:=Unit) prog 22 (plainElem prog 4) m k (AB tags)
def F5(w:World)(tags:List Nat)(F:Fs)(v1 v2:Value)(wr:World):Prop :=
 ∃(A B:Option Addr) (c d:Nat) (xs ys:List Value),v1=.slice A (gu tags true F).len c∧v2=.slice B (gu tags false F).len d∧
  wr.ownsRow w.heap.size 47 5 v1 (gu tags true F).len xs∧wr.ownsRow w.heap.size 47 5 v2 (gu tags false F).len ys∧
  Cls wr (fun q=>q<w.heap.size) xs (gu tags true F)∧Cls wr (fun q=>q<w.heap.size) ys (gu tags false F)∧(∀g,v1.ownBlock=some g→v2.ownBlock≠some g)∧
  v1.ownBlock≠some w.heap.size∧v2.ownBlock≠some w.heap.size∧Bo wr w.heap.size tags.length tags∧Below w.heap.size w wr
theorem aae(t ty e:TypeId)(i:TypeInfo)(ht:prog.underlying t=some (.slice e))(hi:prog.info? e=some i)(hz:i.zero=some oL)(hsz:i.size=5)(hby:i.bytes=64){w:World}
 {base:Nat} {A:Option Addr} {c b d:Nat} {f g:Fs} {xs ys:List Value} (hown:w.ownsRow base e 5 (.slice A f.len c) f.len xs) {J:Nat→Prop} (hc:Cls w J xs f) (hJ:∀k,J k→(Value.slice A f.len c).ownBlock≠some k)
 (hy:Cls w J ys g) (hy2:∀j u,ys[j]?=some u→w.cell? ((⟨b,0,none⟩:Addr).add j)=some u) (h0:0<g.len) (h60:f.len+g.len≤2000000) (hb:base≤w.heap.size) :
 ∃(A':Option Addr) (c':Nat) (w':World) (xs':List Value),(Builtin.append_ #[t,t] ty #[.slice A f.len c,.slice (some ⟨b,0,none⟩) g.len d]).run prog w=.ok (.slice A' (f.app g).len c') w'∧w'.ownsRow base e 5 (.slice A' (f.app g).len c') (f.app g).len xs'∧
  Cls w' J xs' (f.app g)∧w.grownBy w' (Value.slice A f.len c).ownBlock∧((Value.slice A' (f.app g).len c').ownBlock=(Value.slice A f.len c).ownBlock∨(Value.slice A' (f.app g).len c').ownBlock=some w.heap.size):=by
 have hyl:=hy.length
 obtain⟨g',cap,w',hr,h2,h3,h4,h5⟩:=run_append_lies (P:=prog) w t ty base e i oL 5 64 ht hi hz hsz hby rfl (by decide) _ f.len xs hown ⟨b,0,none⟩ g.len d ys (by omega) hy2 (MX hy) (by omega) (by unfold maxLen;omega) (by omega) hb w.heap.size rfl
 have hcl:=((hc.lt.app hy.lt).fE (S:=fun k=>(Value.slice A f.len c).ownBlock=some k) (dX.grown h3 fun k hk _=>hk) fun k hk=>hJ k hk.1).imp fun k hk=>hk.1
 rw[Fs.DU]
 refine⟨some ⟨g',0,none⟩,cap,w',_,hr,h2,hcl,h3,?_⟩
 rcases h4 with h4|h4
 ·exact .inl h4.symm
 ·right;rw[h4];rfl
theorem ade{w wr W w':World}{m:Nat}{tags:List Nat}{A A':Option Addr}{c c':Nat}{f1 f1' f2:Fs}{v2:Value}{xs ys:List Value}(hb:Below w.heap.size w wr)(hW:Below wr.heap.size wr W)(hm:m<wr.heap.size)
 (hown1:wr.ownsRow w.heap.size 47 5 (.slice A f1.len c) f1.len xs) (hown2:wr.ownsRow w.heap.size 47 5 v2 f2.len ys) (Ad:Cls wr (fun q=>q<w.heap.size) ys f2) (hne:∀g,(Value.slice A f1.len c).ownBlock=some g→v2.ownBlock≠some g)
 (hn1:(Value.slice A f1.len c).ownBlock≠some m) (hmap:Bo wr m tags.length tags) (hg:W.grownBy w' (Value.slice A f1.len c).ownBlock)
 (hat:(Value.slice A' f1'.len c').ownBlock=(Value.slice A f1.len c).ownBlock∨(Value.slice A' f1'.len c').ownBlock=some W.heap.size) :
 w'.ownsRow w.heap.size 47 5 v2 f2.len ys∧Cls w' (fun q=>q<w.heap.size) ys f2∧(∀g,(Value.slice A' f1'.len c').ownBlock=some g→v2.ownBlock≠some g)∧(Value.slice A' f1'.len c').ownBlock≠some m∧Bo w' m tags.length tags∧Below w.heap.size w w':=by
 have hwz:=hW.size
 have hbW:Below w.heap.size w W:=hb.trans (hW.mono hb.size)
 have hge:∀g,(Value.slice A f1.len c).ownBlock=some g→w.heap.size≤g:=fun g h=>(hown1.lt g h).1
 have hmW:Bo W m tags.length tags:=by
  obtain⟨es,clock,h1,h2⟩:=hmap;exact⟨es,clock,(hW.block m hm).trans h1,h2⟩
 refine⟨?_,?_,?_,?_,?_,?_⟩
 ·refine World.ownsRow.kept (own_below hown2 hW) hg ?_
  cases h:v2.ownBlock with
  |none=>exact .inl rfl
  |some g=>exact .inr fun e=>hne g e.symm h
 ·exact(Ad.below hW).fE (dX.grown (S:=fun k=>(Value.slice A f1.len c).ownBlock=some k) hg fun k hk _=>hk) fun k hk h=>by have:=hge k h;omega
 ·intro g h1 h2
  rcases hat with h|h
  ·exact hne g (h▸h1) h2
  have:=(hown2.lt g h2).2;rw[h]at h1;injection h1 with h1;omega
 ·rcases hat with h|h
  ·rw[h];exact hn1
  rw[h];intro h1;injection h1 with h1;omega
 ·exact World.ownsMap.kept hmW hg fun h=>hn1 h.symm
 ·exact hbW.trans (dX.grown (S:=fun k=>(Value.slice A f1.len c).ownBlock=some k) hg (fun k hk _=>hk) |>.iI hbW.size fun k hk h=>by have:=hge k h;omega)
theorem O6{w:World}{base:Nat}{e:TypeId}{v:Value}{xs:List Value}{f:Fs}{J:Nat→Prop}(h:w.ownsRow base e 5 v f.len xs)(hc:Cls w J xs f):eF w (fun _=>True) v f:=by
 rcases h.2 with⟨rfl,h0⟩|⟨g,cap,cur,rfl,hb,hg,hn,_⟩
 ·have:=Fs.jr h0
  subst this;exact eF.nil _ _ _ _
 refine⟨some ⟨g,0,none⟩,cap,rfl,hn,.inr ⟨g,0,rfl,trivial,(bY.1 hg).1,(hc.imp fun _ _=>trivial).at_ fun j u hj=>?_⟩⟩;have:=h.cells (g:=g) rfl j u hj
 rwa [rV,← aX j]at this
theorem RQ{w:World}{f:Fs}{e:Ending}{w':World}(h:Fg w f e w'):∃(A:Option Addr) (c:Nat),e=.returned (.slice A f.len c)∧eF w' (w.heap.size≤·) (.slice A f.len c) f∧Below w.heap.size w w':=by
 obtain⟨A,c,g0,xs,rfl,hcc,hown,hcls,hg0,ait,hb⟩:=h;obtain⟨A9,c9,vO,hs9⟩:=Kv hown (hcls.imp (J:=fun q=>w.heap.size≤q) fun q hq=>by have:=hq.1;omega) fun q hq=>hq;injection vO with h1 h2 h3;subst h1 h3;exact⟨A,c,rfl,hs9,hb⟩
def Rz(w:World)(tags:List Nat)(f:Fs)(e:Ending)(w':World):Prop :=
 ∃(A B:Option Addr) (c d:Nat),e=.returned (.tuple #[.slice A (gu tags true f).len c,.slice B (gu tags false f).len d])∧eF w' (w.heap.size≤·) (.slice A (gu tags true f).len c) (gu tags true f)∧
  eF w' (w.heap.size≤·) (.slice B (gu tags false f).len d) (gu tags false f)∧Below w.heap.size w w'
theorem amR(A:Option Addr)(c:Nat)(f:Fs)(B:Option Addr)(d:Nat)(tags:List Nat)(I:Nat→Prop)(w:World)(hr:eF w I (.slice A f.len c) f)(ht:Rd w B (mY tags))(hl:f.count≤1000000)(htl:tags.length≤1000000)
 (h64:∀t∈tags,t<18446744073709551616) (hf:f.All mF) :
 Calls prog 40 #[.slice A f.len c,.slice B tags.length d] w (Rz w tags f):=by
 have HR:=ah hr.lt
 have HT:=ah ht
 have H64:=ah h64
 have HF:=ah hf
 have hfl:=aI f.kH hl
 have HL:=ah hl
 have hcc:f.len≤c:=by obtain⟨A',c',hv,hc,_⟩:=hr;injection hv with e1 e2 e3;omega
 have hmm:=amk
 obtain⟨i0,hi0,hz0,hz1,hz2⟩:=info_parts EH
 have H0:Hid (Bo (w.alloc (.map #[] 0)) w.heap.size 0 (tags.take 0)):=World.ownsMap_made _ _ _ _
 clear hr ht h64 hf
 go_enter func40,ntmps40
 go_wp2_with fail
 go_loopg [15] tags.length (fun gk ki wr=>∃k:Nat,k≤tags.length∧tags.length - k≤gk∧ki=.int .i64 (k:Int)∧Hid (Bo wr w.heap.size k (tags.take k))∧Below w.heap.size w wr)
 case atStart=>exact⟨0,aW _,by omega,rfl,H0,ba b0 _⟩
 case round=>
  obtain⟨k,hkl,hgk,rfl,HM,hb⟩:=hrel;have HB:=ah hb;by_cases hlt:k<tags.length
  ·obtain⟨b,off,rfl,hbl,hcell⟩:=(HT.out.below hb).at_ (k:=k) (by rw[mY,aY];exact hlt)
   have jZ:Hid (AB (H:=Unit) (tags.take (k+1))=(AB (tags.take k)).put (.int .u64 (tags[k]:Int)) (.lit (.bool true))):=by
    show _=_;rw[← aT hlt,am4]
   have hwf:(Lit.int .u64 (tags[k]:Int)).wf=true:=by
    have:=H64.out _ (aS hlt);simp only[Lit.wf,show IntKind.u64.min=0 from rfl,show IntKind.u64.max=18446744073709551615 from rfl,bT,bG];omega
   simp only[mY,List.getElem_map]at hcell;generalize tags[k]=t at *;clear hb;go_wp2_with(at_mapUpdate;refine wpList_mapUpdate_own (H:=Unit) _ rfl _ _ _ 154 rfl 22 4 UZ underlying154 _ _ _ _ rfl HM.out (by unfold maxLen;omega) _ _ _ rfl rfl (Maps.keyOf_int_mk underlying22 hwf) _ _ (plainElem_bool underlying4 true) ?_;intro w1 hown1 hgrow1);go_roundg (tags.length - (k+1))
   case measure=>omega
   case rel=>
    refine⟨k+1,by omega,au _,by go_num,?_,bg HB.out hgrow1 (au _)⟩;show Bo _ _ _ _;unfold Bo;rw[jZ.out];exact hown1
  obtain rfl:k=tags.length:=by omega
  rw[aU (au _)]at HM;have H1:Hid (F5 w tags (f.take 0) (.slice none 0 0) (.slice none 0 0) wr):=by
   have e:f.take 0=.nil:=(by cases f<;>rfl);rw[e];exact⟨none,none,0,0,[],[],rfl,rfl,World.ownsRow_nil _ _ _ _,World.ownsRow_nil _ _ _ _,trivial,trivial,(fun g h=>by cases h),(by simp[Value.ownBlock]),(by simp[Value.ownBlock]),HM.out,hb⟩
  clear hb HM HB;go_wp2_with fail;go_loopg [4,5,24] f.len (fun gk v1 v2 ki wr=>∃k:Nat,k≤f.len∧f.len - k≤gk∧ki=.int .i64 (k:Int)∧Hid (F5 w tags (f.take k) v1 v2 wr))
  case atStart=>exact⟨0,aW _,by omega,rfl,H1⟩
  case round=>
   obtain⟨k,hkl,hgk,rfl,HS⟩:=hrel;obtain⟨A1,B1,c1,d1,xs,ys,rfl,rfl,hown1,hown2,En,Ad,hne,hn1,hn2,hmap,hb⟩:=HS.out;by_cases hlt:k<f.len
   ·obtain⟨t,y,n,s,i,hdc,htk⟩:=f.drop_cons k hlt
    obtain⟨A0,c0,hv,hc0,hor⟩:=HR.out.below hb;injection hv with hv1 hv2 hv3;subst hv1 hv3;rcases hor with h0|⟨b,o,rfl,yX,hbl,hat⟩
    ·omega
    have hak:=hat.drop k;rw[hdc]at hak;obtain⟨d0,d1',d2,d3,⟨Ai,ci,d4,hci,hin⟩,_⟩:=hak;have pY:Hid (eF wr (fun q=>q<w.heap.size) (.slice Ai i.len ci) i):=eF.imp (I:=fun k=>I k∧k<w.heap.size) ⟨Ai,ci,rfl,hci,hin⟩ fun q hq=>hq.2;have Yt:Hid ((Lit.int .u64 (t:Int)).wf=true):=by
     have h1:=HF.out.drop k;rw[hdc]at h1;have h2:t<18446744073709551616:=h1.1.1;show _=true;simp only[Lit.wf,show IntKind.u64.min=0 from rfl,show IntKind.u64.max=18446744073709551615 from rfl,bT,bG];omega
    have hpk:∀yes,gu tags yes (f.take (k+1))=(gu tags yes (f.take k)).app (if decide (t∈tags)=yes then .cons t y n s i .nil else .nil):=fun yes=>by
     rw[htk,aaF,gu,gu]
    have hsw:=hb.size;have eU:=ba (a:=wr) b0 (.cells #[.int .u64 (t:Int),.int .i64 y,.int .u64 (n:Int),.string s,.slice Ai i.len ci] 47);have hy2:=World.news_of_block (cs:=#[.int .u64 (t:Int),.int .i64 y,.int .u64 (n:Int),.string s,.slice Ai i.len ci]) (t:=47) (fr:=(0,0)) (heap_alloc_new wr (.cells #[.int .u64 (t:Int),.int .i64 y,.int .u64 (n:Int),.string s,.slice Ai i.len ci] 47));have hy:Cls (wr.alloc (.cells #[.int .u64 (t:Int),.int .i64 y,.int .u64 (n:Int),.string s,.slice Ai i.len ci] 47)) (fun q=>q<w.heap.size) [.int .u64 (t:Int),.int .i64 y,.int .u64 (n:Int),.string s,.slice Ai i.len ci] (.cons t y n s i .nil) :=
     ⟨rfl,rfl,rfl,rfl,eF.below (f:=i) pY.out eU,trivial⟩
    have hl1:=aI (NC tags true (f.take k)) (aI (show(f.take k).len≤f.len by rw[f.take_len k hkl];exact hkl) hfl);have hl2:=aI (NC tags false (f.take k)) (aI (show(f.take k).len≤f.len by rw[f.take_len k hkl];exact hkl) hfl);have hm0:w.heap.size<wr.heap.size:=hmap.lt;have HAT:(AB (H:=Unit) tags).atKey (.int .u64 (t:Int)) (.lit (.bool false))=.lit (.bool (decide (t∈tags))):=am3 tags t;generalize hF1:gu tags true (f.take k)=F1 at *;generalize hF2:gu tags false (f.take k)=F2 at *;have hT:=hpk true;have xR:=hpk false;rw[hF1]at hT;rw[hF2]at xR;by_cases hin:t∈tags
    ·simp only[hin,decide_true,reduceIte,Bool.true_eq_false,Fs.xJ]at hT xR HAT
     obtain⟨A2,c2,w3,xs2,hrun,hown3,BL,hgr,iF⟩:=aae 33 33 47 i0 underlying33 hi0 hz0 hz1 hz2 (d:=1) (own_below hown1 eU) (En.below eU) (fun q hq h=>by have:=(hown1.lt q h).1;omega) hy hy2 (by simp[Fs.len]) (by simp only[Fs.len];omega) (aI hsw eU.size);obtain⟨k2,J6,J9,J8,J7,kb⟩:=ade hb eU hm0 hown1 hown2 Ad hne hn1 hmap hgr iF;have HN:Hid (F5 w tags (f.take (k+1)) (.slice A2 (F1.app (.cons t y n s i .nil)).len c2) (.slice B1 F2.len d1) w3):=by
      unfold F5;rw[hT,xR];refine⟨A2,B1,c2,d1,xs2,ys,rfl,rfl,hown3,k2,BL,J6,J9,J8,?_,J7,kb⟩;exact hn2
     have lC:=ah hrun;have QA:=ah hmap;have hlen1:(Fs.cons t y n s i .nil).len=1:=rfl;rw[hlen1]at lC;clear hown1 hown2 En Ad hne hn1 hn2 hmap hb hrun hown3 BL hgr iF k2 J6 J9 J8 J7 kb hy hy2 eU hT xR hpk hat hin HS;go_wp2_with(first|(at_lookup;refine adP (H:=Unit) _ rfl _ _ 154 rfl 22 4 UZ underlying154 underlying4 (adT _) _ _ _ rfl QA.out _ _ rfl (Maps.keyOf_int_mk underlying22 Yt.out) ?_;intro cc vM;rw[HAT]at vM;injection vM with vM;injection vM with vM;subst vM)|(at_builtin;(refine wpList_append_run rfl _ _ _ _ rfl _ _ _ rfl rfl lC.out ?_)));go_roundg (f.len - (k+1))
     case measure=>omega
     case rel=>exact⟨k+1,by omega,au _,by go_num,HN⟩
    simp only[hin,decide_false,reduceIte,Bool.false_eq_true,Fs.xJ]at hT xR HAT;obtain⟨A2,c2,w3,xs2,hrun,hown3,BL,hgr,iF⟩:=aae 33 33 47 i0 underlying33 hi0 hz0 hz1 hz2 (d:=1) (own_below hown2 eU) (Ad.below eU) (fun q hq h=>by have:=(hown2.lt q h).1;omega) hy hy2 (by simp[Fs.len]) (by simp only[Fs.len];omega) (aI hsw eU.size);obtain⟨k2,J6,J9,J8,J7,kb⟩:=ade hb eU hm0 hown2 hown1 En (fun g h1 h2=>hne g h2 h1) hn2 hmap hgr iF;have HN:Hid (F5 w tags (f.take (k+1)) (.slice A1 F1.len c1) (.slice A2 (F2.app (.cons t y n s i .nil)).len c2) w3):=by
     unfold F5;rw[hT,xR];exact⟨A1,A2,c1,c2,xs,xs2,rfl,rfl,k2,hown3,J6,BL,fun g h1 h2=>J9 g h2 h1,hn1,J8,J7,kb⟩
    have lC:=ah hrun;have QA:=ah hmap;have hlen1:(Fs.cons t y n s i .nil).len=1:=rfl;rw[hlen1]at lC;clear hown1 hown2 En Ad hne hn1 hn2 hmap hb hrun hown3 BL hgr iF k2 J6 J9 J8 J7 kb hy hy2 eU hT xR hpk hat hin HS;go_wp2_with(first|(at_lookup;refine adP (H:=Unit) _ rfl _ _ 154 rfl 22 4 UZ underlying154 underlying4 (adT _) _ _ _ rfl QA.out _ _ rfl (Maps.keyOf_int_mk underlying22 Yt.out) ?_;intro cc vM;rw[HAT]at vM;injection vM with vM;injection vM with vM;subst vM)|(at_builtin;(refine wpList_append_run rfl _ _ _ _ rfl _ _ _ rfl rfl lC.out ?_)));go_roundg (f.len - (k+1))
    case measure=>omega
    case rel=>exact⟨k+1,by omega,au _,by go_num,HN⟩
   obtain rfl:k=f.len:=(by omega);rw[Fs.Hy f _ (au _)]at hown1 hown2 En Ad⊢;have h1:=aI (Nz tags true f) HL.out;have h2:=aI (Nz tags false f) HL.out;have hs1:=O6 hown1 En;have hs2:=O6 hown2 Ad;have gK:Hid (Calls prog 49 #[.slice A1 (gu tags true f).len c1] wr (Fg wr (gu tags true f))):=Ji _ _ _ _ hs1 h1;have HC2:Hid (∀x:World,Below wr.heap.size wr x→Calls prog 49 #[.slice B1 (gu tags false f).len d1] x (Fg x (gu tags false f))):=fun x hx=>Ji _ _ _ _ (hs2.below hx) h2
   have HE:Hid (∀(A B:Option Addr) (c d:Nat) (w':World),eF w' (w.heap.size≤·) (.slice A (gu tags true f).len c) (gu tags true f)→eF w' (w.heap.size≤·) (.slice B (gu tags false f).len d) (gu tags false f)→Below w.heap.size w w'→
    Rz w tags f (.returned (.tuple #[.slice A (gu tags true f).len c,.slice B (gu tags false f).len d])) w'):=fun A B c d w' a b cc=>⟨A,B,c,d,rfl,a,b,cc⟩
   have HB:=ah hb;clear hown1 hown2 En Ad hne hn1 hn2 hmap hb hs1 hs2 HS;generalize gu tags true f=F1 at *;generalize gu tags false f=F2 at *;go_wp2_with fail;refine gK.out.mono ?_;intro e w3 h3;obtain⟨A3,c3,rfl,hs3,hb3⟩:=RQ h3;have QS:=ah hs3;have HB3:=ah hb3;clear h3 hs3 hb3;go_wp2_with fail;refine(HC2.out _ HB3.out).mono ?_;intro e w4 h4;obtain⟨A4,c4,rfl,hs4,hb4⟩:=RQ h4;have LP:Hid (Rz w tags f (.returned (.tuple #[.slice A3 F1.len c3,.slice A4 F2.len c4])) w4):=by
    have hw:=HB.out.size;have hw3:=HB3.out.size;refine HE.out _ _ _ _ _ ((QS.out.below hb4).imp fun q hq=>?_) (hs4.imp fun q hq=>?_) (bb (bb HB.out HB3.out) hb4)
    ·exact aI hw hq
    exact aI (aI hw hw3) hq
   clear h4 hs4 hb4;go_wp2_with fail;go_ret2;exact LP.out
