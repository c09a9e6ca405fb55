/-
  Texts of the proof, joined: PlainMsg0 MapV Reg Ones From Of. Conditions: as each names.
-/
import Derived.Test.YtgidfnhfgiehjaaGreatDoorXTopRejectsab
import Derived.Maps.OwnSet
import Derived.Deep.QuietTactic
import Derived.BigQuiet
import Derived.Test.YtgidfnhfgiehjaaGreatDoorProg
import Derived.WalkSpells
import Derived.WalkLawsBesides
import Derived.Lib.Hide
import Derived.Deep.OwnRows
import Derived.KernelRfl
import Derived.Deep.RegionHeld3
import Derived.Deep.AppendLies
import Derived.Deep.DrawnRows

section
namespace Go.Proofs.YtgidfnhfgiehjaaGreatDoor
open Go.RowKit Go.PM
inductive Mv where
 | num (n:Nat)
 | flag (b:Bool)
 | sgn (z:Int)
 | word (s:List UInt8)
 | of (d:List Ent)
 | rows (t:List Rw)
def Mv.use:Mv→Nat
 | .num _ => 0
 | .flag _ => 1
 | .sgn _ => 2
 | .word _ => 3
 | .of _ => 4
 | .rows _ => 5
def Mv.good:Mv→Prop
 | .num n => n < 18446744073709551616
 | .sgn z => InI64 z
 | .rows t => ∀ x ∈ t,x.2 < 18446744073709551616
 | _ => True
def nmUse:Nat→Nat
 | 0 => 1
 | 6 => 4
 | 14 | 15 | 17 => 3
 | 18 => 2
 | 20 => 5
 | _ => 0
structure Mp where
 kind:Int
 id:Nat
 min_:Nat
 max_:Nat
 chosen:Nat
 flags:Nat
 cost:Nat
 prio:Nat
 dead:Nat
 retry:Nat
 epoch:Nat
 base:Nat
 digest:Nat
 lag:Nat
 code:Nat
 want:Nat
 rem:Int
 al:Bool
 nm:List UInt8
 rg:List UInt8
 nt:List UInt8
 d:List Ent
 t:List Rw
 rest:Fs
def m0:Mp:=⟨0,0,0,0,0,0,0,0,0,0,0,0,0,0,0,0,0,false,[],[],[],[],[],.nil⟩
def Mp.val (m:Mp):Nat→Mv
 | 0 => .flag m.al
 | 1 => .num m.base
 | 2 => .num m.chosen
 | 3 => .num m.code
 | 4 => .num m.cost
 | 5 => .num m.dead
 | 6 => .of m.d
 | 7 => .num m.digest
 | 8 => .num m.epoch
 | 9 => .num m.flags
 | 10 => .num m.id
 | 11 => .num m.lag
 | 12 => .num m.max_
 | 13 => .num m.min_
 | 14 => .word m.nm
 | 15 => .word m.nt
 | 16 => .num m.prio
 | 17 => .word m.rg
 | 18 => .sgn m.rem
 | 19 => .num m.retry
 | 20 => .rows m.t
 | 21 => .num m.want
 | _ => .num 0
def Mp.put (m:Mp) (i:Nat) (v:Mv):Mp :=
 match i,v with
 | 0,.flag b => { m with al:=b }
 | 1,.num n => { m with base:=n }
 | 2,.num n => { m with chosen:=n }
 | 3,.num n => { m with code:=n }
 | 4,.num n => { m with cost:=n }
 | 5,.num n => { m with dead:=n }
 | 6,.of d => { m with d:=d }
 | 7,.num n => { m with digest:=n }
 | 8,.num n => { m with epoch:=n }
 | 9,.num n => { m with flags:=n }
 | 10,.num n => { m with id:=n }
 | 11,.num n => { m with lag:=n }
 | 12,.num n => { m with max_:=n }
 | 13,.num n => { m with min_:=n }
 | 14,.word s => { m with nm:=s }
 | 15,.word s => { m with nt:=s }
 | 16,.num n => { m with prio:=n }
 | 17,.word s => { m with rg:=s }
 | 18,.sgn z => { m with rem:=z }
 | 19,.num n => { m with retry:=n }
 | 20,.rows t => { m with t:=t }
 | 21,.num n => { m with want:=n }
 | _,_ => m
theorem cases22 {P:Nat→Prop} (h0:P 0) (h1:P 1) (h2:P 2) (h3:P 3) (h4:P 4) (h5:P 5) (h6:P 6) (h7:P 7) (h8:P 8) (h9:P 9) (h10:P 10) (h11:P 11) (h12:P 12) (h13:P 13) (h14:P 14) (h15:P 15) (h16:P 16) (h17:P 17) (h18:P 18) (h19:P 19) (h20:P 20) (h21:P 21):∀ i,i < 22→P i
 | 0,_ => h0 | 1,_ => h1 | 2,_ => h2 | 3,_ => h3 | 4,_ => h4 | 5,_ => h5 | 6,_ => h6 | 7,_ => h7 | 8,_ => h8 | 9,_ => h9 | 10,_ => h10 | 11,_ => h11 | 12,_ => h12 | 13,_ => h13 | 14,_ => h14 | 15,_ => h15
 | 16,_ => h16 | 17,_ => h17 | 18,_ => h18 | 19,_ => h19 | 20,_ => h20 | 21,_ => h21
 | n+22,h => absurd h (by omega)
theorem Mp.val_use (m:Mp):∀ i,(m.val i).use=nmUse i
 | 0 | 1 | 2 | 3 | 4 | 5 | 6 | 7 | 8 | 9 | 10 | 11 | 12 | 13 | 14 | 15 | 16 | 17 | 18 | 19 | 20 | 21 => rfl
 | _+22 => rfl
theorem Mp.val_put (m:Mp) (v:Mv):∀ i,i < 22→v.use=nmUse i→∀ j,j < 22→(m.put i v).val j=if j=i then v else m.val j:=by
 refine cases22 ?_ ?_ ?_ ?_ ?_ ?_ ?_ ?_ ?_ ?_ ?_ ?_ ?_ ?_ ?_ ?_ ?_ ?_ ?_ ?_ ?_ ?_ <;>
  (intro h;cases v <;> first | (exfalso;revert h;simp [Mv.use,nmUse];done) | (refine cases22 ?_ ?_ ?_ ?_ ?_ ?_ ?_ ?_ ?_ ?_ ?_ ?_ ?_ ?_ ?_ ?_ ?_ ?_ ?_ ?_ ?_ ?_ <;> rfl))
theorem Mp.put_kind (m:Mp) (i:Nat) (v:Mv):(m.put i v).kind=m.kind∧(m.put i v).rest=m.rest:=by unfold Mp.put;split <;> exact ⟨rfl,rfl⟩
theorem Mp.ext_val {m n:Mp} (hk:m.kind=n.kind) (hr:m.rest=n.rest) (h:∀ i,i < 22→m.val i=n.val i):m=n:=by
 obtain ⟨k,a0,a1,a2,a3,a4,a5,a6,a7,a8,a9,a10,a11,a12,a13,a14,a15,a16,a17,a18,a19,a20,a21,a22⟩:=m
 obtain ⟨k',b0,b1,b2,b3,b4,b5,b6,b7,b8,b9,b10,b11,b12,b13,b14,b15,b16,b17,b18,b19,b20,b21,b22⟩:=n
 have e:=fun i (hi:i < 22) => h i hi
 have e0:=h 0 (by omega);have e1:=h 1 (by omega);have e2:=h 2 (by omega);have e3:=h 3 (by omega);have e4:=h 4 (by omega);have e5:=h 5 (by omega)
 have e6:=h 6 (by omega);have e7:=h 7 (by omega);have e8:=h 8 (by omega);have e9:=h 9 (by omega);have e10:=h 10 (by omega);have e11:=h 11 (by omega)
 have e12:=h 12 (by omega);have e13:=h 13 (by omega);have e14:=h 14 (by omega);have e15:=h 15 (by omega);have e16:=h 16 (by omega);have e17:=h 17 (by omega)
 have e18:=h 18 (by omega);have e19:=h 19 (by omega);have e20:=h 20 (by omega);have e21:=h 21 (by omega)
 clear h e
 simp only [Mp.val,Mv.num.injEq,Mv.flag.injEq,Mv.sgn.injEq,Mv.word.injEq,Mv.of.injEq,Mv.rows.injEq] at *
 subst hk hr e0 e1 e2 e3 e4 e5 e6 e7 e8 e9 e10 e11 e12 e13 e14 e15 e16 e17 e18 e19 e20 e21
 rfl
end Go.Proofs.YtgidfnhfgiehjaaGreatDoor
end

section
namespace Go.PM
open Go.Maps (Keyed)
theorem isKey_int (k:IntKind) (n:Int):WideAt.IsKeyLit (.int k n):=by unfold WideAt.IsKeyLit;trivial
theorem isKey_str (s:List UInt8):WideAt.IsKeyLit (.string s):=by unfold WideAt.IsKeyLit;trivial
def valE (v:Value):Option (DataW Value × List MemPlace):=some (.held v,[])
def mapL (l:List (Lit × Value)):DataW Value:=l.foldl (fun D p => D.put p.1 (.held p.2)) (.map [])
theorem mapL_snoc (l:List (Lit × Value)) (k:Lit) (v:Value):mapL (l++[(k,v)])=(mapL l).put k (.held v):=by
 rw [mapL,List.foldl_append]
 rfl
def getL (z:Value):List (Lit × Value)→Lit→Value
 | [],_ => z
 | p :: l,k => getL (bif p.1.sameKey k then p.2 else z) l k
theorem mapFold_at (k:Lit):∀ (l:List (Lit × Value)) (D:DataW Value) (z0 z:Value),Maps.IsMap D→(∀ p ∈ l,WideAt.IsKeyLit p.1)→D.atKey k (.held z0)=.held z→(l.foldl (fun D p => D.put p.1 (.held p.2)) D).atKey k (.held z0)=.held (getL z l k)
 | [],_,_,_,_,_,h => h
 | p :: l,D,z0,z,hD,hl,h => by
   rw [List.foldl_cons,getL]
   refine mapFold_at k l _ z0 _ (hD.put _ _) (fun q hq => hl q (List.mem_cons_of_mem _ hq)) ?_
   by_cases he:p.1=k
   · rw [← he,WideAt.sameKey_self (hl p List.mem_cons_self)]
     exact Maps.atKey_put_same hD (hl p List.mem_cons_self) _ _
   · rw [Maps.sameKey_ne he,Maps.atKey_put_other (fun e => he e.symm)]
     exact h
theorem mapL_at (l:List (Lit × Value)) (hl:∀ p ∈ l,WideAt.IsKeyLit p.1) (k:Lit) (z:Value):(mapL l).atKey k (.held z)=.held (getL z l k):=mapFold_at k l _ z z ⟨[],rfl⟩ hl rfl
def hasL (l:List (Lit × Value)) (k:Lit):Bool:=l.any fun p => p.1.sameKey k
theorem mapFold_has (k:Lit):∀ (l:List (Lit × Value)) (D:DataW Value) (c:Bool),Maps.IsMap D→(∀ p ∈ l,WideAt.IsKeyLit p.1)→Maps.has D k=c→Maps.has (l.foldl (fun D p => D.put p.1 (.held p.2)) D) k=(c || hasL l k)
 | [],_,_,_,_,h => by simpa [hasL] using h
 | p :: l,D,c,hD,hl,h => by
   rw [List.foldl_cons]
   by_cases he:p.1=k
   · rw [mapFold_has k l _ true (hD.put _ _) (fun q hq => hl q (List.mem_cons_of_mem _ hq)) (by rw [← he];exact Maps.has_put_same hD (hl p List.mem_cons_self) _)]
     simp [hasL,← he,WideAt.sameKey_self (hl p List.mem_cons_self)]
   · rw [mapFold_has k l _ c (hD.put _ _) (fun q hq => hl q (List.mem_cons_of_mem _ hq)) (by rw [Maps.has_put_other (fun e => he e.symm)];exact h)]
     simp [hasL,Maps.sameKey_ne he]
theorem mapL_has (l:List (Lit × Value)) (hl:∀ p ∈ l,WideAt.IsKeyLit p.1) (k:Lit):Maps.has (mapL l) k=hasL l k:=by
 rw [mapL,mapFold_has k l _ false ⟨[],rfl⟩ hl rfl,Bool.false_or]
def MapAt (w:World) (P:Program) (k:TypeId) (b:Nat) (l:List (Lit × Value)):Prop:=w.ownsMap P k valE b l.length (mapL l)∧∀ p ∈ l,WideAt.IsKeyLit p.1
section
variable {w w':World} {P:Program} {k:TypeId} {b:Nat} {l:List (Lit × Value)}
theorem MapAt.made (w:World) (P:Program) (k:TypeId):MapAt (w.alloc (.map #[] 0)) P k w.heap.size []:=⟨World.ownsMap_made w P k valE,by simp⟩
theorem MapAt.lt (h:MapAt w P k b l):b < w.heap.size:=h.1.lt
theorem MapAt.kept {row:Option Nat} (h:MapAt w P k b l) (hg:w.grownBy w' row) (hne:some b≠row):MapAt w' P k b l:=⟨h.1.kept hg hne,h.2⟩
theorem MapAt.look {t e:TypeId} (h:MapAt w P k b l) (K:Keyed P k) (ht:P.underlying t=some (.map k e)) {z:Value} (hz:(zeroValue e).run P w=.ok z w) {key:Value} {kl:Lit} (hkey:keyOf P k key=some kl) :
 (Instr.lookup t (.map (some b)) key false).run P w=.ok (getL z l kl) w:=by
 obtain ⟨v,ps,hr,hv⟩:=h.1.lookup K ht hz (zd:=.held z) (zp:=[]) rfl hkey
 rw [mapL_at l h.2] at hv
 simp only [valE,Option.some.injEq,Prod.mk.injEq,DataW.held.injEq] at hv
 rw [hr,hv.1]
theorem MapAt.look_ok {t e:TypeId} (h:MapAt w P k b l) (K:Keyed P k) (ht:P.underlying t=some (.map k e)) {z:Value} (hz:(zeroValue e).run P w=.ok z w) {key:Value} {kl:Lit} (hkey:keyOf P k key=some kl) :
 (Instr.lookup t (.map (some b)) key true).run P w=.ok (.tuple #[getL z l kl,.bool (hasL l kl)]) w:=by
 obtain ⟨v,ps,hr,hv⟩:=h.1.look_ok K ht hz (zd:=.held z) (zp:=[]) rfl hkey
 rw [mapL_at l h.2] at hv
 simp only [valE,Option.some.injEq,Prod.mk.injEq,DataW.held.injEq] at hv
 rw [hr,hv.1,mapL_has l h.2]
theorem MapAt.put {t e:TypeId} (h:MapAt w P k b l) (K:Keyed P k) (ht:P.underlying t=some (.map k e)) (hn:l.length < maxLen) {key val:Value} {kl:Lit} (hkey:keyOf P k key=some kl) (hkl:WideAt.IsKeyLit kl) :
 ∃ w',(Instr.mapUpdate t (.map (some b)) key val).run P w=.ok () w'∧MapAt w' P k b (l++[(kl,val)])∧w.grownBy w' (some b):=by
 obtain ⟨w',h1,h2,h3⟩:=h.1.update K ht hn hkey (d:=.held val) (ps:=[]) rfl
 refine ⟨w',h1,⟨?_,fun p hp => ?_⟩,h3⟩
 · rw [mapL_snoc,List.length_append]
   exact h2
 · rcases List.mem_append.1 hp with hp | hp
   · exact h.2 p hp
   · rw [List.mem_singleton] at hp
     subst hp
     exact hkl
end
/-! ### at the operation,for the walk -/
section
variable {P:Program} (w:World) {ops:Array Oper} {rest:List Oper} {o:Oper} {a:Act} {Q:Exit→Act→World→Prop}
theorem wpList_put_v (hg:o.guard=none) (m x v:Operand) (t:TypeId) (hop:o.op=Op.mapUpdate t m x v) (k e:TypeId) (K:Keyed P k) (ht:P.underlying t=some (.map k e)) (b:Nat) (l:List (Lit × Value))
 (hm:a.eval m=.map (some b)) (h:MapAt w P k b l) (hn:l.length < maxLen) (key val:Value) (kl:Lit) (hx:a.eval x=key) (hv:a.eval v=val) (hkey:keyOf P k key=some kl) (hkl:WideAt.IsKeyLit kl)
 (hK:∀ w',MapAt w' P k b (l++[(kl,val)])→w.grownBy w' (some b)→wpList P ops Q rest (a.put o.dst undef) w'):wpList P ops Q (o :: rest) a w:=by
 refine wpList_plain hg fun K' hK' => ?_
 obtain ⟨w',hrun,r1,r2⟩:=h.put (val:=val) K ht hn hkey hkl
 unfold Oper.wp
 simp [execOp,hop,hm,hx,hv,hrun,Result.andThen]
 exact hK' _ _ (hK w' r1 r2)
theorem wpList_ins_v (hg:o.guard=none) (m x v:Operand) (t:TypeId) (hop:o.op=Op.insert t m x v) (k e:TypeId) (K:Keyed P k) (ht:P.underlying t=some (.map k e)) (b:Nat) (l:List (Lit × Value))
 (hm:a.eval m=.map (some b)) (h:MapAt w P k b l) (hn:l.length < maxLen) (key val:Value) (kl:Lit) (hx:a.eval x=key) (hv:a.eval v=val) (hkey:keyOf P k key=some kl) (hkl:WideAt.IsKeyLit kl)
 (hK:∀ w',MapAt w' P k b (l++[(kl,val)])→w.grownBy w' (some b)→wpList P ops Q rest (a.put o.dst undef) w'):wpList P ops Q (o :: rest) a w:=by
 refine wpList_plain hg fun K' hK' => ?_
 obtain ⟨w',hrun,r1,r2⟩:=h.put (val:=val) K ht hn hkey hkl
 unfold Oper.wp
 simp [execOp,hop,hm,hx,hv,hrun,Result.andThen]
 exact hK' _ _ (hK w' r1 r2)
theorem wpList_look_v (hg:o.guard=none) (m x:Operand) (t:TypeId) (hop:o.op=Op.lookup t m x false) (k e:TypeId) (K:Keyed P k) (ht:P.underlying t=some (.map k e)) {z:Value} (hz:(zeroValue e).run P w=.ok z w) (b:Nat) (l:List (Lit × Value))
 (hm:a.eval m=.map (some b)) (h:MapAt w P k b l) (key:Value) (kl:Lit) (hx:a.eval x=key) (hkey:keyOf P k key=some kl) {r:Value} (hr:getL z l kl=r)
 (hK:wpList P ops Q rest (a.put o.dst r) w):wpList P ops Q (o :: rest) a w:=by
 subst hr
 refine wpList_plain hg fun K' hK' => ?_
 have hrun:=h.look K ht hz hkey
 unfold Oper.wp
 simp [execOp,hop,hm,hx,hrun,Result.andThen]
 exact hK' _ _ hK
theorem wpList_look_ok_v (hg:o.guard=none) (m x:Operand) (t:TypeId) (hop:o.op=Op.lookup t m x true) (k e:TypeId) (K:Keyed P k) (ht:P.underlying t=some (.map k e)) {z:Value} (hz:(zeroValue e).run P w=.ok z w) (b:Nat) (l:List (Lit × Value))
 (hm:a.eval m=.map (some b)) (h:MapAt w P k b l) (key:Value) (kl:Lit) (hx:a.eval x=key) (hkey:keyOf P k key=some kl) {r:Value} (hr:getL z l kl=r) {c:Bool} (hc:hasL l kl=c)
 (hK:wpList P ops Q rest (a.put o.dst (.tuple #[r,.bool c])) w):wpList P ops Q (o :: rest) a w:=by
 subst hr hc
 refine wpList_plain hg fun K' hK' => ?_
 have hrun:=h.look_ok K ht hz hkey
 unfold Oper.wp
 simp [execOp,hop,hm,hx,hrun,Result.andThen]
 exact hK' _ _ hK
end
end Go.PM
end

section
namespace Go.PM
open Go.RowKit
/-! ### A region that draws its order,of operations that compute and of calls that leave all that was there -/
def BelW (w:World):Type:={ x:World // Below w.heap.size w x }
def BelW.wld {w:World} (n:BelW w):World:=n.1
theorem BelW.bel {w:World} (n:BelW w):Below w.heap.size w n.wld:=n.2
instance (w:World):Nonempty (BelW w):=⟨⟨w,b0⟩⟩
theorem wp_region_below_lit {P:Program} {id:Nat} {Q:Exit→Act→World→Prop} {a:Act} {w:World} {l:List Oper} (hm:P.follows .mixedOrders=true) (hB:Region.lexB .any l.toArray=true)
 (h:wpQuiet P l.toArray (fun w' => ∃ n:BelW w,w'=n.wld) (fun a' => ∀ w',(∃ n:BelW w,w'=n.wld)→Q .normal a' w') l a):(Code.region id l.toArray true).wp P Q a w :=
 wp_region_quiet (C:=fun w' => ∃ n:BelW w,w'=n.wld) hm hB ⟨(⟨w.drew,bd b0⟩:BelW w),rfl⟩ (by simpa using h)
theorem below_of {P:Program} {f:FuncId} {args:Array Value} {w:World} {n:BelW w} {v:Value} (h:Calls P f args n.wld fun e w' => e=.returned v∧Below n.wld.heap.size n.wld w') :
 Calls P f args n.wld fun e w' => e=.returned v∧∃ m:BelW w,w'=m.wld:=h.mono fun _ w' ⟨he,hb⟩ => ⟨he,⟨w',bb n.bel hb⟩,rfl⟩
theorem wp_world {P:Program} {c:Code} {Q:Exit→Act→World→Prop} {a:Act} {w:World} (h:∀ W,W=w→Code.wp P c Q a W):Code.wp P c Q a w:=h w rfl
end Go.PM
end

section
namespace Go.PM
open Go.RowKit
structure One where
 deep:Nat
 tag:Nat
 ty:Int
 num:Nat
 text:ByteArray
def One.ok (x:One):Prop:=x.deep < 256∧In64 x.tag∧(-128≤x.ty∧x.ty≤127)∧In64 x.num∧x.text.size≤9223372036854775807
def OnesAt (w:World) (b o:Nat) (l:List One):Prop:=∀ j x,l[j]? = some x →
 w.cell? ⟨b,o+j * 5,none⟩=some (.int .u8 (x.deep:Int))∧w.cell? ⟨b,o+j * 5+1,none⟩=some (.int .u64 (x.tag:Int))∧w.cell? ⟨b,o+j * 5+2,none⟩=some (.int .i8 x.ty) ∧
 w.cell? ⟨b,o+j * 5+3,none⟩=some (.int .u64 (x.num:Int))∧w.cell? ⟨b,o+j * 5+4,none⟩=some (.string x.text)
def OnesRd (H:Nat) (w:World) (A:Option Addr) (l:List One):Prop:=l=[]∨∃ b o,A=some ⟨b,o,none⟩∧b < H∧H≤w.heap.size∧OnesAt w b o l
theorem OnesAt.below {w w':World} {b o:Nat} {l:List One} (h:OnesAt w b o l) (hb:Below w.heap.size w w') (hlt:b < w.heap.size):OnesAt w' b o l:=fun j x hj => by
 have e:∀ k,w'.cell? ⟨b,k,none⟩=w.cell? ⟨b,k,none⟩:=fun k => World.cell?_of_block (a:=⟨b,k,none⟩) (hb.block b hlt)
 obtain ⟨h1,h2,h3,h4,h5⟩:=h j x hj
 exact ⟨(e _).trans h1,(e _).trans h2,(e _).trans h3,(e _).trans h4,(e _).trans h5⟩
theorem OnesRd.below {H:Nat} {w w':World} {A:Option Addr} {l:List One} (h:OnesRd H w A l) (hb:Below w.heap.size w w'):OnesRd H w' A l :=
 h.imp id fun ⟨b,o,hA,hlt,hH,h⟩ => ⟨b,o,hA,hlt,Nat.le_trans hH hb.size,h.below hb (Nat.lt_of_lt_of_le hlt hH)⟩
theorem OnesRd.belowB {H:Nat} {w w':World} {A:Option Addr} {l:List One} (h:OnesRd H w A l) (hb:Below H w w'):OnesRd H w' A l :=
 h.imp id fun ⟨b,o,hA,hlt,hH,h⟩ => ⟨b,o,hA,hlt,Nat.le_trans hH hb.size,fun j x hj => by
  have e:∀ k,w'.cell? ⟨b,k,none⟩=w.cell? ⟨b,k,none⟩:=fun k => World.cell?_of_block (a:=⟨b,k,none⟩) (hb.block b hlt)
  obtain ⟨h1,h2,h3,h4,h5⟩:=h j x hj
  exact ⟨(e _).trans h1,(e _).trans h2,(e _).trans h3,(e _).trans h4,(e _).trans h5⟩⟩
def few (l:List One):Bool:=l.all (fun x => decide (x.text.size≤300)) && decide (l.length≤60)
end Go.PM
namespace Go.Proofs.YtgidfnhfgiehjaaGreatDoor
open Go.RowKit Go.PM
set_option maxRecDepth 100000
set_option maxHeartbeats 1000000
theorem few_any (H:Nat) (A:Option Addr) (cap:Nat) (l:List One) (w:World) (hr:OnesRd H w A l) (hok:∀ x ∈ l,x.ok) (hl:l.length≤9223372036854775807) :
 Calls Tryz.prog 33 #[.slice A l.length cap] w fun e w' => e=.returned (.bool (few l))∧Below w.heap.size w w':=by
 generalize hF:few l=F
 have HF:=Lib.hid hF
 have HOK:=Lib.hid hok
 have HR:=Lib.hid hr
 clear hF hok hr
 go_enter Tryz.func33,Tryz.ntmps33
 go_wp2
 go_loopw [7] (fun kk wr => ∃ k:Nat,k≤l.length∧kk=.int .i64 (k:Int)∧Hid (∀ j x,j < k→l[j]? = some x→x.text.size≤300)∧Below w.heap.size w wr) (fun kk _ => l.length - (intOf kk).toNat)
 case atStart => exact ⟨0,by omega,rfl,fun j x h => by omega,b0⟩
 case round =>
  obtain ⟨k,hk,rfl,hle,hbel⟩:=hrel
  have HB:=Lib.hid hbel
  by_cases hlt:k < l.length
  · rcases HR.out.below hbel with h0 | ⟨b,o,rfl,hbl,hHl,hat⟩
    · subst h0;simp at hlt
    obtain ⟨c0,c1,c2,c3,c4⟩:=hat k l[k] (List.getElem?_eq_getElem hlt)
    obtain ⟨o1,o2,o3,o4,o5⟩:=HOK.out l[k] (List.getElem_mem hlt)
    have HX:Hid (l[k]? = some l[k]):=List.getElem?_eq_getElem hlt
    generalize hx:l[k]=x at *
    have hx':=Lib.hid hx
    obtain ⟨deep,tag,ty,num,text⟩:=x
    simp only at c0 c1 c2 c3 c4 o1 o2 o3 o4 o5
    clear hx hbel hat o2 o4
    by_cases hbig:300 < text.size
    · have hf:F=false:=by
       rw [← HF.out]
       unfold few
       rw [Bool.and_eq_false_iff]
       left
       rw [List.all_eq_false]
       exact ⟨_,hx'.out ▸ List.getElem_mem hlt,by simp;exact hbig⟩
      subst hf
      go_wp2
      go_ret
      exact ⟨rfl,ba HB.out _⟩
    · have HNX:Hid (∀ j x,j < k+1→l[j]? = some x→x.text.size≤300):=fun j y hj hy => by
       by_cases e:j=k
       · subst e
         rw [HX.out] at hy
         injection hy with hy
         subst hy
         exact Nat.le_of_not_lt hbig
       · exact hle.out j y (by omega) hy
      go_wp2
      go_roundw
      case rel => exact ⟨k+1,by omega,by go_num,HNX,ba HB.out _⟩
      case measure => simp [intOf];omega
  · obtain rfl:k=l.length:=by omega
    have hf:F=decide (l.length≤60):=by
     rw [← HF.out]
     unfold few
     have:l.all (fun x => decide (x.text.size≤300))=true:=by
      rw [List.all_eq_true]
      intro x hx
      obtain ⟨j,hj,rfl⟩:=List.getElem_of_mem hx
      simpa using hle.out j _ hj (List.getElem?_eq_getElem hj)
     rw [this,Bool.true_and]
    clear hbel
    by_cases h60:l.length≤60
    · rw [decide_eq_true h60] at hf
      subst hf
      have hd:decide ((l.length:Int)≤60)=true:=by simp;omega
      go_wp2
      go_ret
      exact ⟨rfl,HB.out⟩
    · rw [decide_eq_false h60] at hf
      subst hf
      have hd:decide ((l.length:Int)≤60)=false:=by simp;omega
      go_wp2
      go_ret
      exact ⟨rfl,HB.out⟩
end Go.Proofs.YtgidfnhfgiehjaaGreatDoor
end

section
namespace Go.Proofs.YtgidfnhfgiehjaaGreatDoor
open Go.RowKit Go.PM
set_option maxRecDepth 100000
set_option maxHeartbeats 2000000
attribute [local go_sem ↓] Go.wp_at_zero Go.wp_at_succ
def FOk (t:Nat) (y:Int) (n:Nat) (s:ByteArray):Prop:=In64 t∧(-128≤y∧y≤127)∧In64 n∧s.size≤300
def FromEnd (H:Nat) (w:World) (l:List One) (deep:Nat) (e:Ending) (w':World):Prop :=
 ∃ (f:Fs) (A:Option Addr) (c:Nat) (A':Option Addr) (c':Nat),e=.returned (.tuple #[.slice A f.len c,.slice A' (l.length - f.count) c'])∧f.count≤l.length∧(deep=0→f.count=l.length)∧f.All FOk ∧
  SlV w' (w.heap.size≤·) (.slice A f.len c) f∧OnesRd H w' A' (l.drop f.count)∧l.length - f.count≤c'∧c'≤9223372036854775807∧Below w.heap.size w w'
def FromAt (H:Nat) (w:World) (l:List One) (sl out:Value) (wr:World):Prop :=
 ∃ (f:Fs) (A':Option Addr) (c':Nat) (xs:List Value),sl=.slice A' (l.length - f.count) c'∧f.count≤l.length∧f.All FOk∧wr.ownsRow w.heap.size 47 5 out f.len xs ∧
  Cls wr (fun k => w.heap.size≤k∧out.ownBlock≠some k) xs f∧OnesRd H wr A' (l.drop f.count)∧l.length - f.count≤c'∧c'≤9223372036854775807∧Below w.heap.size w wr
theorem from_step {H:Nat} {w wq w3:World} {l:List One} {f fi:Fs} {xs:List Value} {out vi:Value} {xt xn g cap3 c2:Nat} {xy:Int} {xs':ByteArray} {A2:Option Addr} (hHw:H≤w.heap.size) (hfo:f.All FOk)
 (hcls:Cls wq (fun k => w.heap.size≤k∧out.ownBlock≠some k) xs f) (hout:∀ k,out.ownBlock=some k→w.heap.size≤k) (hbel:Below w.heap.size w wq)
 (hown3:w3.ownsRow w.heap.size 47 5 (.slice (some ⟨g,0,none⟩) (f.len+1) cap3) (f.len+1) (xs++[.int .u64 (xt:Int),.int .i64 xy,.int .u64 (xn:Int),.string xs',vi]))
 (hg3:wq.grownBy w3 out.ownBlock) (hat:out.ownBlock=some g∨g=wq.heap.size) (hi:SlV wq (fun k => w.heap.size≤k∧out.ownBlock≠some k) vi fi) (hok:FOk xt xy xn xs') (hfi:fi.All FOk)
 (hcnt:f.count+1+fi.count≤l.length) (hrd:OnesRd H wq A2 (l.drop (f.count+1+fi.count))) (hc2:l.length - (f.count+1+fi.count)≤c2) (hcc:c2≤9223372036854775807) :
 FromAt H w l (.slice A2 (l.length - (f.count+1+fi.count)) c2) (.slice (some ⟨g,0,none⟩) (f.len+1) cap3) w3:=by
 have hcnt2:(f.app (.cons xt xy xn xs' fi .nil)).count=f.count+1+fi.count:=by rw [Fs.app_count];simp [Fs.count];omega
 have hlen2:(f.app (.cons xt xy xn xs' fi .nil)).len=f.len+1:=by rw [Fs.app_len];simp [Fs.len]
 have hw3:Below w.heap.size w w3:=hbel.trans (Tch.grown (S:=fun k => out.ownBlock=some k) hg3 (fun k hk _ => hk) |>.toBelowB hbel.size fun k hk e => by have:=hout k e;omega)
 refine ⟨f.app (.cons xt xy xn xs' fi .nil),A2,c2,xs++[.int .u64 (xt:Int),.int .i64 xy,.int .u64 (xn:Int),.string xs',vi],by rw [hcnt2],by rw [hcnt2];exact hcnt,hfo.app ⟨hok,hfi,trivial⟩,by rw [hlen2];exact hown3,?_,?_,by rw [hcnt2];exact hc2,hcc,hw3⟩
 · refine Cls.grow (v:=out) (hcls.app (?_:Cls _ _ _ (.cons xt xy xn xs' fi .nil))) hg3 hat
   exact ⟨rfl,rfl,rfl,rfl,hi,trivial⟩
 · rw [hcnt2]
   exact hrd.belowB (Tch.grown (S:=fun k => out.ownBlock=some k) hg3 (fun k hk _ => hk) |>.toBelowB (Nat.le_trans hHw hbel.size) fun k hk e => by have:=hout k e;omega)
theorem own_slv {w:World} {base:Nat} {e:TypeId} {v:Value} {xs:List Value} {f:Fs} {J:Nat→Prop} (h:w.ownsRow base e 5 v f.len xs) (hc:Cls w J xs f) (hJ:∀ k,J k→base≤k):∃ A c,v=.slice A f.len c∧SlV w (base≤·) (.slice A f.len c) f:=by
 rcases h.2 with ⟨rfl,h0⟩ | ⟨g,cap,cur,rfl,hb,hg,hn,_⟩
 · have:=Fs.len_zero h0
   subst this
   exact ⟨none,0,rfl,SlV.nil _ _ _ _⟩
 · refine ⟨some ⟨g,0,none⟩,cap,rfl,some ⟨g,0,none⟩,cap,rfl,hn,.inr ⟨g,0,rfl,hb,(Array.getElem?_eq_some_iff.1 hg).1,(hc.imp hJ).at_ fun j u hj => ?_⟩⟩
   have:=h.cells (g:=g) rfl j u hj
   rwa [add_at,← Nat.zero_add j] at this
theorem from_stop {H:Nat} {w wr:World} {l:List One} {deep:Nat} {f:Fs} {A':Option Addr} {c':Nat} {xs:List Value} {out:Value} (hfc:f.count≤l.length) (hd:deep=0→f.count=l.length) (hfo:f.All FOk)
 (hown:wr.ownsRow w.heap.size 47 5 out f.len xs) (hcls:Cls wr (fun k => w.heap.size≤k∧out.ownBlock≠some k) xs f) (hrd:OnesRd H wr A' (l.drop f.count)) (hlc:l.length - f.count≤c') (hcc:c'≤9223372036854775807)
 (hbel:Below w.heap.size w wr):FromEnd H w l deep (.returned (.tuple #[out,.slice A' (l.length - f.count) c'])) wr:=by
 obtain ⟨A,c,rfl,h⟩:=own_slv hown hcls fun k hk => hk.1
 exact ⟨f,A,c,A',c',rfl,hfc,hd,hfo,h,hrd,hlc,hcc,hbel⟩
theorem info_field:(Tryz.prog.info? 47).map (fun i => (i.zero,i.size,i.bytes))=some (some (.agg #[.int .u64 0,.int .i64 0,.int .u64 0,.string ByteArray.empty,.slice none 0 0]),5,64):=by kernel_rfl
theorem from_any (H:Nat) (N:Nat):∀ (A:Option Addr) (cap:Nat) (l:List One) (deep:Nat) (w:World),l.length≤N→H≤w.heap.size→OnesRd H w A l→(∀ x ∈ l,x.ok∧x.text.size≤300)→l.length≤60→l.length≤cap→cap≤9223372036854775807→deep < 256 →
 Calls Tryz.prog 77 #[.slice A l.length cap,.int .u8 (deep:Int)] w (FromEnd H w l deep):=by
 induction N with
 | zero =>
   intro A cap l deep w hN hHw hr hok h60 hc hcm hd
   have:l=[]:=List.eq_nil_of_length_eq_zero (by omega)
   subst this
   go_enter Tryz.func77,Tryz.ntmps77
   go_wp2_with fail
   go_loopw [0,6] (fun sl out wr => sl=.slice A 0 cap∧out=.slice none 0 0∧wr=w) (fun _ _ _ => 0)
   case atStart => exact ⟨rfl,rfl,rfl⟩
   case round =>
    obtain ⟨rfl,rfl,rfl⟩:=hrel
    go_wp2_with fail
    go_ret2
    exact ⟨.nil,none,0,A,cap,rfl,by simp [Fs.count],fun _ => rfl,trivial,SlV.nil _ _ _ _,.inl rfl,by omega,hcm,b0⟩
 | succ N ih =>
   intro A cap l deep w hN hHw hr hok h60 hc hcm hd
   have HOK:=Lib.hid hok
   have H0:Hid (FromAt H w l (.slice A l.length cap) (.slice none 0 0) w):=⟨.nil,A,cap,[],rfl,by simp [Fs.count],trivial,World.ownsRow_nil _ _ _ _,trivial,hr,hc,hcm,b0⟩
   have IH:=Lib.hid ih
   clear hr hok ih
   obtain ⟨i0,hi0,hz0,hz1,hz2⟩:=info_parts info_field
   go_enter Tryz.func77,Tryz.ntmps77
   go_wp2_with fail
   go_loopw [0,6] (fun sl out wr => FromAt H w l sl out wr) (fun sl _ _ => match sl with | .slice _ n _ => n | _ => 0)
   case atStart => exact H0.out
   case round =>
    obtain ⟨f,A',c',xs,rfl,hfc,hfo,hown,hcls,hrd,hlc,hcc,hbel⟩:=hrel
    by_cases hz:l.length - f.count=0
    · have HE:=Lib.hid (from_stop (deep:=deep) hfc (fun _ => by omega) hfo hown hcls hrd hlc hcc hbel)
      clear hown hcls hrd hbel hfo H0
      rw [hz] at HE
      rw [hz]
      go_wp2_with fail
      go_ret2
      exact HE.out
    · have hpos:0 < l.length - f.count:=by omega
      have hpi:(0:Int) < ((l.length - f.count:Nat):Int):=by omega
      cases hl:l.drop f.count with
      | nil =>
        have:=congrArg List.length hl
        rw [List.length_drop] at this
        simp at this
        omega
      | cons x r =>
        rw [hl] at hrd
        rcases hrd with h0 | ⟨b,o,rfl,hbl,hHl,hat⟩
        · cases h0
        obtain ⟨c0,c1,c2,c3,c4⟩:=hat 0 x rfl
        simp only [Nat.zero_mul,Nat.add_zero] at c0 c1 c2 c3 c4
        have hmem:x ∈ l:=List.mem_of_mem_drop (by rw [hl];exact List.mem_cons_self)
        obtain ⟨⟨o1,o2,o3,o4,o5⟩,o6⟩:=HOK.out x hmem
        by_cases hdp:x.deep < deep
        · have HE:=Lib.hid (from_stop (deep:=deep) hfc (fun e => by omega) hfo hown hcls (show OnesRd H wr (some ⟨b,o,none⟩) (l.drop f.count) by rw [hl];exact .inr ⟨b,o,rfl,hbl,hHl,hat⟩) hlc hcc hbel)
          clear hown hcls hat hbel hfo H0 hl hmem o2 o4
          generalize l.length - f.count=M at *
          go_wp2_with fail
          go_ret2
          exact HE.out
        · have hge:(deep:Int)≤(x.deep:Int):=by omega
          have HOWN:=Lib.hid hown
          have HCLS:=Lib.hid hcls
          have HAT:=Lib.hid hat
          have HBEL:=Lib.hid hbel
          have HL:=Lib.hid hl
          have HMEM:=Lib.hid hmem
          have HFO:=Lib.hid hfo
          have O2:=Lib.hid (And.intro o2 o4)
          clear hown hcls hat hbel hl hmem hfo o2 o4 H0
          obtain ⟨xd,xt,xy,xn,xs'⟩:=x
          simp only at c0 c1 c2 c3 c4 o1 o3 o5 o6 hdp hge
          generalize hM:l.length - f.count=M at *
          by_cases h255:xd=255
          · have heq:((xd:Int) == 255)=true:=by rw [beq_iff_eq];omega
            clear h255
            have hrl:r.length+1=M:=by
             have:=congrArg List.length HL.out
             rw [List.length_drop,hM] at this
             simp at this
             omega
            have hrdr:r=l.drop (f.count+1):=by rw [← List.drop_drop,HL.out];rfl
            have hb3:=ba (ba (ba (a:=wr) b0 (.cells #[.int .u8 (xd:Int),.int .u64 (xt:Int),.int .i8 xy,.int .u64 (xn:Int),.string xs'] 138)) (.cells #[.int .u64 (xt:Int),.int .i64 xy,.int .u64 (xn:Int),.string xs',.slice none 0 0] 47)) (.cells #[.int .u64 (xt:Int),.int .i64 xy,.int .u64 (xn:Int),.string xs',.slice none 0 0] 47)
            have hnb:BlkAt (((wr.alloc (.cells #[.int .u8 (xd:Int),.int .u64 (xt:Int),.int .i8 xy,.int .u64 (xn:Int),.string xs'] 138)).alloc (.cells #[.int .u64 (xt:Int),.int .i64 xy,.int .u64 (xn:Int),.string xs',.slice none 0 0] 47)).alloc (.cells #[.int .u64 (xt:Int),.int .i64 xy,.int .u64 (xn:Int),.string xs',.slice none 0 0] 47)) (wr.heap.size+2) 47 #[.int .u64 (xt:Int),.int .i64 xy,.int .u64 (xn:Int),.string xs',.slice none 0 0]:=by
             have:=BlkAt.made ((wr.alloc (.cells #[.int .u8 (xd:Int),.int .u64 (xt:Int),.int .i8 xy,.int .u64 (xn:Int),.string xs'] 138)).alloc (.cells #[.int .u64 (xt:Int),.int .i64 xy,.int .u64 (xn:Int),.string xs',.slice none 0 0] 47)) 47 #[.int .u64 (xt:Int),.int .i64 xy,.int .u64 (xn:Int),.string xs',.slice none 0 0]
             simpa using this
            have HNB:=Lib.hid hnb
            have HB3:=Lib.hid hb3
            have HO3:=Lib.hid (own_below HOWN.out hb3)
            have HRL:=Lib.hid (And.intro hrl hrdr)
            have hwz:=HBEL.out.size
            have hflen:=Nat.le_trans f.len_count hfc
            have hMi:(1:Int)≤(M:Int):=by omega
            have hMc:(M:Int)≤(c':Int):=by omega
            clear hnb hb3 hrl hrdr
            by_cases hc1:c'=1
            · subst hc1
              obtain rfl:M=1:=by omega
              go_wp2_with (at_builtin;go_must (refine wpList_append_lies _ rfl _ _ 33 rfl w.heap.size 47 i0 _ 5 64 Tryz.underlying33 hi0 hz0 hz1 hz2 rfl (by decide) u6 f.len xs rfl HO3.out ⟨wr.heap.size+2,0,none⟩ 1 1 [.int .u64 (xt:Int),.int .i64 xy,.int .u64 (xn:Int),.string xs',.slice none 0 0] rfl rfl HNB.out.news (by simp [Value.oneCell']) (by decide) (by unfold maxLen;omega) (by omega) (by simp;omega) (wr.heap.size+3) (by simp) ?_);intro g cap3 w3 hown3 hg3 hat3 hlt3)
              have hrl:=HRL.out.1
              have hcq:=((HCLS.out.below HB3.out)).imp (J:=fun k => w.heap.size≤k∧u6.ownBlock≠some k) fun k hk => hk
              have hbq:=HBEL.out.trans (HB3.out.mono hwz)
              have hrq:OnesRd H wr (some ⟨b,o,none⟩) (l.drop (f.count+1+Fs.nil.count)):=by
               show OnesRd H wr _ (l.drop (f.count+1))
               rw [← HRL.out.2]
               by_cases hr0:r=[]
               · exact .inl hr0
               · exact .inr ⟨b,o+5,by first | rfl | exact absurd (List.eq_nil_of_length_eq_zero (by omega)) hr0,hbl,hHl,fun j y hj => by
                  have:=HAT.out (j+1) y hj
                  rw [show o+(j+1) * 5=o+5+j * 5 by omega] at this
                  exact this⟩
              have hfin:=from_step (fi:=.nil) hHw HFO.out hcq (fun k hk => (HOWN.out.lt k hk).1) hbq hown3 hg3 (hat3.imp id fun h => by rw [h];simp) (SlV.nil _ _ _ _) ⟨O2.out.1,o3,O2.out.2,o6⟩ trivial (by simp only [Fs.count];omega) (hrq.below HB3.out) (c2:=1 - 1) (by simp only [Fs.count];omega) (by omega)
              rw [show l.length - (f.count+1+Fs.nil.count)=1 - 1 by simp only [Fs.count];omega] at hfin
              refine ⟨hfin,?_⟩
              show 1 - 1 < 1
              omega
            · go_wp2_with (at_builtin;go_must (refine wpList_append_lies _ rfl _ _ 33 rfl w.heap.size 47 i0 _ 5 64 Tryz.underlying33 hi0 hz0 hz1 hz2 rfl (by decide) u6 f.len xs rfl HO3.out ⟨wr.heap.size+2,0,none⟩ 1 1 [.int .u64 (xt:Int),.int .i64 xy,.int .u64 (xn:Int),.string xs',.slice none 0 0] rfl rfl HNB.out.news (by simp [Value.oneCell']) (by decide) (by unfold maxLen;omega) (by omega) (by simp;omega) (wr.heap.size+3) (by simp) ?_);intro g cap3 w3 hown3 hg3 hat3 hlt3)
              have hrl:=HRL.out.1
              have hcq:=((HCLS.out.below HB3.out)).imp (J:=fun k => w.heap.size≤k∧u6.ownBlock≠some k) fun k hk => hk
              have hbq:=HBEL.out.trans (HB3.out.mono hwz)
              have hrq:OnesRd H wr (some ⟨b,o+5,none⟩) (l.drop (f.count+1+Fs.nil.count)):=by
               show OnesRd H wr _ (l.drop (f.count+1))
               rw [← HRL.out.2]
               by_cases hr0:r=[]
               · exact .inl hr0
               · exact .inr ⟨b,o+5,by first | rfl | exact absurd (List.eq_nil_of_length_eq_zero (by omega)) hr0,hbl,hHl,fun j y hj => by
                  have:=HAT.out (j+1) y hj
                  rw [show o+(j+1) * 5=o+5+j * 5 by omega] at this
                  exact this⟩
              have hfin:=from_step (fi:=.nil) hHw HFO.out hcq (fun k hk => (HOWN.out.lt k hk).1) hbq hown3 hg3 (hat3.imp id fun h => by rw [h];simp) (SlV.nil _ _ _ _) ⟨O2.out.1,o3,O2.out.2,o6⟩ trivial (by simp only [Fs.count];omega) (hrq.below HB3.out) (c2:=c' - 1) (by simp only [Fs.count];omega) (by omega)
              rw [show l.length - (f.count+1+Fs.nil.count)=M - 1 by simp only [Fs.count];omega] at hfin
              refine ⟨hfin,?_⟩
              show M - 1 < M
              omega
          · have h254:xd < 255:=by omega
            have hne:((xd:Int) == 255)=false:=by rw [beq_eq_false_iff_ne];omega
            have hrl:r.length+1=M:=by
             have:=congrArg List.length HL.out
             rw [List.length_drop,hM] at this
             simp at this
             omega
            have hb7:=BlkAt.made wr 138 #[.int .u8 (xd:Int),.int .u64 (xt:Int),.int .i8 xy,.int .u64 (xn:Int),.string xs']
            have hbo7:=ba (a:=wr) b0 (.cells #[.int .u8 (xd:Int),.int .u64 (xt:Int),.int .i8 xy,.int .u64 (xn:Int),.string xs'] 138)
            have hsz7:(wr.alloc (.cells #[.int .u8 (xd:Int),.int .u64 (xt:Int),.int .i8 xy,.int .u64 (xn:Int),.string xs'] 138)).heap.size=wr.heap.size+1:=by simp
            have hb8:=BlkAt.made (wr.alloc (.cells #[.int .u8 (xd:Int),.int .u64 (xt:Int),.int .i8 xy,.int .u64 (xn:Int),.string xs'] 138)) 47 #[.int .u64 (xt:Int),.int .i64 xy,.int .u64 (xn:Int),.string xs',.slice none 0 0]
            have hbo8:=ba hbo7 (.cells #[.int .u64 (xt:Int),.int .i64 xy,.int .u64 (xn:Int),.string xs',.slice none 0 0] 47)
            have hb7':=hb7.more (.cells #[.int .u64 (xt:Int),.int .i64 xy,.int .u64 (xn:Int),.string xs',.slice none 0 0] 47)
            rw [hsz7] at hb8
            have HB7:=Lib.hid hb7'
            have HB8:=Lib.hid hb8
            have HBO:=Lib.hid hbo8
            clear hb7 hb7' hb8 hbo7 hbo8 hsz7
            have HRL:=Lib.hid hrl
            have hMi:(1:Int)≤(M:Int):=by omega
            have hMc:(M:Int)≤(c':Int):=by omega
            clear hrl
            by_cases hc1:c'=1
            · subst hc1
              obtain rfl:M=1:=by omega
              go_wp2_with fail
              refine wp_world fun W hW => ?_
              rw [← hW] at HB7 HB8 HBO
              clear hW
              have hbW:=HBO.out
              have HC:Hid (∀ x:World,Below W.heap.size W x→Calls Tryz.prog 77 #[.slice (some ⟨b,o,none⟩) 0 0,.int .u8 ((xd:Int)+1)] x (FromEnd H x r (xd+1))):=fun x hx => by
               have hr0:r=[]:=List.eq_nil_of_length_eq_zero (by have:=HRL.out;omega)
               subst hr0
               exact IH.out (some ⟨b,o,none⟩) 0 [] (xd+1) x (by simp) (Nat.le_trans (Nat.le_trans hHl hbW.size) hx.size) (.inl rfl) (by simp) (by simp) (by simp) (by omega) (by omega)
              have e7:=HB7.out.cell 0
              simp at e7
              have hl7:=HB7.out.lt
              have hl8:=HB8.out.lt
              have hwr:IntKind.u8.wrap ((xd:Int)+1)=(xd:Int)+1:=by simp [IntKind.wrap,IntKind.signed,IntKind.bits];omega
              clear hbW
              go_region_held3 (fun w' => w'.cell? ⟨wr.heap.size,0,none⟩=some (.int .u8 (xd:Int))) (go_keep)
               ((go_at_call 77;refine (HC.out _ (bd b0)).mono ?_;rintro e' W1 ⟨fi,Ai,ci,A2,c2,rfl,hi1,hi2,hi3,hi4,hi5,hi6,hi8,hi7⟩;have hbW1:Below W.heap.size W W1:=bb (bd b0) hi7;have hb81:=HB8.out.below hbW1 HB8.out.lt;have e7':=(HB7.out.below hbW1 HB7.out.lt).cell 0;have e80:=hb81.cell 0;have e81:=hb81.cell 1;have e82:=hb81.cell 2;have e83:=hb81.cell 3;have e8:=hb81.cell 4;have f8:=hb81.free 4;simp at e7' e80 e81 e82 e83 e8;have HI:=Lib.hid (And.intro hi1 (And.intro hi3 (And.intro hi4 (And.intro hi5 (And.intro hi6 (And.intro hi8 hbW1))))));have HB81:=Lib.hid hb81;clear hi1 hi2 hi3 hi4 hi5 hi6 hi7 hi8 hbW1 hb81))
              have hsz1:=HI.out.2.2.2.2.2.2.size
              have hwz:=HBEL.out.size
              have hWz:=HBO.out.size
              have hown1:=own_tch (S:=fun k => k=wr.heap.size+1) (own_below (own_below HOWN.out HBO.out) HI.out.2.2.2.2.2.2) ((Tch.refl (fun k => k=wr.heap.size+1) W1).put (p:=⟨wr.heap.size+1,4,none⟩) (fun _ => rfl) (.slice Ai fi.len ci)) fun g hg e => by have:=(HOWN.out.lt g hg).2;omega
              have hnb:BlkAt ((W1.setCell ⟨wr.heap.size+1,4,none⟩ (.slice Ai fi.len ci)).alloc (.cells #[.int .u64 (xt:Int),.int .i64 xy,.int .u64 (xn:Int),.string xs',.slice Ai fi.len ci] 47)) W1.heap.size 47 #[.int .u64 (xt:Int),.int .i64 xy,.int .u64 (xn:Int),.string xs',.slice Ai fi.len ci]:=by
               have:=BlkAt.made (W1.setCell ⟨wr.heap.size+1,4,none⟩ (.slice Ai fi.len ci)) 47 #[.int .u64 (xt:Int),.int .i64 xy,.int .u64 (xn:Int),.string xs',.slice Ai fi.len ci]
               rwa [show (W1.setCell ⟨wr.heap.size+1,4,none⟩ (.slice Ai fi.len ci)).heap.size=W1.heap.size by simp [World.setCell]] at this
              have HOWN1:=Lib.hid hown1
              have HNB:=Lib.hid hnb
              have hflen:=Nat.le_trans f.len_count hfc
              clear hown1 hnb
              go_wp2_with (at_builtin;go_must (refine wpList_append_lies _ rfl _ _ 33 rfl w.heap.size 47 i0 _ 5 64 Tryz.underlying33 hi0 hz0 hz1 hz2 rfl (by decide) u6 f.len xs rfl (HOWN1.out.alloc _) ⟨W1.heap.size,0,none⟩ 1 1 [.int .u64 (xt:Int),.int .i64 xy,.int .u64 (xn:Int),.string xs',.slice Ai fi.len ci] rfl rfl HNB.out.news (by simp [Value.oneCell']) (by decide) (by unfold maxLen;omega) (by omega) (by simp [World.setCell];omega) (W1.heap.size+1) (by simp [World.setCell]) ?_);intro g cap3 w3 hown3 hg3 hat3 hlt3)
              have hrM:=HRL.out
              obtain ⟨k1,k3,k4,k5,k6,k8,kb⟩:=HI.out
              have hbq:Below w.heap.size w ((W1.setCell ⟨wr.heap.size+1,4,none⟩ (.slice Ai fi.len ci)).alloc (.cells #[.int .u64 (xt:Int),.int .i64 xy,.int .u64 (xn:Int),.string xs',.slice Ai fi.len ci] 47)) :=
               (((HBEL.out.trans (HBO.out.mono hwz)).trans (kb.mono (Nat.le_trans hwz hWz))).setCell (by show w.heap.size≤wr.heap.size+1;omega) _).alloc (by simp [World.setCell];omega) _
              have hsq:(W1.setCell ⟨wr.heap.size+1,4,none⟩ (.slice Ai fi.len ci)).heap.size=W1.heap.size:=by simp [World.setCell]
              have htp:=(Tch.refl (fun k => k=wr.heap.size+1) W1).put (p:=⟨wr.heap.size+1,4,none⟩) (fun _ => rfl) (.slice Ai fi.len ci)
              have hcq:=((((HCLS.out.lt.below HBO.out).below kb).tch htp fun k hk e => by have:=hk.2;omega).below (ba b0 (.cells #[.int .u64 (xt:Int),.int .i64 xy,.int .u64 (xn:Int),.string xs',.slice Ai fi.len ci] 47))).imp (J:=fun k => w.heap.size≤k∧u6.ownBlock≠some k) fun k hk => hk.1
              have hiq:=((k4.tch htp fun k (hk:W.heap.size≤k) e => by have:=HB8.out.lt;omega).below (ba b0 (.cells #[.int .u64 (xt:Int),.int .i64 xy,.int .u64 (xn:Int),.string xs',.slice Ai fi.len ci] 47))).imp (J:=fun k => w.heap.size≤k∧u6.ownBlock≠some k) fun k (hk:W.heap.size≤k) => ⟨by omega,fun e => by have:=(HOWN.out.lt k e).2;omega⟩
              have hrdr:r=l.drop (f.count+1):=by rw [← List.drop_drop,HL.out];rfl
              have hrq:=((k5.belowB (htp.toBelowB (B:=H) (by omega) fun k hk e => by omega)).below (ba b0 (.cells #[.int .u64 (xt:Int),.int .i64 xy,.int .u64 (xn:Int),.string xs',.slice Ai fi.len ci] 47)))
              rw [hrdr,List.drop_drop] at hrq
              have hcnt:f.count+1+fi.count≤l.length:=by omega
              have hxok:FOk xt xy xn xs':=⟨O2.out.1,o3,O2.out.2,o6⟩
              have hfin:=from_step hHw HFO.out hcq (fun k hk => (HOWN.out.lt k hk).1) hbq hown3 hg3 (hat3.imp id fun h => by rw [h];simp [World.setCell]) hiq hxok k3 hcnt hrq (by omega) k8
              rw [show l.length - (f.count+1+fi.count)=r.length - fi.count by omega] at hfin
              refine ⟨hfin,?_⟩
              show r.length - fi.count < 1
              omega
            · go_wp2_with fail
              refine wp_world fun W hW => ?_
              rw [← hW] at HB7 HB8 HBO
              clear hW
              have hbW:=HBO.out
              have hat2:OnesAt W b (o+5) r:=fun j y hj => by
               have:=(HAT.out.below hbW (Nat.lt_of_lt_of_le hbl hHl)) (j+1) y hj
               rw [show o+(j+1) * 5=o+5+j * 5 by omega] at this
               exact this
              have HC:Hid (∀ x:World,Below W.heap.size W x→Calls Tryz.prog 77 #[.slice (some ⟨b,o+5,none⟩) (M - 1) (c' - 1),.int .u8 ((xd:Int)+1)] x (FromEnd H x r (xd+1))):=fun x hx => by
               have hrM:r.length=M - 1:=by have:=HRL.out;omega
               have hsub:∀ y ∈ r,y ∈ l:=fun y hy => List.mem_of_mem_drop (by rw [HL.out];exact List.mem_cons_of_mem _ hy)
               have:=IH.out (some ⟨b,o+5,none⟩) (c' - 1) r (xd+1) x (by omega) (Nat.le_trans (Nat.le_trans hHl hbW.size) hx.size) ((OnesRd.below (w:=W) (.inr ⟨b,o+5,rfl,hbl,Nat.le_trans hHl hbW.size,hat2⟩)) hx) (fun y hy => HOK.out y (hsub y hy)) (by omega) (by omega) (by omega) (by omega)
               rw [hrM] at this
               exact this
              clear hat2
              have e7:=HB7.out.cell 0
              simp at e7
              have hl7:=HB7.out.lt
              have hl8:=HB8.out.lt
              have hwr:IntKind.u8.wrap ((xd:Int)+1)=(xd:Int)+1:=by simp [IntKind.wrap,IntKind.signed,IntKind.bits];omega
              clear hbW
              go_region_held3 (fun w' => w'.cell? ⟨wr.heap.size,0,none⟩=some (.int .u8 (xd:Int))) (go_keep)
               ((go_at_call 77;refine (HC.out _ (bd b0)).mono ?_;rintro e' W1 ⟨fi,Ai,ci,A2,c2,rfl,hi1,hi2,hi3,hi4,hi5,hi6,hi8,hi7⟩;have hbW1:Below W.heap.size W W1:=bb (bd b0) hi7;have hb81:=HB8.out.below hbW1 HB8.out.lt;have e7':=(HB7.out.below hbW1 HB7.out.lt).cell 0;have e80:=hb81.cell 0;have e81:=hb81.cell 1;have e82:=hb81.cell 2;have e83:=hb81.cell 3;have e8:=hb81.cell 4;have f8:=hb81.free 4;simp at e7' e80 e81 e82 e83 e8;have HI:=Lib.hid (And.intro hi1 (And.intro hi3 (And.intro hi4 (And.intro hi5 (And.intro hi6 (And.intro hi8 hbW1))))));have HB81:=Lib.hid hb81;clear hi1 hi2 hi3 hi4 hi5 hi6 hi7 hi8 hbW1 hb81))
              have hsz1:=HI.out.2.2.2.2.2.2.size
              have hwz:=HBEL.out.size
              have hWz:=HBO.out.size
              have hown1:=own_tch (S:=fun k => k=wr.heap.size+1) (own_below (own_below HOWN.out HBO.out) HI.out.2.2.2.2.2.2) ((Tch.refl (fun k => k=wr.heap.size+1) W1).put (p:=⟨wr.heap.size+1,4,none⟩) (fun _ => rfl) (.slice Ai fi.len ci)) fun g hg e => by have:=(HOWN.out.lt g hg).2;omega
              have hnb:BlkAt ((W1.setCell ⟨wr.heap.size+1,4,none⟩ (.slice Ai fi.len ci)).alloc (.cells #[.int .u64 (xt:Int),.int .i64 xy,.int .u64 (xn:Int),.string xs',.slice Ai fi.len ci] 47)) W1.heap.size 47 #[.int .u64 (xt:Int),.int .i64 xy,.int .u64 (xn:Int),.string xs',.slice Ai fi.len ci]:=by
               have:=BlkAt.made (W1.setCell ⟨wr.heap.size+1,4,none⟩ (.slice Ai fi.len ci)) 47 #[.int .u64 (xt:Int),.int .i64 xy,.int .u64 (xn:Int),.string xs',.slice Ai fi.len ci]
               rwa [show (W1.setCell ⟨wr.heap.size+1,4,none⟩ (.slice Ai fi.len ci)).heap.size=W1.heap.size by simp [World.setCell]] at this
              have HOWN1:=Lib.hid hown1
              have HNB:=Lib.hid hnb
              have hflen:=Nat.le_trans f.len_count hfc
              clear hown1 hnb
              go_wp2_with (at_builtin;go_must (refine wpList_append_lies _ rfl _ _ 33 rfl w.heap.size 47 i0 _ 5 64 Tryz.underlying33 hi0 hz0 hz1 hz2 rfl (by decide) u6 f.len xs rfl (HOWN1.out.alloc _) ⟨W1.heap.size,0,none⟩ 1 1 [.int .u64 (xt:Int),.int .i64 xy,.int .u64 (xn:Int),.string xs',.slice Ai fi.len ci] rfl rfl HNB.out.news (by simp [Value.oneCell']) (by decide) (by unfold maxLen;omega) (by omega) (by simp [World.setCell];omega) (W1.heap.size+1) (by simp [World.setCell]) ?_);intro g cap3 w3 hown3 hg3 hat3 hlt3)
              have hrM:=HRL.out
              obtain ⟨k1,k3,k4,k5,k6,k8,kb⟩:=HI.out
              have hbq:Below w.heap.size w ((W1.setCell ⟨wr.heap.size+1,4,none⟩ (.slice Ai fi.len ci)).alloc (.cells #[.int .u64 (xt:Int),.int .i64 xy,.int .u64 (xn:Int),.string xs',.slice Ai fi.len ci] 47)) :=
               (((HBEL.out.trans (HBO.out.mono hwz)).trans (kb.mono (Nat.le_trans hwz hWz))).setCell (by show w.heap.size≤wr.heap.size+1;omega) _).alloc (by simp [World.setCell];omega) _
              have hsq:(W1.setCell ⟨wr.heap.size+1,4,none⟩ (.slice Ai fi.len ci)).heap.size=W1.heap.size:=by simp [World.setCell]
              have htp:=(Tch.refl (fun k => k=wr.heap.size+1) W1).put (p:=⟨wr.heap.size+1,4,none⟩) (fun _ => rfl) (.slice Ai fi.len ci)
              have hcq:=((((HCLS.out.lt.below HBO.out).below kb).tch htp fun k hk e => by have:=hk.2;omega).below (ba b0 (.cells #[.int .u64 (xt:Int),.int .i64 xy,.int .u64 (xn:Int),.string xs',.slice Ai fi.len ci] 47))).imp (J:=fun k => w.heap.size≤k∧u6.ownBlock≠some k) fun k hk => hk.1
              have hiq:=((k4.tch htp fun k (hk:W.heap.size≤k) e => by have:=HB8.out.lt;omega).below (ba b0 (.cells #[.int .u64 (xt:Int),.int .i64 xy,.int .u64 (xn:Int),.string xs',.slice Ai fi.len ci] 47))).imp (J:=fun k => w.heap.size≤k∧u6.ownBlock≠some k) fun k (hk:W.heap.size≤k) => ⟨by omega,fun e => by have:=(HOWN.out.lt k e).2;omega⟩
              have hrdr:r=l.drop (f.count+1):=by rw [← List.drop_drop,HL.out];rfl
              have hrq:=((k5.belowB (htp.toBelowB (B:=H) (by omega) fun k hk e => by omega)).below (ba b0 (.cells #[.int .u64 (xt:Int),.int .i64 xy,.int .u64 (xn:Int),.string xs',.slice Ai fi.len ci] 47)))
              rw [hrdr,List.drop_drop] at hrq
              have hcnt:f.count+1+fi.count≤l.length:=by omega
              have hxok:FOk xt xy xn xs':=⟨O2.out.1,o3,O2.out.2,o6⟩
              have hfin:=from_step hHw HFO.out hcq (fun k hk => (HOWN.out.lt k hk).1) hbq hown3 hg3 (hat3.imp id fun h => by rw [h];simp [World.setCell]) hiq hxok k3 hcnt hrq (by omega) k8
              rw [show l.length - (f.count+1+fi.count)=r.length - fi.count by omega] at hfin
              refine ⟨hfin,?_⟩
              show r.length - fi.count < M
              omega
end Go.Proofs.YtgidfnhfgiehjaaGreatDoor
end

section
namespace Go.Proofs.YtgidfnhfgiehjaaGreatDoor
open Go.RowKit Go.PM
set_option maxRecDepth 100000
set_option maxHeartbeats 2000000
attribute [local go_sem ↓] Go.wp_at_zero Go.wp_at_succ
def MakeEnd (w:World) (n:Nat) (e:Ending) (w':World):Prop :=
 ∃ (f:Fs) (A:Option Addr) (c:Nat),e=.returned (.slice A f.len c)∧f.count=n∧f.All FOk∧SlV w' (w.heap.size≤·) (.slice A f.len c) f∧Below w.heap.size w w'
theorem make_any (H:Nat) (A:Option Addr) (cap:Nat) (l:List One) (w:World) (hHw:H≤w.heap.size) (hr:OnesRd H w A l) (hok:∀ x ∈ l,x.ok∧x.text.size≤300) (h60:l.length≤60) (hc:l.length≤cap) (hcm:cap≤9223372036854775807) :
 Calls Tryz.prog 34 #[.slice A l.length cap] w (MakeEnd w l.length):=by
 have HF:=Lib.hid (from_any H l.length A cap l 0 w (Nat.le_refl _) hHw hr hok h60 hc hcm (by omega))
 clear hr hok
 go_enter Tryz.func34,Tryz.ntmps34
 go_wp2_with fail
 refine HF.out.mono ?_
 rintro e w1 ⟨f,A1,c1,A2,c2,rfl,h1,h2,h3,h4,h5,h6,h7,h8⟩
 have HE:=Lib.hid (And.intro (h2 rfl) (And.intro h3 (And.intro h4 h8)))
 clear h1 h2 h3 h4 h5 h6 h7 h8
 go_wp2
 go_ret
 exact ⟨f,A1,c1,rfl,HE.out.1,HE.out.2.1,HE.out.2.2.1,HE.out.2.2.2⟩
end Go.Proofs.YtgidfnhfgiehjaaGreatDoor
end
