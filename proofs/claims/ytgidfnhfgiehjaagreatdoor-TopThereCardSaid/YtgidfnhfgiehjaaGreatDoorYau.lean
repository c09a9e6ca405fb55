/-
  Parts of the proof. Conditions: as each names.
-/
import Derived.Test.YtgidfnhfgiehjaaGreatDoorYaq
import Derived.Laws.EntriesVeiled
import Derived.Sort.OwnSorted
namespace Go.Proofs.YtgidfnhfgiehjaaGreatDoor
open Go.PM Go.RowKit Go.Proofs.Tryz
set_option maxRecDepth 100000
set_option maxHeartbeats 4000000
attribute [local go_sem ↓] Go.wp_at_zero Go.wp_at_succ
def KD(s:Sp):List Value:=[.int .u64 (s.tag:Int),.int .i64 (s.use:Int),.int .i64 (s.from_:Int),.string (txt s.nm)]
def lS(l:List Sp):List Value:=l.flatMap KD
theorem amT(l m:List Sp):lS (l++m)=lS l++lS m:=by simp[lS]
theorem adh:∀(l:List Sp) (k:Nat) (h:k<l.length),(lS l)[k*4]?=some (.int .u64 (l[k].tag:Int))∧(lS l)[k*4+1]?=some (.int .i64 (l[k].use:Int))∧(lS l)[k*4+2]?=some (.int .i64 (l[k].from_:Int))∧(lS l)[k*4+3]?=some (.string (txt l[k].nm))
 |a::r,0,_=>⟨rfl,rfl,rfl,rfl⟩
 |a::r,k+1,h=>by
   have ih:=adh r k (by simpa using h);rw[show(k+1)*4=k*4+1+1+1+1 by omega];exact ih
theorem amU(l:List Sp):∀u∈lS l,u.oneCell'=true:=fun u hu=>by
 obtain⟨a,_,h⟩:=List.mem_flatMap.1 hu;simp only[KD,bC,bW,or_false]at h;rcases h with rfl|rfl|rfl|rfl<;>rfl
theorem uU{w:World}{A:Option Addr}{l:List Sp}(h:Rd w A (lS l)){k:Nat}(hk:k<l.length):∃b off,A=some ⟨b,off,none⟩∧b<w.heap.size∧w.cell? ⟨b,off+k*4,none⟩=some (.int .u64 (l[k].tag:Int))∧
 w.cell? ⟨b,off+k*4+1,none⟩=some (.int .i64 (l[k].use:Int))∧w.cell? ⟨b,off+k*4+2,none⟩=some (.int .i64 (l[k].from_:Int))∧w.cell? ⟨b,off+k*4+3,none⟩=some (.string (txt l[k].nm)):=by
 obtain⟨h1,h2,h3,h4⟩:=adh l k hk
 rcases h with h|⟨b,off,e,hb,hc⟩
 ·rw[h]at h1;simp at h1
 ·exact⟨b,off,e,hb,hc _ _ h1,hc _ _ h2,hc _ _ h3,hc _ _ h4⟩
theorem Hq(w:World)(t:TypeId)(l:List Value):Rd (w.alloc (.cells l.toArray t)) (some ⟨w.heap.size,0,none⟩) l:=by
 refine .inr ⟨_,_,rfl,by simp,fun j u hj=>?_⟩;rw[aX,(dU.made w t l.toArray).cell];simpa using hj
def uz(w:World)(k:Nat)(e:Ending)(w':World):Prop:=∃b,e=.returned (.slice (some ⟨b,0,none⟩) (jm k).length (jm k).length)∧w.heap.size≤b∧Rd w' (some ⟨b,0,none⟩) (lS (jm k))∧Below w.heap.size w w'
theorem Cc(w:World)(k:Nat):uz w k (.returned (.slice (some ⟨w.heap.size,0,none⟩) (jm k).length (jm k).length)) (w.alloc (.cells (lS (jm k)).toArray 94)) :=
 ⟨_,rfl,au _,Hq _ _ _,ba b0 _⟩
theorem ah0(w:World):Calls prog 127 #[] w (uz w 1):=by
 have HE:=ah (Cc w 1);go_enter func127,ntmps127;go_wp2_with fail;go_ret;exact HE.out
theorem ahZ(w:World):Calls prog 128 #[] w (uz w 2):=by
 have HE:=ah (Cc w 2);go_enter func128,ntmps128;go_wp2_with fail;go_ret;exact HE.out
theorem afw(w:World):Calls prog 129 #[] w (uz w 3):=by
 have HE:=ah (Cc w 3);go_enter func129,ntmps129;go_wp2_with fail;go_ret;exact HE.out
theorem afx(w:World):Calls prog 130 #[] w (uz w 4):=by
 have HE:=ah (Cc w 4);go_enter func130,ntmps130;go_wp2_with fail;go_ret;exact HE.out
theorem ahA(w:World):Calls prog 131 #[] w (uz w 5):=by
 have HE:=ah (Cc w 5);go_enter func131,ntmps131;go_wp2_with fail;go_ret;exact HE.out
theorem af6(w:World):Calls prog 132 #[] w (uz w 6):=by
 have HE:=ah (Cc w 6);go_enter func132,ntmps132;go_wp2_with fail;go_ret;exact HE.out
theorem aeu(w:World):Calls prog 133 #[] w (uz w 7):=by
 have HE:=ah (Cc w 7);go_enter func133,ntmps133;go_wp2_with fail;go_ret;exact HE.out
theorem alq(w:World):Calls prog 134 #[] w (uz w 8):=by
 have HE:=ah (Cc w 8);go_enter func134,ntmps134;go_wp2_with fail;go_ret;exact HE.out
def uQ:Nat→Nat
 |1=>127
 |2=>128
 |3=>129
 |4=>130
 |5=>131
 |6=>132
 |7=>133
 |_=>134
theorem adf(w:World):∀k,1≤k→k≤8→Calls prog (uQ k) #[] w (uz w k)
 |1,_,_=>ah0 w
 |2,_,_=>ahZ w
 |3,_,_=>afw w
 |4,_,_=>afx w
 |5,_,_=>ahA w
 |6,_,_=>af6 w
 |7,_,_=>aeu w
 |8,_,_=>alq w
 |0,h,_=>aJ h (by omega)
 |n+9,_,h=>aJ h (by omega)
def kv(k:Nat):Value:=.agg #[.string (txt (EK k)),.int .i64 (iP k:Int),.func (.func (uQ k)) #[] #[]]
def Fa:Value:=.agg #[.string ⟨#[]⟩,.int .i64 0,.nilFunc]
theorem Ie(w:World):(zeroValue 145).run prog w=.ok Fa w:=rfl
theorem pU:Maps.Keyed prog 3:=Maps.int_keyed underlying3
def BX:List (Lit×Value):=[(.int .i64 1,kv 1),(.int .i64 2,kv 2),(.int .i64 3,kv 3),(.int .i64 4,kv 4),(.int .i64 5,kv 5),(.int .i64 6,kv 6),(.int .i64 7,kv 7),(.int .i64 8,kv 8)]
theorem F6(w:World):Calls prog 79 #[] w fun e w'=>e=.returned (.map (some w.heap.size))∧MapAt w' prog 3 w.heap.size BX∧Below w.heap.size w w':=by
 have hmm:=@run_makeMap prog;have H0:=ah (MapAt.made w prog 3);have B0:=ah (ba (a:=w) b0 (.map #[] 0));go_enter func79,ntmps79
 go_wp2_with(first |
  (with_reducible show wpList _ _ _ (Oper.mk _ (Op.insert _ _ _ _) _ _ _ _::_) _ _;refine uY _ rfl _ _ _ 146 rfl 3 145 pU underlying146 _ _ rfl H0.out (by unfold maxLen;simp) (.int .i64 1) (kv 1) (.int .i64 1) rfl rfl (Maps.keyOf_int_mk underlying3 (by decide)) (rY _ _) ?_;intro w1 h1 g1;have H1:=ah h1;have B1:=ah (bg B0.out g1 (au _));clear h1 g1 H0 B0) |
  (with_reducible show wpList _ _ _ (Oper.mk _ (Op.insert _ _ _ _) _ _ _ _::_) _ _;refine uY _ rfl _ _ _ 146 rfl 3 145 pU underlying146 _ _ rfl H1.out (by unfold maxLen;simp) (.int .i64 2) (kv 2) (.int .i64 2) rfl rfl (Maps.keyOf_int_mk underlying3 (by decide)) (rY _ _) ?_;intro w2 h2 g2;have H2:=ah h2;have B2:=ah (bg B1.out g2 (au _));clear h2 g2 H1 B1) |
  (with_reducible show wpList _ _ _ (Oper.mk _ (Op.insert _ _ _ _) _ _ _ _::_) _ _;refine uY _ rfl _ _ _ 146 rfl 3 145 pU underlying146 _ _ rfl H2.out (by unfold maxLen;simp) (.int .i64 3) (kv 3) (.int .i64 3) rfl rfl (Maps.keyOf_int_mk underlying3 (by decide)) (rY _ _) ?_;intro w3 h3 g3;have H3:=ah h3;have B3:=ah (bg B2.out g3 (au _));clear h3 g3 H2 B2) |
  (with_reducible show wpList _ _ _ (Oper.mk _ (Op.insert _ _ _ _) _ _ _ _::_) _ _;refine uY _ rfl _ _ _ 146 rfl 3 145 pU underlying146 _ _ rfl H3.out (by unfold maxLen;simp) (.int .i64 4) (kv 4) (.int .i64 4) rfl rfl (Maps.keyOf_int_mk underlying3 (by decide)) (rY _ _) ?_;intro w4 h4 g4;have H4:=ah h4;have B4:=ah (bg B3.out g4 (au _));clear h4 g4 H3 B3) |
  (with_reducible show wpList _ _ _ (Oper.mk _ (Op.insert _ _ _ _) _ _ _ _::_) _ _;refine uY _ rfl _ _ _ 146 rfl 3 145 pU underlying146 _ _ rfl H4.out (by unfold maxLen;simp) (.int .i64 5) (kv 5) (.int .i64 5) rfl rfl (Maps.keyOf_int_mk underlying3 (by decide)) (rY _ _) ?_;intro w5 h5 g5;have H5:=ah h5;have B5:=ah (bg B4.out g5 (au _));clear h5 g5 H4 B4) |
  (with_reducible show wpList _ _ _ (Oper.mk _ (Op.insert _ _ _ _) _ _ _ _::_) _ _;refine uY _ rfl _ _ _ 146 rfl 3 145 pU underlying146 _ _ rfl H5.out (by unfold maxLen;simp) (.int .i64 6) (kv 6) (.int .i64 6) rfl rfl (Maps.keyOf_int_mk underlying3 (by decide)) (rY _ _) ?_;intro w6 h6 g6;have H6:=ah h6;have B6:=ah (bg B5.out g6 (au _));clear h6 g6 H5 B5) |
  (with_reducible show wpList _ _ _ (Oper.mk _ (Op.insert _ _ _ _) _ _ _ _::_) _ _;refine uY _ rfl _ _ _ 146 rfl 3 145 pU underlying146 _ _ rfl H6.out (by unfold maxLen;simp) (.int .i64 7) (kv 7) (.int .i64 7) rfl rfl (Maps.keyOf_int_mk underlying3 (by decide)) (rY _ _) ?_;intro w7 h7 g7;have H7:=ah h7;have B7:=ah (bg B6.out g7 (au _));clear h7 g7 H6 B6) |
  (with_reducible show wpList _ _ _ (Oper.mk _ (Op.insert _ _ _ _) _ _ _ _::_) _ _;refine uY _ rfl _ _ _ 146 rfl 3 145 pU underlying146 _ _ rfl H7.out (by unfold maxLen;simp) (.int .i64 8) (kv 8) (.int .i64 8) rfl rfl (Maps.keyOf_int_mk underlying3 (by decide)) (rY _ _) ?_;intro w8 h8 g8;have H8:=ah h8;have B8:=ah (bg B7.out g8 (au _));clear h8 g8 H7 B7))
 go_ret;exact⟨rfl,H8.out,B8.out⟩
theorem U0:∀k:Nat,1≤k→k≤8→qC Fa BX (.int .i64 (k:Int))=kv k∧Aa BX (.int .i64 (k:Int))=true
 |1,_,_|2,_,_|3,_,_|4,_,_|5,_,_|6,_,_|7,_,_|8,_,_=>⟨rfl,rfl⟩
 |0,h,_=>aJ h (by omega)
 |n+9,_,h=>aJ h (by omega)
theorem aiV{k:Int}(h:¬(1≤k∧k≤8)):qC Fa BX (.int .i64 k)=Fa:=by
 have hs:∀n:Int,1≤n→n≤8→(Lit.int .i64 n).sameKey (.int .i64 k)=false:=fun n h1 h2=>by
  simp only[Lit.sameKey,bV];rintro⟨_,rfl⟩;exact h ⟨h1,h2⟩
 simp only[BX,qC,hs 1 (by decide) (by decide),hs 2 (by decide) (by decide),hs 3 (by decide) (by decide),hs 4 (by decide) (by decide),hs 5 (by decide) (by decide),hs 6 (by decide) (by decide),hs 7 (by decide) (by decide),hs 8 (by decide) (by decide),cond_false]
theorem abR(k:Int):∃F,(F=.nilFunc∨∃n,F=.func (.func n) #[] #[])∧qC Fa BX (.int .i64 k)=.agg #[.string (txt (EK (eH k))),.int .i64 (iP (eH k):Int),F]:=by
 by_cases h:1≤k∧k≤8
 ·obtain⟨n,rfl⟩:∃n:Nat,k=n:=⟨k.toNat,by omega⟩
  rw[(U0 n (by omega) (by omega)).1,OL (by omega) (by omega)];exact⟨_,.inr ⟨_,rfl⟩,rfl⟩
 rw[aiV h];unfold eH
 rw[ay h];exact⟨_,.inl rfl,rfl⟩
theorem BA {P : Program} {f : FuncId} {fn : Func} {c : Code} (hf : P.funcs[f]? = some fn) (hname : (fn.name == "runtime.NumGoroutine") = false) (hb : fn.body = some c) (args : Array Value) (w : World) : (callFunc f args).run P w = .ok (.enter f args) w := by
 have h1 : fn.name ≠ "runtime.NumGoroutine" := by simpa using hname
 simp[callFunc,hf,h1,hb]
theorem abN(w:World):∀k,1≤k→k≤8→(callFunc (uQ k) #[]).run prog w=.ok (.enter (uQ k) #[]) w
 |1,_,_=>BA func127 rfl rfl _ _
 |2,_,_=>BA func128 rfl rfl _ _
 |3,_,_=>BA func129 rfl rfl _ _
 |4,_,_=>BA func130 rfl rfl _ _
 |5,_,_=>BA func131 rfl rfl _ _
 |6,_,_=>BA func132 rfl rfl _ _
 |7,_,_=>BA func133 rfl rfl _ _
 |8,_,_=>BA func134 rfl rfl _ _
 |0,h,_=>aJ h (by omega)
 |n+9,_,h=>aJ h (by omega)
theorem wf_i64{k:Int}(h:iK k):(Lit.int .i64 k).wf=true:=by
 unfold iK at h;simp only[Lit.wf,show IntKind.i64.min = -9223372036854775808 from rfl,show IntKind.i64.max=9223372036854775807 from rfl,bT,bG];omega
theorem aax(S:ByteArray)(R:Int)(F:Value)(x:World):(Instr.field 145 (.agg #[.string S,.int .i64 R,F]) 0).run prog x=.ok (.string S) x:=by rfl
theorem aay(S:ByteArray)(R:Int)(F:Value)(x:World):(Instr.field 145 (.agg #[.string S,.int .i64 R,F]) 1).run prog x=.ok (.int .i64 R) x:=by rfl
theorem ND(k:Int)(w:World)(hk:iK k):Calls prog 37 #[.int .i64 k] w (aj w (.int .i64 (iP (eH k):Int))):=by
 obtain⟨F,hor,hF⟩:=abR k;have hf0:=aax;have hf1:=aay;have HF:=ah hF;have HK:=ah (wf_i64 hk);clear hF hk;generalize EK (eH k)=N at *;generalize iP (eH k)=R at *;rcases hor with rfl|⟨n,rfl⟩
 ·skip
  go_enter func37,ntmps37
  go_wp2_with(first |
   (go_at_call 79;refine(F6 _).mono ?_;rintro e w1 ⟨rfl,h1,b1⟩;have H1:=ah h1;have B1:=ah b1;clear h1 b1) |
   (at_lookup;refine E5 _ rfl _ _ 146 rfl 3 145 pU underlying146 (Ie _) _ _ rfl H1.out (.int .i64 k) (.int .i64 k) rfl (Maps.keyOf_int_mk underlying3 HK.out) HF.out ?_))
  go_ret;exact⟨rfl,B1.out⟩
 skip
 go_enter func37,ntmps37
 go_wp2_with(first |
  (go_at_call 79;refine(F6 _).mono ?_;rintro e w1 ⟨rfl,h1,b1⟩;have H1:=ah h1;have B1:=ah b1;clear h1 b1) |
  (at_lookup;refine E5 _ rfl _ _ 146 rfl 3 145 pU underlying146 (Ie _) _ _ rfl H1.out (.int .i64 k) (.int .i64 k) rfl (Maps.keyOf_int_mk underlying3 HK.out) HF.out ?_))
 go_ret;exact⟨rfl,B1.out⟩
theorem ajH(k:Int)(w:World)(hk:iK k):Calls prog 240 #[.int .i64 k] w (aj w (.string (txt (EK (eH k))))):=by
 obtain⟨F,hor,hF⟩:=abR k;have hf0:=aax;have hf1:=aay;have HF:=ah hF;have HK:=ah (wf_i64 hk);clear hF hk;generalize EK (eH k)=N at *;generalize iP (eH k)=R at *;rcases hor with rfl|⟨n,rfl⟩
 ·skip
  go_enter func240,ntmps240
  go_wp2_with(first |
   (go_at_call 79;refine(F6 _).mono ?_;rintro e w1 ⟨rfl,h1,b1⟩;have H1:=ah h1;have B1:=ah b1;clear h1 b1) |
   (at_lookup;refine E5 _ rfl _ _ 146 rfl 3 145 pU underlying146 (Ie _) _ _ rfl H1.out (.int .i64 k) (.int .i64 k) rfl (Maps.keyOf_int_mk underlying3 HK.out) HF.out ?_))
  go_ret;exact⟨rfl,B1.out⟩
 skip
 go_enter func240,ntmps240
 go_wp2_with(first |
  (go_at_call 79;refine(F6 _).mono ?_;rintro e w1 ⟨rfl,h1,b1⟩;have H1:=ah h1;have B1:=ah b1;clear h1 b1) |
  (at_lookup;refine E5 _ rfl _ _ 146 rfl 3 145 pU underlying146 (Ie _) _ _ rfl H1.out (.int .i64 k) (.int .i64 k) rfl (Maps.keyOf_int_mk underlying3 HK.out) HF.out ?_))
 go_ret;exact⟨rfl,B1.out⟩
def P6:Value:=.agg #[.int .u64 0,.int .i64 0,.int .i64 0,.string ⟨#[]⟩]
theorem aiN:(prog.info? 94).map (fun i=>(i.zero,i.size,i.bytes))=some (some P6,4,40):=by kernel_rfl
theorem ac4{P:Program}{w:World}(t ty e:TypeId)(i:TypeInfo)(ht:P.underlying t=some (.slice e))(hi:P.info? e=some i)(hz:i.zero=some P6)(hsz:i.size=4)(hby:i.bytes=40)
 {base:Nat} {A:Option Addr} {g c d:Nat} {l:List Sp} {s:Sp} (hown:w.ownsRow base e 4 (.slice A l.length c) l.length (lS l)) (hB:∀j u,(KD s)[j]?=some u→w.cell? ((⟨g,0,none⟩:Addr).add j)=some u) (hl:l.length≤100000) (hb:base≤w.heap.size) :
 ∃(A':Option Addr) (c':Nat) (w':World),(Builtin.append_ #[t,t] ty #[.slice A l.length c,.slice (some ⟨g,0,none⟩) 1 d]).run P w=.ok (.slice A' (l++[s]).length c') w'∧w'.ownsRow base e 4 (.slice A' (l++[s]).length c') (l++[s]).length (lS (l++[s]))∧
  w.grownBy w' (Value.slice A l.length c).ownBlock:=by
 have e1:lS [s]=KD s:=by simp[lS]
 obtain⟨g',cap,w',hr,h2,h3,h4,h5⟩:=run_append_lies (P:=P) w t ty base e i P6 4 40 ht hi hz hsz hby rfl (by decide) _ l.length (lS l) hown ⟨g,0,none⟩ 1 d (KD s) rfl hB (fun u hu=>amU [s] u (by rw[e1];exact hu)) (by decide) (by unfold maxLen;omega) (by omega) hb w.heap.size rfl
 have e2:(l++[s]).length=l.length+1:=by simp
 refine⟨some ⟨g',0,none⟩,cap,w',by rw[e2];exact hr,?_,h3⟩
 rw[amT,e1,e2]
 exact h2
def MN(w:World)(l:List Sp)(vv:Value)(wr:World):Prop:=∃A c,vv=.slice A l.length c∧wr.ownsRow w.heap.size 94 4 vv l.length (lS l)∧Below w.heap.size w wr
def qw(w:World)(l:List Sp)(e:Ending)(w':World):Prop:=∃A c,e=.returned (.slice A l.length c)∧Rd w' A (lS l)∧l.length≤c∧Below w.heap.size w w'
theorem OM(k v:Nat)(w:World)(h1:1≤k)(h8:k≤8)(hv:iP k≤v)(hv3:v≤3):Calls prog 39 #[.int .i64 (k:Int),.int .i64 (v:Int)] w (qw w (fJ k v)):=by
 obtain⟨i0,hi0,hz0,hz1,hz2⟩:=info_parts aiN;obtain⟨hG,hH⟩:=U0 k h1 h8;obtain⟨N,hN⟩:∃N,N=txt (EK k):=⟨_,rfl⟩;obtain⟨L,hL⟩:∃L,L=jm k:=⟨_,rfl⟩;have hG':qC Fa BX (.int .i64 (k:Int))=.agg #[.string N,.int .i64 (iP k:Int),.func (.func (uQ k)) #[] #[]]:=by rw[hG,hN];rfl
 have HG:=ah hG';have HH:=ah hH;have HW:=ah (wf_i64 (k:=(k:Int)) (by unfold iK;omega));have sQ:Hid (∀x:World,Calls prog (uQ k) #[] x (uz x k)):=fun x=>adf x k h1 h8;have hent:∀x:World,(callFunc (uQ k) #[]).run prog x=.ok (.enter (uQ k) #[]) x:=fun x=>abN x k h1 h8;have hLl:L.length≤5:=by
  subst hL;clear hv hG hH hN hG' HG HH HW sQ hent;revert h1 h8
  match k with
  |0|1|2|3|4|5|6|7|8=>intros;decide
  |n+9=>intro _ h;omega
 have hv1:¬(v:Int)<(iP k:Int):=by omega
 have hv2:¬(3:Int)<(v:Int):=by omega
 have nU:Hid (fJ k v=L.filter fun s=>decide (s.from_≤v)):=by show _=_;rw[hL];rfl
 have AY:=ah hL;generalize uQ k=fn at *;generalize iP k=fr at *;clear hG hH hG' hN hL h1 h8;go_enter func39,ntmps39
 go_wp2_with(first |
  (go_at_call 79;refine(F6 _).mono ?_;rintro e w1 ⟨rfl,h1,b1⟩;have H1:=ah h1;have B1:=ah b1;clear h1 b1) |
  (at_lookup;refine Wq _ rfl _ _ 146 rfl 3 145 pU underlying146 (Ie _) _ _ rfl H1.out (.int .i64 (k:Int)) (.int .i64 (k:Int)) rfl (Maps.keyOf_int_mk underlying3 HW.out) HG.out HH.out ?_))
 refine(sQ.out _).mono ?_;rintro e w2 ⟨bs,rfl,hbs,hrd,hb2⟩;rw[← AY.out]at hrd⊢;have HB2:=ah (bb (ba B1.out _) hb2);have jq:=ah hrd;clear hrd hb2 H1 B1 sQ hent;go_wp2_with fail;have H0:Hid (MN w2 ((L.take 0).filter fun s=>decide (s.from_≤v)) (.slice none 0 0) w2):=⟨none,0,rfl,World.ownsRow_nil _ _ _ _,b0⟩;go_loopg [7,32] L.length (fun gk vv ki wr=>∃j:Nat,j≤L.length∧L.length - j≤gk∧ki=.int .i64 (j:Int)∧Hid (MN w2 ((L.take j).filter fun s=>decide (s.from_≤v)) vv wr))
 case atStart=>exact⟨0,aW _,by omega,rfl,H0⟩
 case round=>
  obtain⟨j,hj,hgj,rfl,HS⟩:=hrel;obtain⟨A,c,rfl,hown,hbel⟩:=HS.out;by_cases hlt:j<L.length
  ·obtain⟨b,off,iL,hbl,c0,c1,c2,c3⟩:=uU (jq.out.below hbel) hlt
   injection iL with iL;injection iL with e1 e2;subst e1 e2;simp only[aX]at c0 c1 c2 c3;have hst:(L.take (j+1)).filter (fun s=>decide (s.from_≤v))=(L.take j).filter (fun s=>decide (s.from_≤v))++(if L[j].from_≤v then[L[j]]else[]):=by
    rw[← aT hlt,List.filter_append,List.filter_cons,List.filter_nil];by_cases h:L[j].from_≤v<;>simp[h]
   have hln:((L.take j).filter fun s=>decide (s.from_≤v)).length≤5:=aI (List.length_filter_le _ _) (by rw[bD];omega);have HST:=ah hst;generalize L[j]=s at *;generalize(L.take j).filter (fun s=>decide (s.from_≤v))=F at *;have eU:=ba (a:=wr) b0 (.cells #[.int .u64 (s.tag:Int),.int .i64 (s.use:Int),.int .i64 (s.from_:Int),.string (txt s.nm)] 94);have Ac:=ba eU (.cells #[.int .u64 (s.tag:Int),.int .i64 (s.use:Int),.int .i64 (s.from_:Int),.string (txt s.nm)] 94);have Ap:=World.news_of_block (cs:=#[.int .u64 (s.tag:Int),.int .i64 (s.use:Int),.int .i64 (s.from_:Int),.string (txt s.nm)]) (t:=94) (fr:=(0,0)) (heap_alloc_new (wr.alloc (.cells #[.int .u64 (s.tag:Int),.int .i64 (s.use:Int),.int .i64 (s.from_:Int),.string (txt s.nm)] 94)) (.cells #[.int .u64 (s.tag:Int),.int .i64 (s.use:Int),.int .i64 (s.from_:Int),.string (txt s.nm)] 94))
   simp only[World.size_alloc]at Ap;have hw2:=hbel.size;by_cases hf:s.from_≤v
   ·obtain⟨A2,c2',w3,hrun,hown3,hg3⟩:=ac4 (g:=wr.heap.size+1) (d:=1) (s:=s) 91 91 94 i0 underlying91 hi0 hz0 hz1 hz2 (own_below hown Ac) Ap (by omega) (by simp;omega)
    have lC:=ah hrun;have HN:Hid (MN w2 (F++[s]) (.slice A2 (F++[s]).length c2') w3):=⟨A2,c2',rfl,hown3,(hbel.trans (Ac.mono hw2)).grown hg3 (by simp;omega) fun k hk=>(hown.lt k hk).1⟩;have hfi:(s.from_:Int)≤(v:Int):=(by omega);rw[aA hf]at HST;clear hown hbel hrun hown3 hg3 Ap eU Ac HS H0 hst hln;go_wp2_with(at_builtin;(refine wpList_append_run rfl _ _ _ _ rfl _ _ _ rfl rfl lC.out ?_));go_roundg (L.length - (j+1))
    case measure=>omega
    case rel=>exact⟨j+1,by omega,au _,by go_num,by
     have h:=HN;rw[aC]at h;rw[HST.out];exact h⟩
   have HN:Hid (MN w2 F (.slice A F.length c) (wr.alloc (.cells #[.int .u64 (s.tag:Int),.int .i64 (s.use:Int),.int .i64 (s.from_:Int),.string (txt s.nm)] 94))):=⟨A,c,rfl,own_below hown eU,hbel.trans (eU.mono hw2)⟩;have hfi:¬(s.from_:Int)≤(v:Int):=(by omega);rw[ay hf,bQ]at HST;clear hown hbel Ap eU Ac HS H0 hst hln;go_wp2_with fail;go_roundg (L.length - (j+1))
   case measure=>omega
   case rel=>exact⟨j+1,by omega,au _,by go_num,by rw[HST.out];exact HN⟩
  obtain rfl:j=L.length:=by omega
  have HE:Hid (qw w (fJ k v) (.returned (.slice A ((L.take L.length).filter fun s=>decide (s.from_≤v)).length c)) wr):=by
   rw[aU (au _),← nU.out]at hown⊢;obtain⟨A',c',h1,h2,h3,_⟩:=Rd.own hown;injection h1 with e1 _ e3;subst e1 e3;exact⟨_,_,rfl,h2,h3,HB2.out.trans (hbel.mono HB2.out.size)⟩
  clear hown hbel HS H0;generalize((L.take L.length).filter fun s=>decide (s.from_≤v)).length=n at *;go_wp2_with fail;go_ret;exact HE.out
theorem aiI:(prog.info? 22).map (fun i=>(i.zero,i.size,i.bytes))=some (some (.int .u64 0),1,8):=by kernel_rfl
theorem adp(k v:Nat)(w:World)(h1:1≤k)(h8:k≤8)(hv:iP k≤v)(hv3:v≤3):Calls prog 41 #[.int .i64 (k:Int),.int .i64 (v:Int)] w
 fun e w'=>∃A c,e=.returned (.slice A (jc k v).length c)∧Rd w' A (mY (jc k v))∧(jc k v).length≤c∧Below w.heap.size w w':=by
 obtain⟨i0,hi0,hz0,hz1,hz2⟩:=info_parts aiI
 have HK:=ah (OM k v w h1 h8 hv hv3)
 obtain⟨L,hL⟩:∃L,L=fJ k v:=⟨_,rfl⟩
 have hkt:jc k v=L.map Sp.tag:=by rw[hL];rfl
 have hLl:L.length≤100:=by
  rw[hL];refine aI (List.length_filter_le _ _) ?_;clear HK hL hkt hv;revert h1 h8
  match k with
  |0|1|2|3|4|5|6|7|8=>intros;decide
  |n+9=>intro _ h;omega
 rw[hkt,aY]
 rw[← hL]at HK
 clear hL hkt h1 h8 hv hv3
 go_enter func41,ntmps41
 go_wp2_with fail
 refine HK.out.mono ?_
 rintro e w2 ⟨A0,c0,rfl,hrd,hc0,hb2⟩
 have HB2:=ah hb2
 have jq:=ah hrd
 clear hrd hb2 HK
 go_wp2_with fail
 have H0:Hid (w2.ownsRow w2.heap.size 22 1 (.slice none 0 0) 0 (mY ((L.map Sp.tag).take 0))):=World.ownsRow_nil _ _ _ _
 go_loopg [5,12] L.length (fun gk vv ki wr=>∃j:Nat,j≤L.length∧L.length - j≤gk∧ki=.int .i64 (j:Int)∧Hid (wr.ownsRow w2.heap.size 22 1 vv j (mY ((L.map Sp.tag).take j)))∧Below w2.heap.size w2 wr)
 case atStart=>exact⟨0,aW _,by omega,rfl,H0,b0⟩
 case round=>
  obtain⟨j,hj,hgj,rfl,HO,hb⟩:=hrel;have HB:=ah hb;by_cases hlt:j<L.length
  ·obtain⟨b,off,rfl,hbl,c0',c1,c2,c3⟩:=uU (jq.out.below hb) hlt
   have hst:Hid (mY ((L.map Sp.tag).take (j+1))=mY ((L.map Sp.tag).take j)++[.int .u64 (L[j].tag:Int)]):=by
    show _=_;rw[← aT (show j<(L.map Sp.tag).length by rw[aY];exact hlt)];simp[mY]
   generalize L[j]=s at *;have hwz:=hb.size;have hnew:=Ku (wr.alloc (.cells #[.int .u64 (s.tag:Int),.int .i64 (s.use:Int),.int .i64 (s.from_:Int),.string (txt s.nm)] 94)) (.int .u64 (s.tag:Int)) 22;simp only[World.size_alloc]at hnew;clear hb;go_wp2_with(at_builtin;go_must(refine wpList_append_own _ rfl _ _ 97 rfl w2.heap.size 22 i0 (.int .u64 0) 1 8 underlying97 hi0 hz0 hz1 hz2 rfl (by decide) _ _ _ rfl ((HO.out.alloc _).alloc _) ⟨wr.heap.size+1,0,none⟩ 1 1 [.int .u64 (s.tag:Int)] rfl rfl hnew (acy _ _) (by unfold maxLen;omega) (by omega) (by simp;omega) ?_);intro v1 w3 hown2 hg2 _);go_roundg (L.length - (j+1))
   case measure=>omega
   case rel=>
    refine⟨j+1,by omega,au _,by go_num,?_,RH (ba (ba HB.out _) _) ((HO.out.alloc _).alloc _) hg2⟩;rw[hst.out];exact hown2
  obtain rfl:j=L.length:=by omega
  have h:=HO.out;rw[aU (by simp)]at h;obtain⟨A',c',rfl,h2,h3,_⟩:=Rd.own h;have HE2:Hid (Rd wr A' (mY (L.map Sp.tag))∧L.length≤c'∧Below w.heap.size w wr):=⟨h2,h3,HB2.out.trans (hb.mono HB2.out.size)⟩;clear hb h h2 h3 HO H0;go_wp2_with fail;go_ret;exact⟨A',c',rfl,HE2.out⟩
theorem amQ(k:Nat)(w:World)(h1:1≤k)(h8:k≤8):Calls prog 98 #[.int .i64 (k:Int)] w (uz w k):=by
 obtain⟨hG,hH⟩:=U0 k h1 h8;obtain⟨N,hN⟩:∃N,N=txt (EK k):=⟨_,rfl⟩;have hG':qC Fa BX (.int .i64 (k:Int))=.agg #[.string N,.int .i64 (iP k:Int),.func (.func (uQ k)) #[] #[]]:=by rw[hG,hN];rfl
 have HG:=ah hG';have HH:=ah hH;have HW:=ah (wf_i64 (k:=(k:Int)) (by unfold iK;omega));have sQ:Hid (∀x:World,Calls prog (uQ k) #[] x (uz x k)):=fun x=>adf x k h1 h8;have hent:∀x:World,(callFunc (uQ k) #[]).run prog x=.ok (.enter (uQ k) #[]) x:=fun x=>abN x k h1 h8;generalize uQ k=fn at *;generalize iP k=fr at *;clear hG hH hG' hN h1 h8;go_enter func98,ntmps98
 go_wp2_with(first |
  (go_at_call 79;refine(F6 _).mono ?_;rintro e w1 ⟨rfl,h1,b1⟩;have H1:=ah h1;have B1:=ah b1;clear h1 b1) |
  (at_lookup;refine Wq _ rfl _ _ 146 rfl 3 145 pU underlying146 (Ie _) _ _ rfl H1.out (.int .i64 (k:Int)) (.int .i64 (k:Int)) rfl (Maps.keyOf_int_mk underlying3 HW.out) HG.out HH.out ?_))
 refine(sQ.out _).mono ?_;rintro e w2 ⟨bs,rfl,hbs,hrd,hb2⟩;have hsz:=B1.out.size;have HE:Hid (uz w k (.returned (.slice (some ⟨bs,0,none⟩) (jm k).length (jm k).length)) w2):=⟨bs,rfl,by rw[World.size_alloc]at hbs;omega,hrd,bb (ba B1.out _) hb2⟩;clear hrd hb2 H1 B1 sQ hent hsz;generalize(jm k).length=n at *;go_wp2_with fail;go_ret;exact HE.out
theorem an8(w:World):(zeroValue 3).run prog w=.ok (.int .i64 0) w:=rfl
def adz:List (Lit×Value):=[(.int .i64 0,.int .i64 0),(.int .i64 1,.int .i64 0),(.int .i64 2,.int .i64 0),(.int .i64 3,.int .i64 1),(.int .i64 4,.int .i64 1),(.int .i64 5,.int .i64 1)]
theorem ane:∀u:Nat,u≤5→qC (.int .i64 0) adz (.int .i64 (u:Int))=.int .i64 (if u≤2 then 0 else 1)∧Aa adz (.int .i64 (u:Int))=true
 |0,_|1,_|2,_|3,_|4,_|5,_=>⟨rfl,rfl⟩
 |n+6,h=>aJ h (by omega)
theorem H9(u:Nat)(w:World)(hu:u≤5):Calls prog 139 #[.int .i64 (u:Int)] w (aj w (.int .i64 (if u≤2 then 0 else 1))):=by
 have hmm:=@run_makeMap prog;have H0:=ah (MapAt.made w prog 3);have B0:=ah (ba (a:=w) b0 (.map #[] 0));obtain⟨hG,hH⟩:=ane u hu;have HG:=ah hG;have HH:=ah hH;have HW:=ah (wf_i64 (k:=(u:Int)) (by unfold iK;omega));generalize(if u≤2 then(0:Int)else 1)=R at *;clear hG hH;go_enter func139,ntmps139
 go_wp2_with(first |
  (with_reducible show wpList _ _ _ (Oper.mk _ (Op.insert _ _ _ _) _ _ _ _::_) _ _;refine uY _ rfl _ _ _ 267 rfl 3 3 pU underlying267 _ _ rfl H0.out (by unfold maxLen;simp) (.int .i64 0) (.int .i64 0) (.int .i64 0) rfl rfl (Maps.keyOf_int_mk underlying3 (by decide)) (rY _ _) ?_;intro w1 h1 g1;have H1:=ah h1;have B1:=ah (bg B0.out g1 (au _));clear h1 g1 H0 B0) |
  (with_reducible show wpList _ _ _ (Oper.mk _ (Op.insert _ _ _ _) _ _ _ _::_) _ _;refine uY _ rfl _ _ _ 267 rfl 3 3 pU underlying267 _ _ rfl H1.out (by unfold maxLen;simp) (.int .i64 1) (.int .i64 0) (.int .i64 1) rfl rfl (Maps.keyOf_int_mk underlying3 (by decide)) (rY _ _) ?_;intro w2 h2 g2;have H2:=ah h2;have B2:=ah (bg B1.out g2 (au _));clear h2 g2 H1 B1) |
  (with_reducible show wpList _ _ _ (Oper.mk _ (Op.insert _ _ _ _) _ _ _ _::_) _ _;refine uY _ rfl _ _ _ 267 rfl 3 3 pU underlying267 _ _ rfl H2.out (by unfold maxLen;simp) (.int .i64 2) (.int .i64 0) (.int .i64 2) rfl rfl (Maps.keyOf_int_mk underlying3 (by decide)) (rY _ _) ?_;intro w3 h3 g3;have H3:=ah h3;have B3:=ah (bg B2.out g3 (au _));clear h3 g3 H2 B2) |
  (with_reducible show wpList _ _ _ (Oper.mk _ (Op.insert _ _ _ _) _ _ _ _::_) _ _;refine uY _ rfl _ _ _ 267 rfl 3 3 pU underlying267 _ _ rfl H3.out (by unfold maxLen;simp) (.int .i64 3) (.int .i64 1) (.int .i64 3) rfl rfl (Maps.keyOf_int_mk underlying3 (by decide)) (rY _ _) ?_;intro w4 h4 g4;have H4:=ah h4;have B4:=ah (bg B3.out g4 (au _));clear h4 g4 H3 B3) |
  (with_reducible show wpList _ _ _ (Oper.mk _ (Op.insert _ _ _ _) _ _ _ _::_) _ _;refine uY _ rfl _ _ _ 267 rfl 3 3 pU underlying267 _ _ rfl H4.out (by unfold maxLen;simp) (.int .i64 4) (.int .i64 1) (.int .i64 4) rfl rfl (Maps.keyOf_int_mk underlying3 (by decide)) (rY _ _) ?_;intro w5 h5 g5;have H5:=ah h5;have B5:=ah (bg B4.out g5 (au _));clear h5 g5 H4 B4) |
  (with_reducible show wpList _ _ _ (Oper.mk _ (Op.insert _ _ _ _) _ _ _ _::_) _ _;refine uY _ rfl _ _ _ 267 rfl 3 3 pU underlying267 _ _ rfl H5.out (by unfold maxLen;simp) (.int .i64 5) (.int .i64 1) (.int .i64 5) rfl rfl (Maps.keyOf_int_mk underlying3 (by decide)) (rY _ _) ?_;intro w6 h6 g6;have H6:=ah h6;have B6:=ah (bg B5.out g6 (au _));clear h6 g6 H5 B5) |
  (at_lookup;refine Wq _ rfl _ _ 267 rfl 3 3 pU underlying267 (an8 _) _ _ rfl H6.out (.int .i64 (u:Int)) (.int .i64 (u:Int)) rfl (Maps.keyOf_int_mk underlying3 HW.out) HG.out HH.out ?_))
 go_ret;exact⟨rfl,B6.out⟩
end Go.Proofs.YtgidfnhfgiehjaaGreatDoor
section
namespace Go.PM
open Go.RowKit
structure Rv where
 d:List fD
 A:Option Addr
 c:Nat
 n:Nat
def Rv.rw(r:Rv):Rw:=(r.d,r.n)
def encR(r:Rv):List Value:=[.slice r.A r.d.length r.c,.int .u64 (r.n:Int)]
def gZ(l:List Rv):List Value:=l.flatMap encR
theorem VL:∀l:List Rv,(gZ l).length=l.length*2
 |[]=>rfl
 |a::r=>by
   show(gZ r).length+1+1=(r.length+1)*2;rw[VL r];omega
theorem Pq(l m:List Rv):gZ (l++m)=gZ l++gZ m:=by simp[gZ]
theorem VK:∀(l:List Rv) (k:Nat) (h:k<l.length),(gZ l)[k*2]?=some (.slice l[k].A l[k].d.length l[k].c)∧(gZ l)[k*2+1]?=some (.int .u64 (l[k].n:Int))
 |a::r,0,_=>⟨rfl,rfl⟩
 |a::r,k+1,h=>by
   have ih:=VK r k (by simpa using h);rw[show(k+1)*2=k*2+1+1 by omega];exact ih
theorem amr(l:List Rv):∀u∈gZ l,u.oneCell'=true:=fun u hu=>by
 obtain⟨a,_,h⟩:=List.mem_flatMap.1 hu;simp only[encR,bC,bW,or_false]at h;rcases h with rfl|rfl<;>rfl
def pG(w:World)(I:Nat→Prop)(A:Option Addr)(l:List fD):Prop:=l=[]∨∃b off,A=some ⟨b,off,none⟩∧I b∧b<w.heap.size∧∀j u,(ents l)[j]?=some u→w.cell? ⟨b,off+j,none⟩=some u
section
variable {w w':World} {I J S:Nat→Prop} {A:Option Addr} {l:List fD}
theorem pG.rd(h:pG w I A l):Rd w A (ents l):=by
 rcases h with rfl|⟨b,off,e,_,hb,hc⟩
 ·exact .inl rfl
 exact .inr ⟨b,off,e,hb,hc⟩
theorem pG.imp(h:pG w I A l)(hi:∀b,b<w.heap.size→I b→J b):pG w J A l:=Or.imp id (fun⟨b,off,e,hI,hb,hc⟩=>⟨b,off,e,hi b hb hI,hb,hc⟩) h
theorem pG.fE(h:pG w I A l)(hg:dX S w w')(hs:∀b,I b→¬S b):pG w' I A l:=Or.imp id (fun⟨b,off,e,hI,hb,hc⟩=>⟨b,off,e,hI,aQ hb hg.size,fun j u hj=>(World.cell?_of_block (a:=⟨b,off+j,none⟩) (hg.block b hb (hs b hI))).trans (hc j u hj)⟩) h
theorem pG.below(h:pG w I A l)(hb:Below w.heap.size w w'):pG w' I A l:=h.fE (S:=fun _=>False) (dX.below hb) fun _ _=>id
theorem Rd.zi(h:Rd w A (ents l))(hf:∀b off,A=some ⟨b,off,none⟩→I b):pG w I A l:=by
 rcases h with h|⟨b,off,e,hb,hc⟩
 ·left
  have h1:=yS l;rw[h]at h1;exact aV (by simp only[cO]at h1;omega)
 exact .inr ⟨b,off,e,hf b off e,hb,hc⟩
end
def gJ(w:World)(I:Nat→Prop)(r:Rv):Prop:=r.d.length≤r.c∧pG w I r.A r.d
theorem gJ.fE{w w':World}{I S:Nat→Prop}{r:Rv}(h:gJ w I r)(hg:dX S w w')(hs:∀b,I b→¬S b):gJ w' I r:=⟨h.1,h.2.fE hg hs⟩
theorem gJ.below{w w':World}{I:Nat→Prop}{r:Rv}(h:gJ w I r)(hb:Below w.heap.size w w'):gJ w' I r:=⟨h.1,h.2.below hb⟩
theorem gJ.imp{w:World}{I J:Nat→Prop}{r:Rv}(h:gJ w I r)(hi:∀b,b<w.heap.size→I b→J b):gJ w J r:=⟨h.1,h.2.imp hi⟩
theorem Rd.row{w:World}{A:Option Addr}{l:List Rv}(h:Rd w A (gZ l)){k:Nat}(hk:k<l.length):∃b off,A=some ⟨b,off,none⟩∧b<w.heap.size∧w.cell? ⟨b,off+k*2,none⟩=some (.slice l[k].A l[k].d.length l[k].c)∧w.cell? ⟨b,off+k*2+1,none⟩=some (.int .u64 (l[k].n:Int)):=by
 obtain⟨h1,h2⟩:=VK l k hk;rcases h with h|⟨b,off,e,hb,hc⟩
 ·rw[h]at h1;simp at h1
 exact⟨b,off,e,hb,hc _ _ h1,hc _ _ h2⟩
def vF(w:World)(I:Nat→Prop)(v:Value)(t:List Rw):Prop:=∃(l:List Rv) (A:Option Addr) (c:Nat),v=.slice A l.length c∧t=l.map Rv.rw∧Rd w A (gZ l)∧(∀r∈l,gJ w I r)∧l.length≤c
theorem vF.below{w w':World}{I:Nat→Prop}{v:Value}{t:List Rw}(h:vF w I v t)(hb:Below w.heap.size w w'):vF w' I v t:=by
 obtain⟨l,A,c,h1,h2,h3,h4,h5⟩:=h;exact⟨l,A,c,h1,h2,h3.below hb,fun r hr=>(h4 r hr).below hb,h5⟩
theorem vF.nil(w:World)(I:Nat→Prop):vF w I (.slice none 0 0) []:=⟨[],none,0,rfl,rfl,.inl rfl,by simp,au _⟩
def Fb:Value:=.agg #[.slice none 0 0,.int .u64 0]
theorem VB{P:Program}{w:World}(t ty e:TypeId)(i:TypeInfo)(ht:P.underlying t=some (.slice e))(hi:P.info? e=some i)(hz:i.zero=some Fb)(hsz:i.size=2)(hby:i.bytes=32)
 {base:Nat} {A:Option Addr} {g c d:Nat} {l:List Rv} {r:Rv} (hown:w.ownsRow base e 2 (.slice A l.length c) l.length (gZ l)) (hB:Rd w (some ⟨g,0,none⟩) (gZ [r])) (hl:l.length≤100000) (hb:base≤w.heap.size) :
 ∃(A':Option Addr) (c':Nat) (w':World),(Builtin.append_ #[t,t] ty #[.slice A l.length c,.slice (some ⟨g,0,none⟩) 1 d]).run P w=.ok (.slice A' (l.length+1) c') w'∧w'.ownsRow base e 2 (.slice A' (l.length+1) c') (l.length+1) (gZ (l++[r]))∧
  w.grownBy w' (Value.slice A l.length c).ownBlock∧((Value.slice A' (l.length+1) c').ownBlock=(Value.slice A l.length c).ownBlock∨(Value.slice A' (l.length+1) c').ownBlock=some w.heap.size):=by
 have hc:∀j u,(gZ [r])[j]?=some u→w.cell? ⟨g,0+j,none⟩=some u:=by
  rcases hB with h|⟨b,o,e,_,hc⟩
  ·have h1:=VL [r]
   rw[h]at h1;simp at h1
  injection e with e;injection e with e1 e2;subst e1 e2;exact hc
 have hnews:∀j u,(gZ [r])[j]?=some u→w.cell? ((⟨g,0,none⟩:Addr).add j)=some u:=fun j u hj=>by rw[rV,← aX j];exact hc j u hj
 obtain⟨g',cap,w',hr,h2,h3,h4,h5⟩:=run_append_lies (P:=P) w t ty base e i Fb 2 32 ht hi hz hsz hby rfl (by decide) _ l.length (gZ l) hown ⟨g,0,none⟩ 1 d (gZ [r]) rfl hnews (amr [r]) (by decide) (by unfold maxLen;omega) (by omega) hb w.heap.size rfl
 refine⟨some ⟨g',0,none⟩,cap,w',hr,by rw[Pq];exact h2,h3,?_⟩
 rcases h4 with h4|h4
 ·exact .inl h4.symm
 ·right;rw[h4];rfl
end Go.PM
end
namespace Go.Proofs.YtgidfnhfgiehjaaGreatDoor
open Go.PM Go.RowKit Go.Proofs.Tryz
inductive Mv where
 |num (n:Nat)
 |flag (b:Bool)
 |qG (z:Int)
 |word (s:List UInt8)
 |of (d:List fD)
 |rows (t:List Rw)
def Mv.use:Mv→Nat
 |.num _=>0
 |.flag _=>1
 |.qG _=>2
 |.word _=>3
 |.of _=>4
 |.rows _=>5
def Mv.good:Mv→Prop
 |.num n=>n<18446744073709551616
 |.qG z=>iK z
 |.rows t=>∀x∈t,x.2<18446744073709551616
 |_=>True
def gy:Nat→Nat
 |0=>1
 |6=>4
 |14|15|17=>3
 |18=>2
 |20=>5
 |_=>0
structure Mp where
 kind:Int
 id:Nat
 min_:Nat
 max_:Nat
 chosen:Nat
 flags:Nat
 cost:Nat
 prio:Nat
 dead:Nat
 retry:Nat
 epoch:Nat
 base:Nat
 digest:Nat
 lag:Nat
 code:Nat
 want:Nat
 rem:Int
 al:Bool
 nm:List UInt8
 rg:List UInt8
 nt:List UInt8
 d:List fD
 t:List Rw
 rest:Fs
def m0:Mp:=⟨0,0,0,0,0,0,0,0,0,0,0,0,0,0,0,0,0,false,[],[],[],[],[],.nil⟩
def Mp.val(m:Mp):Nat→Mv
 |0=>.flag m.al
 |1=>.num m.base
 |2=>.num m.chosen
 |3=>.num m.code
 |4=>.num m.cost
 |5=>.num m.dead
 |6=>.of m.d
 |7=>.num m.digest
 |8=>.num m.epoch
 |9=>.num m.flags
 |10=>.num m.id
 |11=>.num m.lag
 |12=>.num m.max_
 |13=>.num m.min_
 |14=>.word m.nm
 |15=>.word m.nt
 |16=>.num m.prio
 |17=>.word m.rg
 |18=>.qG m.rem
 |19=>.num m.retry
 |20=>.rows m.t
 |21=>.num m.want
 |_=>.num 0
def Mp.put(m:Mp)(i:Nat)(v:Mv):Mp :=
 match i,v with
 |0,.flag b=>{ m with al:=b }
 |1,.num n=>{ m with base:=n }
 |2,.num n=>{ m with chosen:=n }
 |3,.num n=>{ m with code:=n }
 |4,.num n=>{ m with cost:=n }
 |5,.num n=>{ m with dead:=n }
 |6,.of d=>{ m with d:=d }
 |7,.num n=>{ m with digest:=n }
 |8,.num n=>{ m with epoch:=n }
 |9,.num n=>{ m with flags:=n }
 |10,.num n=>{ m with id:=n }
 |11,.num n=>{ m with lag:=n }
 |12,.num n=>{ m with max_:=n }
 |13,.num n=>{ m with min_:=n }
 |14,.word s=>{ m with nm:=s }
 |15,.word s=>{ m with nt:=s }
 |16,.num n=>{ m with prio:=n }
 |17,.word s=>{ m with rg:=s }
 |18,.qG z=>{ m with rem:=z }
 |19,.num n=>{ m with retry:=n }
 |20,.rows t=>{ m with t:=t }
 |21,.num n=>{ m with want:=n }
 |_,_=>m
theorem kD{P:Nat→Prop}(h0:P 0)(h1:P 1)(h2:P 2)(h3:P 3)(h4:P 4)(h5:P 5)(h6:P 6)(h7:P 7)(h8:P 8)(h9:P 9)(h10:P 10)(h11:P 11)(h12:P 12)(h13:P 13)(h14:P 14)(h15:P 15)(h16:P 16)(h17:P 17)(h18:P 18)(h19:P 19)(h20:P 20)(h21:P 21):∀i,i<22→P i
 |0,_=>h0|1,_=>h1|2,_=>h2|3,_=>h3|4,_=>h4|5,_=>h5|6,_=>h6|7,_=>h7|8,_=>h8|9,_=>h9|10,_=>h10|11,_=>h11|12,_=>h12|13,_=>h13|14,_=>h14|15,_=>h15
 |16,_=>h16|17,_=>h17|18,_=>h18|19,_=>h19|20,_=>h20|21,_=>h21
 |n+22,h=>aJ h (by omega)
theorem Mp.CB(m:Mp):∀i,(m.val i).use=gy i
 |0|1|2|3|4|5|6|7|8|9|10|11|12|13|14|15|16|17|18|19|20|21=>rfl
 |_+22=>rfl
theorem Mp.PY(m:Mp)(v:Mv):∀i,i<22→v.use=gy i→∀j,j<22→(m.put i v).val j=if j=i then v else m.val j:=by
 refine kD ?_ ?_ ?_ ?_ ?_ ?_ ?_ ?_ ?_ ?_ ?_ ?_ ?_ ?_ ?_ ?_ ?_ ?_ ?_ ?_ ?_ ?_<;>
  (intro h;cases v<;>first|(exfalso;revert h;simp[Mv.use,gy];done)|(refine kD ?_ ?_ ?_ ?_ ?_ ?_ ?_ ?_ ?_ ?_ ?_ ?_ ?_ ?_ ?_ ?_ ?_ ?_ ?_ ?_ ?_ ?_<;>rfl))
theorem Mp.Vz(m:Mp)(i:Nat)(v:Mv):(m.put i v).kind=m.kind∧(m.put i v).rest=m.rest:=by unfold Mp.put;split<;>exact⟨rfl,rfl⟩
theorem Mp.aad{m n:Mp}(hk:m.kind=n.kind)(hr:m.rest=n.rest)(h:∀i,i<22→m.val i=n.val i):m=n:=by
 obtain⟨k,a0,a1,a2,a3,a4,a5,a6,a7,a8,a9,a10,a11,a12,a13,a14,a15,a16,a17,a18,a19,a20,a21,a22⟩:=m;obtain⟨k',b0,b1,b2,b3,b4,b5,b6,b7,b8,b9,b10,b11,b12,b13,b14,b15,b16,b17,b18,b19,b20,b21,b22⟩:=n;have e:=fun i (hi:i<22)=>h i hi;have e0:=h 0 (by omega);have e1:=h 1 (by omega);have e2:=h 2 (by omega);have e3:=h 3 (by omega);have e4:=h 4 (by omega);have e5:=h 5 (by omega)
 have e6:=h 6 (by omega);have e7:=h 7 (by omega);have e8:=h 8 (by omega);have e9:=h 9 (by omega);have e10:=h 10 (by omega);have e11:=h 11 (by omega)
 have e12:=h 12 (by omega);have e13:=h 13 (by omega);have e14:=h 14 (by omega);have e15:=h 15 (by omega);have e16:=h 16 (by omega);have e17:=h 17 (by omega)
 have e18:=h 18 (by omega);have e19:=h 19 (by omega);have e20:=h 20 (by omega);have e21:=h 21 (by omega)
 clear h e;simp only[Mp.val,Mv.num.injEq,Mv.flag.injEq,Mv.qG.injEq,Mv.word.injEq,Mv.of.injEq,Mv.rows.injEq]at *;subst hk hr e0 e1 e2 e3 e4 e5 e6 e7 e8 e9 e10 e11 e12 e13 e14 e15 e16 e17 e18 e19 e20 e21;rfl
end Go.Proofs.YtgidfnhfgiehjaaGreatDoor
namespace Go.PM
def Aq:Nat→List (List UInt8)
 |0=>[]
 |k+1=>Aq k++(jm (k+1)).map Sp.nm
def OJ:List (List UInt8):=Aq 8
def U5:List (List UInt8):=[0,1,2,3,4,5,6,7,7,8,8,8,8,9,10,10,11,12,13,14,14,15,15,16,17,17,17,17,18,19,20,20,21].map dW
theorem aiZ:OJ.mergeSort (fun x y=>decide (x≤y))=U5:=by
 refine List.Perm.eq_of_pairwise (le:=fun x y:List UInt8=>decide (x≤y)=true) (fun a b _ _ h1 h2=>List.le_antisymm (by simpa using h1) (by simpa using h2)) ?_ ?_ ?_
 ·exact List.pairwise_mergeSort (fun a b c h1 h2=>by simp only[bG]at *;exact List.le_trans h1 h2) (fun a b=>by simp only[Bool.or_eq_true,bG];exact List.le_total a b) OJ
 ·decide
 refine(List.mergeSort_perm _ _).trans ?_;decide
theorem aiT:Lib.compact U5=tH:=by decide
end Go.PM
namespace Go.Proofs.YtgidfnhfgiehjaaGreatDoor
open Go.PM Go.RowKit Go.Sort Go.Proofs.Tryz
set_option maxRecDepth 100000
set_option maxHeartbeats 4000000
attribute [local go_sem ↓] Go.wp_at_zero Go.wp_at_succ
def oU(l:List (List UInt8)):List Value:=l.map fun s=>.string (txt s)
theorem ajK(l m:List (List UInt8)):oU (l++m)=oU l++oU m:=by simp[oU]
theorem Vh(l:List (List UInt8)):oU l=l.map encStr:=rfl
theorem aln{w:World}{A:Option Addr}{xs ys:List Value}(h:Rd w A (xs++ys)):Rd w A xs:=by
 rcases h with h|⟨b,off,e,hb,hc⟩
 ·left
  rw[List.append_eq_nil_iff]at h;exact h.1
 refine .inr ⟨b,off,e,hb,fun j u hj=>hc j u ?_⟩;rw[List.getElem?_append_left (by by_cases h:j<xs.length;exact h;rw[List.getElem?_eq_none (by omega)]at hj;cases hj)];exact hj
theorem amP(B:Nat)(v:Value)(l:List (List UInt8))(w:World)(h:w.ownsRow B 9 1 v l.length (oU l))(h0:0<l.length)(hl:l.length≤1000000) :
 Calls prog 99 #[v] w fun e w'=>e=.returned (.tuple #[])∧w'.ownsRow B 9 1 v l.length (oU (l.mergeSort fun x y=>decide (x≤y)))∧w.grownBy w' v.ownBlock:=by
 rcases h.2 with⟨rfl,h0'⟩|⟨g,cap,cur,rfl,hbase,hb,h1,h2,h3,h4⟩
 ·omega
 ·have hgl:g<w.heap.size:=(bY.1 hb).1
  refine(slices_Sort_string g 0 cap l w (holds_of_block hb (by rw[← Vh];simpa using h4)) hgl (by omega)).mono fun e w' ⟨he,n,os,hw⟩=>⟨he,?_,?_⟩
  ·rw[hw,Vh]
   exact ownsRow_sorted (w:=w) (n:=n) (os:=os) (ss:=l) (List.length_mergeSort _) hbase hb h1 h2 h3
  rw[hw];exact grownBy_sorted _
theorem afI(B:Nat)(v:Value)(l m:List (List UInt8))(w:World)(h:w.ownsRow B 9 1 v l.length (oU l))(h0:0<l.length)(hl:l.length≤1000000)(hm:Lib.compact l=m)(hml:m.length≤l.length) :
 Calls prog 100 #[v] w fun e w'=>∃g c,e=.returned (.slice (some ⟨g,0,none⟩) m.length c)∧B≤g∧Rd w' (some ⟨g,0,none⟩) (oU m)∧w.grownBy w' (some g):=by
 rcases h.2 with⟨rfl,h0'⟩|⟨g,cap,cur,rfl,hbase,hb,h1,h2,h3,h4⟩
 ·omega
 ·refine(slices_Compact_string g 0 cap l w (holds_of_block hb (by rw[← Vh];simpa using h4)) (by omega) h1).mono fun e w' ⟨he,n,hw⟩=>?_
  rw[hm]at he hw;have hw':w'=grow (putRow encStr (Sort.ahead w n) g 0 (m++List.replicate (l.length - m.length) []).toArray) #[]:=by rw[hw,grow_empty]
  refine⟨g,cap,he,hbase,?_,?_⟩
  ·have ho:=ownsRow_sorted (w:=w) (base:=B) (n:=n) (os:=#[]) (ss:=l) (ts:=m++List.replicate (l.length - m.length) []) (by simp;omega) hbase hb h1 h2 h3
   rw[← hw']at ho;obtain⟨A',c',e1,hrd,_⟩:=Rd.own ho;injection e1 with e1;rw[← e1,dB]at hrd;exact aln hrd
  rw[hw'];exact grownBy_sorted _
def IW(w:World)(l:List (List UInt8))(vv:Value)(wr:World):Prop:=wr.ownsRow w.heap.size 9 1 vv l.length (oU l)∧Below w.heap.size w wr
def Rn(w:World)(bs:Nat)(L:List Sp)(l:List (List UInt8))(vv:Value)(wr:World):Prop:=IW w l vv wr∧Rd wr (some ⟨bs,0,none⟩) (lS L)∧∀q,vv.ownBlock=some q→q≠bs
theorem aiR:∀k,k≤8→(Aq k).length≤33
 |0,_|1,_|2,_|3,_|4,_|5,_|6,_|7,_|8,_=>by decide
 |n+9,h=>aJ h (by omega)
theorem Au(k:Nat):(jm k).length≤5:=by
 unfold jm;split<;>simp
def YI(w:World)(e:Ending)(w':World):Prop:=∃g c,e=.returned (.slice (some ⟨g,0,none⟩) 22 c)∧w.heap.size≤g∧Rd w' (some ⟨g,0,none⟩) (oU tH)∧Below w.heap.size w w'
theorem aco(w:World):Calls prog 57 #[] w (YI w):=by
 obtain⟨i0,hi0,hz0,hz1,hz2⟩:=info_parts OH;have H0:Hid (IW w (Aq 0) (.slice none 0 0) w):=⟨World.ownsRow_nil _ _ _ _,b0⟩;go_enter func57,ntmps57;go_wp2_with fail;go_loopg [1,2] 8 (fun gk vv ki wr=>∃n:Nat,1≤n∧n≤9∧9 - n≤gk∧ki=.int .i64 (n:Int)∧Hid (IW w (Aq (n - 1)) vv wr))
 case atStart=>exact⟨1,by omega,by omega,by omega,rfl,H0⟩
 case round=>
  obtain⟨n,h1,hn,hgn,rfl,HS⟩:=hrel;by_cases hlt:n≤8
  ·clear H0
   go_wp2_with fail;refine(amQ n wr (by omega) (by omega)).mono ?_;rintro e w2 ⟨bs,rfl,hbs,hrd,hb2⟩;have jq:=ah hrd;have hst:Aq n=Aq (n - 1)++(jm n).map Sp.nm:=by
    obtain⟨m,rfl⟩:∃m,n=m+1:=⟨n - 1,by omega⟩;rfl
   have HST:=ah hst;have aoF:=aiR (n - 1) (by omega);have hl5:=Au n;generalize jm n=L at *;generalize Aq (n - 1)=K at *;have HI:Hid (Rn w bs L (K++(L.take 0).map Sp.nm) u1 w2):=by
    show Rn w bs L (K++[]) u1 w2;rw[bQ];exact⟨⟨own_below HS.out.1 hb2,bb HS.out.2 hb2⟩,hrd,fun q hq e=>by have:=(HS.out.1.lt q hq).2;omega⟩
   clear hrd hb2 hst HS;go_wp2_with fail;go_loopg [1,12] L.length (fun gk vv ki wr=>∃j:Nat,j≤L.length∧L.length - j≤gk∧ki=.int .i64 (j:Int)∧Hid (Rn w bs L (K++(L.take j).map Sp.nm) vv wr))
   case atStart=>exact⟨0,aW _,by omega,rfl,HI⟩
   case round=>
    obtain⟨j,hj,hgj,rfl,HO⟩:=hrel;obtain⟨⟨hown,hbel⟩,Ah,hne⟩:=HO.out;by_cases jl:j<L.length
    ·obtain⟨b,off,iL,hbl,c0,c1,c2,c3⟩:=uU Ah jl
     injection iL with iL;injection iL with e1 e2;subst e1 e2;simp only[aX]at c0 c1 c2 c3;have abD:K++(L.take (j+1)).map Sp.nm=(K++(L.take j).map Sp.nm)++[L[j].nm]:=by
      rw[← aT jl,dB,bP];rfl
     have HSJ:=ah abD;have hlm:(K++(L.take j).map Sp.nm).length≤100:=by
      rw[aC,aY,bD];omega
     generalize K++(L.take j).map Sp.nm=F at *;generalize L[j]=s at *;have hnew:=Ku (wr.alloc (.cells #[.int .u64 (s.tag:Int),.int .i64 (s.use:Int),.int .i64 (s.from_:Int),.string (txt s.nm)] 94)) (.string (txt s.nm)) 9;simp only[World.size_alloc]at hnew;have hwz:=hbel.size;have HB2:=ah (ba (ba (a:=wr) b0 (.cells #[.int .u64 (s.tag:Int),.int .i64 (s.use:Int),.int .i64 (s.from_:Int),.string (txt s.nm)] 94)) (.cells #[.string (txt s.nm)] 9));have HOW:=ah hown;clear abD hown hbel Ah hne HI
     go_wp2_with(at_builtin;go_must(refine wpList_append_lies _ rfl _ _ 50 rfl w.heap.size 9 i0 (.string ByteArray.empty) 1 16 underlying50 hi0 hz0 hz1 hz2 rfl (by decide) _ _ _ rfl ((HOW.out.alloc _).alloc _) ⟨wr.heap.size+1,0,none⟩ 1 1 [.string (txt s.nm)] rfl rfl hnew (Vp _) (by decide) (by unfold maxLen;omega) (by omega) (by simp;omega) (wr.heap.size+1+1) (by simp) ?_);intro g3 cap3 w3 hown3 hg3 iF hlt3);go_roundg (L.length - (j+1))
     case measure=>omega
     case rel=>
      obtain⟨⟨hown,hbel⟩,Ah,hne⟩:=HO.out;refine⟨j+1,by omega,au _,by go_num,?_⟩;rw[HSJ.out];refine⟨⟨by rw[aC,ajK];exact hown3,(ba (ba hbel _) _).grown hg3 (ba (ba hbel _) _).size fun q hq=>(hown.lt q hq).1⟩,(Ah.below HB2.out).grown hg3 fun b off e e2=>?_,fun q hq e2=>?_⟩
      ·injection e with e
       injection e with e;exact hne b e2 e.symm
      simp only[Value.ownBlock,bJ]at hq;rcases iF with h|h
      ·exact hne _ h (hq.trans e2)
      omega
    obtain rfl:j=L.length:=(by omega);rw[aU (au _),← HST.out]at hown;have HN:Hid (IW w (Aq n) u1 wr):=⟨hown,hbel⟩;clear hown hbel Ah hne HO HI;go_wp2_with fail;go_roundg (9 - (n+1))
    case measure=>omega
    case rel=>exact⟨n+1,by omega,by omega,au _,by go_num,HN⟩
  obtain rfl:n=9:=by omega
  have h:=HS.out;have HS2:Hid (∀x,x=OJ→IW w x u1 wr):=fun x hx=>by rw[hx];exact h
  have hso:=amP w.heap.size u1 OJ wr h.1 (by decide) (by decide);rw[aiZ]at hso;have zJ:=ah hso;have abf:=h.2;have qJ:=ah abf;clear h hso HS H0 abf HS2;go_wp2_with fail;refine zJ.out.mono ?_;rintro e w2 ⟨rfl,hown2,hg2⟩;have hcm:=afI w.heap.size u1 U5 tH w2 hown2 (by decide) (by decide) aiT (by decide);have HCM:=ah hcm;have HB2:Hid (Below w.heap.size w w2):=qJ.out.grown hg2 qJ.out.size fun q hq=>(hown2.lt q hq).1;clear hown2 hg2 hcm zJ;go_wp2_with fail;refine HCM.out.mono ?_;rintro e w3 ⟨g,c,rfl,hg,hrd,hg3⟩;have HE:Hid (YI w (.returned (.slice (some ⟨g,0,none⟩) 22 c)) w3):=⟨g,c,rfl,hg,hrd,HB2.out.grown hg3 HB2.out.size fun q hq=>by injection hq with hq;omega⟩;clear hrd hg3 hg HCM;go_wp2_with fail;go_ret;exact HE.out
