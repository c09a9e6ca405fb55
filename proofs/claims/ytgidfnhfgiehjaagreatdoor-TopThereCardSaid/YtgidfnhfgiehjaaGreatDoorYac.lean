/-
  Parts of the proof. Conditions: as each names.
-/
import Derived.Test.YtgidfnhfgiehjaaGreatDoorProg
import Derived.WalkSpells
import Derived.WalkLawsBesides
import Derived.BigQuiet
import Derived.Deep.AppendSrc
import Derived.Test.YtgidfnhfgiehjaaGreatDoorYaa
section
namespace Go.PM
open Go.RowKit
def In64(n:Nat):Prop:=n<18446744073709551616
def YE(n:Nat):Prop:=n<9223372036854775808
def iK(n:Int):Prop:=-9223372036854775808≤n∧n≤9223372036854775807
theorem In64.out{n:Nat}(h:In64 n):n<18446744073709551616:=h
theorem YE.out{n:Nat}(h:YE n):n<9223372036854775808:=h
/-! ### A block known whole -/
def dU(w:World)(g:Nat)(t:TypeId)(cs:Array Value):Prop:=w.heap[g]?=some (.cells cs t (0,0))
section
variable {w w':World} {g:Nat} {t:TypeId} {cs:Array Value}
theorem dU.lt(h:dU w g t cs):g<w.heap.size:=by
 rcases Nat.lt_or_ge g w.heap.size with hl|hl
 ·exact hl
 unfold dU at h;rw[Array.getElem?_eq_none hl]at h;cases h
theorem dU.cell(h:dU w g t cs)(i:Nat):w.cell? ⟨g,i,none⟩=cs[i]?:=cell_of_row w g i cs t (0,0) h
theorem dU.free(h:dU w g t cs)(i:Nat):w.frozen? ⟨g,i,none⟩=false:=by
 unfold dU at h;simp[World.frozen?,h]
theorem dU.made(w:World)(t:TypeId)(cs:Array Value):dU (w.alloc (.cells cs t)) w.heap.size t cs:=heap_alloc_new w _
theorem dU.step(h:dU w g t cs){row:Option Nat}(hb:w.grownBy w' row)(hg:some g≠row):dU w' g t cs:=(hb.block g h.lt hg).trans h
theorem dU.below{B:Nat}(h:dU w g t cs)(hb:Below B w w')(hg:g<B):dU w' g t cs:=(hb.block g hg).trans h
theorem dU.xK(h:dU w g t cs)(n:Nat):dU (w.drewN n) g t cs:=h
theorem dU.dr(h:dU w g t cs):dU w.drew g t cs:=h
theorem dU.more(h:dU w g t cs)(o:Obj):dU (w.alloc o) g t cs:=(Below.heap_alloc w o g h.lt).trans h
theorem dU.put(h:dU w g t cs)(i:Nat)(u:Value):dU (w.setCell ⟨g,i,none⟩ u) g t (cs.setIfInBounds i u):=by
 unfold dU at h⊢;simp[World.setCell,Array.getElem?_modify,h]
theorem dU.far(h:dU w g t cs){p:Addr}(hp:g≠p.block)(u:Value):dU (w.setCell p u) g t cs:=(Below.heap_setCell w p u g hp).trans h
theorem dU.same{cs':Array Value}(h:dU w g t cs)(h':dU w g t cs'):cs=cs':=by
 unfold dU at h h';rw[h]at h';injection h' with h';injection h'
theorem dU.apart{g':Nat}{t':TypeId}{cs':Array Value}(h:dU w g t cs)(h':dU w g' t' cs')(ht:t≠t'):g≠g':=by
 rintro rfl;unfold dU at h h';rw[h]at h';injection h' with h';injection h' with _ e;exact ht e
end
/-! ### What may have turned -/
theorem NK(w:World)(row:Option Nat):w.grownBy w row:=⟨rfl,rfl,rfl,au _,fun _ _ _=>rfl⟩
theorem oH{w w':World}(h:Below w.heap.size w w')(row:Option Nat):w.grownBy w' row :=
 ⟨h.os,h.tape,h.output,h.size,fun k hk _=>h.block k hk⟩
theorem below_of_grown{w w':World}(h:w.grownBy w' none):Below w.heap.size w w' :=
 ⟨h.os,h.tape,h.output,h.size,fun k hk=>h.block k hk (by simp)⟩
theorem Bv{B b:Nat}{w w':World}(h:w.grownBy w' (some b))(hB:B≤b)(hs:B≤w.heap.size):Below B w w' :=
 ⟨h.os,h.tape,h.output,h.size,fun k hk=>h.block k (by omega) (by intro e;injection e with e;omega)⟩
theorem jB{a b c:World}{row row':Option Nat}(h:a.grownBy b row)(k:b.grownBy c row')(hr:∀x,row'=some x→x<a.heap.size→row=some x):a.grownBy c row :=
 ⟨k.os.trans h.os,k.tape.trans h.tape,k.output.trans h.output,aI h.size k.size,
   fun i hi hne=>(k.block i (aQ hi h.size) (fun e=>hne (hr i e.symm hi).symm)).trans (h.block i hi hne)⟩
theorem aaN{a w:World}{b:Nat}(h:a.grownBy w (some b))(i:Nat)(u:Value):a.grownBy (w.setCell ⟨b,i,none⟩ u) (some b) :=
 ⟨h.os,h.tape,h.output,by simpa[World.setCell]using h.size,fun k hk hne=>(Below.heap_setCell w ⟨b,i,none⟩ u k (by rintro rfl;exact hne rfl)).trans (h.block k hk hne)⟩
theorem ahF{a w:World}{row:Option Nat}(h:a.grownBy w row)(n:Nat):a.grownBy (w.drewN n) row:=⟨h.os,h.tape,h.output,h.size,h.block⟩
theorem Js{a w:World}{row:Option Nat}(h:a.grownBy w row)(o:Obj):a.grownBy (w.alloc o) row :=
 ⟨h.os,h.tape,h.output,aI h.size (by simp),fun k hk hne=>(Below.heap_alloc w o k (aQ hk h.size)).trans (h.block k hk hne)⟩
theorem below_drewN{B:Nat}{a w:World}(h:Below B a w)(n:Nat):Below B a (w.drewN n):=⟨h.os,h.tape,h.output,h.size,h.block⟩
def oO(l:List UInt8):List Value:=l.map fun b=>.int .u8 (b.toNat:Int)
theorem Jf(l:List UInt8)(j:Nat)(hj:j<l.length):(oO l)[j]?=some (.int .u8 (l[j].toNat:Int)):=by
 simp[oO,aP hj]
theorem yO(l:List UInt8):(oO l).length=l.length:=by simp[oO]
theorem rV(g j:Nat):(⟨g,0,none⟩:Addr).add j=⟨g,j,none⟩:=by unfold Addr.add;split<;>simp_all
theorem Pn{P:Program}(w:World)(src dst e g n cap:Nat)(cs:Array Value)(l:List UInt8)(hs:P.underlying src=some (.slice e))(he:P.underlying e=some (.int .u8))(hd:P.underlying dst=some .string)
 (hg:dU w g e cs) (hn:n=l.length) (hc:cs.toList.take l.length=oO l) :
 (convert src dst (.slice (some ⟨g,0,none⟩) n cap)).run P w=.ok (.string ⟨l.toArray⟩) w:=by
 subst hn
 refine run_convert_bytes_back w src dst e ⟨g,0,none⟩ cap l hs he hd fun j hj=>?_
 rw[rV,hg.cell j]
 have h1:=Jf l j hj
 rw[← hc,List.getElem?_take,aA hj]at h1
 simpa using h1
theorem ext_list(s:ByteArray)(i j:Nat):(s.extract i j).data.toList=(s.data.toList.drop i).take (j - i):=by
 simp[ByteArray.data_extract,List.extract_eq_take_drop]
/-! ### Steps of 'below all that was there when it began nothing has turned' -/
section
variable {a w w':World}
theorem b0:Below a.heap.size a a:=Below.refl _ _
theorem bb(h:Below a.heap.size a w)(k:Below w.heap.size w w'):Below a.heap.size a w':=h.trans (k.mono h.size)
theorem ba(h:Below a.heap.size a w)(o:Obj):Below a.heap.size a (w.alloc o):=h.alloc h.size o
theorem EN(w:World)(t:TypeId)(cs:Array Value):Hid (dU (w.alloc (.cells cs t)) w.heap.size t cs)∧Hid (Below w.heap.size w (w.alloc (.cells cs t))):=⟨dU.made w t cs,ba b0 _⟩
theorem lM(w:World)(t:TypeId)(cs:Array Value):∃wz,wz=w.alloc (.cells cs t)∧wz.heap.size=w.heap.size+1∧Hid (dU wz w.heap.size t cs)∧Hid (Below w.heap.size w wz):=⟨_,rfl,by simp,EN w t cs⟩
theorem bg{b:Nat}(h:Below a.heap.size a w)(k:w.grownBy w' (some b))(hb:a.heap.size≤b):Below a.heap.size a w':=h.trans (Bv k hb h.size)
theorem bs{p:Addr}(h:Below a.heap.size a w)(hb:a.heap.size≤p.block)(u:Value):Below a.heap.size a (w.setCell p u):=h.setCell hb u
theorem bn(h:Below a.heap.size a w)(n:Nat):Below a.heap.size a (w.drewN n):=⟨h.os,h.tape,h.output,h.size,h.block⟩
theorem bd(h:Below a.heap.size a w):Below a.heap.size a w.drew:=h.drew
end
end Go.PM
end
namespace Go.Proofs.YtgidfnhfgiehjaaGreatDoor
open Go.PM Go.RowKit Go.Proofs.Tryz
def fG(w:World)(b:Nat)(s:ByteArray)(k:Nat):Prop:=dU w b 228 #[.string s,.int .i64 (k:Int)]∧k≤s.size∧s.size≤9223372036854775807
theorem Jj(s:ByteArray)(w:World) :
 Calls prog 80 #[.string s] w fun e w'=>e=.returned (.pointer (some ⟨w.heap.size,0,none⟩))∧w'=w.alloc (.cells #[.string s,.int .i64 0] 228):=by
 go_enter func80,ntmps80
 go_wp2
 go_ret
 exact⟨rfl,rfl⟩
theorem D5(b:Nat)(s:ByteArray)(k:Nat)(w:World)(h:fG w b s k) :
 Calls prog 135 #[.pointer (some ⟨b,0,none⟩)] w (aj w (.int .i64 ((s.size:Int) - (k:Int)))):=by
 obtain⟨hb,hk,hs⟩:=h
 have c0:w.cell? ⟨b,0,none⟩=some (.string s):=hb.cell 0
 have c1:w.cell? ⟨b,1,none⟩=some (.int .i64 (k:Int)):=hb.cell 1
 clear hb
 go_enter func135,ntmps135
 go_wp2
 go_quiet(fail)
 go_wp2
 go_ret
 exact⟨rfl,below_drewN (Below.refl _ _) _⟩
theorem afT(b:Nat)(s:ByteArray)(k:Nat)(w:World)(h:fG w b s k) :
 Calls prog 213 #[.pointer (some ⟨b,0,none⟩)] w (aj w (.string (s.extract k s.size))):=by
 obtain⟨hb,hk,hs⟩:=h
 have c0:w.cell? ⟨b,0,none⟩=some (.string s):=hb.cell 0
 have c1:w.cell? ⟨b,1,none⟩=some (.int .i64 (k:Int)):=hb.cell 1
 clear hb
 go_enter func213,ntmps213
 go_wp2
 go_quiet(fail)
 go_wp2
 go_ret
 exact⟨rfl,below_drewN (Below.refl _ _) _⟩
theorem Gm(b:Nat)(s:ByteArray)(k:Nat)(n:Int)(w:World)(h:fG w b s k)(h0:(s.size:Int) - k<n)(h1:n<18446744073709551616) :
 Calls prog 214 #[.pointer (some ⟨b,0,none⟩),.int .u64 n] w (aj w (.tuple #[.string ByteArray.empty,.bool false])):=by
 have H:=ah h
 obtain⟨hb,hk,hs⟩:=h
 clear hb
 go_enter func214,ntmps214
 go_wp2_with(go_at_call 135;refine(D5 b s k _ H.out).mono ?_;rintro e w1 ⟨rfl,hb1⟩)
 go_ret2
 exact⟨rfl,hb1⟩
theorem D6(b:Nat)(s:ByteArray)(k:Nat)(n:Int)(w:World)(h:fG w b s k)(h0:0≤n)(h1:n≤(s.size:Int) - k) :
 Calls prog 214 #[.pointer (some ⟨b,0,none⟩),.int .u64 n] w fun e w'=>
  e=.returned (.tuple #[.string (s.extract k (k+n.toNat)),.bool true])∧fG w' b s (k+n.toNat)∧w.grownBy w' (some b):=by
 have H:=ah h
 obtain⟨hb,hk,hs⟩:=h
 have HB:=ah hb
 obtain⟨m,rfl⟩:=bM h0
 rw[Int.toNat_natCast]
 clear hb
 go_enter func214,ntmps214
 go_wp2_with(go_at_call 135;refine(D5 b s k _ H.out).mono ?_;rintro e w1 ⟨rfl,hb1⟩;have c0:w1.cell? ⟨b,0,none⟩=some (.string s):=(HB.out.below hb1 HB.out.lt).cell 0;have c1:w1.cell? ⟨b,1,none⟩=some (.int .i64 (k:Int)):=(HB.out.below hb1 HB.out.lt).cell 1;have f1:w1.frozen? ⟨b,1,none⟩=false:=(HB.out.below hb1 HB.out.lt).free 1)
 go_quiet(fail)
 go_wp2
 go_ret2
 refine⟨rfl,⟨?_,by omega,hs⟩,aaN (ahF (oH hb1 _) _) _ _⟩
 have:=((HB.out.below hb1 HB.out.lt).xK nq).put 1 (.int .i64 ((k:Int)+(m:Int)))
 simpa using this
theorem afS(b:Nat)(s:ByteArray)(k:Nat)(w:World)(h:fG w b s k)(h0:s.size=k) :
 Calls prog 331 #[.pointer (some ⟨b,0,none⟩)] w (aj w (.tuple #[.int .u8 0,.bool false])):=by
 have H:=ah h
 have H0:=ah h0
 clear h h0
 go_enter func331,ntmps331
 go_wp2_with(go_at_call 214;refine(Gm b s k 1 _ H.out (by have:=H0.out;omega) (by omega)).mono ?_;rintro e w1 ⟨rfl,hb1⟩)
 go_ret2
 exact⟨rfl,hb1⟩
theorem Zk(b:Nat)(s:ByteArray)(k:Nat)(w:World)(h:fG w b s k)(h0:k<s.size) :
 Calls prog 331 #[.pointer (some ⟨b,0,none⟩)] w fun e w'=>
  e=.returned (.tuple #[.int .u8 (s[k].toNat:Int),.bool true])∧fG w' b s (k+1)∧w.grownBy w' (some b):=by
 have H:=ah h
 clear h
 go_enter func331,ntmps331
 go_wp2_with(go_at_call 214;refine(D6 b s k 1 _ H.out (by omega) (by omega)).mono ?_;rintro e w1 ⟨rfl,hc1,hg1⟩)
 go_ret2
 refine⟨?_,hc1,hg1⟩
 have e:(s.extract k (k+1))[0]'(by simp;omega)=s[k]:=by simp[ByteArray.getElem_extract]
 rw[← e]
 rfl
theorem afU(b:Nat)(s:ByteArray)(k:Nat)(n:Int)(w:World)(h:fG w b s k)(h0:(s.size:Int) - k<n)(h1:n<18446744073709551616) :
 Calls prog 215 #[.pointer (some ⟨b,0,none⟩),.int .u64 n] w (aj w (.tuple #[.pointer none,.bool false])):=by
 have H:=ah h
 clear h
 go_enter func215,ntmps215
 go_wp2_with(go_at_call 214;refine(Gm b s k n _ H.out h0 h1).mono ?_;rintro e w1 ⟨rfl,hb1⟩)
 go_ret2
 exact⟨rfl,hb1⟩
theorem afV(b:Nat)(s:ByteArray)(k:Nat)(n:Int)(w:World)(h:fG w b s k)(h0:0≤n)(h1:n≤(s.size:Int) - k) :
 Calls prog 215 #[.pointer (some ⟨b,0,none⟩),.int .u64 n] w fun e w'=>
  ∃g,e=.returned (.tuple #[.pointer (some ⟨g,0,none⟩),.bool true])∧w.heap.size≤g∧fG w' g (s.extract k (k+n.toNat)) 0∧fG w' b s (k+n.toNat)∧w.grownBy w' (some b):=by
 have H:=ah h
 have hs:=h.2.2
 clear h
 go_enter func215,ntmps215
 go_wp2_with(first
  |(go_at_call 214;refine(D6 b s k n _ H.out h0 h1).mono ?_;rintro e w1 ⟨rfl,hc1,hg1⟩)
  |(go_at_call 80;refine(Jj _ _).mono ?_;rintro e w2 ⟨rfl,rfl⟩))
 go_ret2
 refine⟨_,rfl,hg1.size,⟨dU.made _ _ _,aW _,?_⟩,⟨hc1.1.more _,hc1.2⟩,Js hg1 _⟩
 simp;omega
/-! ### A nil cursor -/
theorem aeK(w:World):Calls prog 330 #[] w (aj w (.bool true)):=by
 go_enter func330,ntmps330;go_wp2_with fail;refine(Jj _ _).mono ?_;rintro e w1 ⟨rfl,rfl⟩;have hc0:fG (w.alloc (.cells #[.string ⟨#[97,98]⟩,.int .i64 0] 228)) w.heap.size ⟨#[97,98]⟩ 0:=⟨dU.made _ _ _,aW _,by decide⟩;have H0:=ah hc0;clear hc0;go_wp2_with fail;refine(Zk _ _ _ _ H0.out (by decide)).mono ?_;rintro e w1 ⟨rfl,hc1,hg1⟩;have e1:((ByteArray.mk #[97,98])[0]'(by decide)).toNat=97:=rfl;have H1:=ah hc1;clear hc1;rw[e1];clear e1;go_wp2_with fail;refine(Zk _ _ _ _ H1.out (by decide)).mono ?_;rintro e w2 ⟨rfl,hc2,hg2⟩;have e1:((ByteArray.mk #[97,98])[0+1]'(by decide)).toNat=98:=rfl;have H2:=ah hc2;clear hc2;rw[e1];clear e1;go_wp2_with fail;refine(afS _ _ _ _ H2.out (by decide)).mono ?_;rintro e w3 ⟨rfl,hb3⟩;go_wp2_with fail;go_ret;exact⟨rfl,bb (bg (bg (ba b0 _) hg1 (au _)) hg2 (au _)) hb3⟩
end Go.Proofs.YtgidfnhfgiehjaaGreatDoor
section
namespace Go.PM
open Go.RowKit
def Rd(w:World)(A:Option Addr)(xs:List Value):Prop :=
 xs=[]∨∃b off,A=some ⟨b,off,none⟩∧b<w.heap.size∧∀j u,xs[j]?=some u→w.cell? ⟨b,off+j,none⟩=some u
section
variable {w w':World} {A:Option Addr} {xs:List Value}
theorem Rd.nil(w:World)(A:Option Addr):Rd w A []:=.inl rfl
theorem Rd.at_(h:Rd w A xs){k:Nat}(hk:k<xs.length):∃b off,A=some ⟨b,off,none⟩∧b<w.heap.size∧w.cell? ⟨b,off+k,none⟩=some xs[k]:=by
 rcases h with rfl|⟨b,off,e,hb,hc⟩
 ·simp at hk
 exact⟨b,off,e,hb,hc k _ (aP hk)⟩
theorem Rd.keep(h:Rd w A xs)(hs:w.heap.size≤w'.heap.size)(hk:∀b off,A=some ⟨b,off,none⟩→b<w.heap.size→w'.heap[b]?=w.heap[b]?):Rd w' A xs:=by
 rcases h with rfl|⟨b,off,e,hb,hc⟩
 ·exact .inl rfl
 refine .inr ⟨b,off,e,by omega,fun j u hj=>?_⟩;rw[World.cell?_of_block (w:=w) (hk b off e hb)];exact hc j u hj
theorem Rd.below(h:Rd w A xs)(hb:Below w.heap.size w w'):Rd w' A xs:=h.keep hb.size fun b _ _ hl=>hb.block b hl
theorem Rd.grown(h:Rd w A xs){row:Option Nat}(hg:w.grownBy w' row)(hne:∀b off,A=some ⟨b,off,none⟩→row≠some b):Rd w' A xs :=
 h.keep hg.size fun b off e hl=>hg.block b hl (fun e'=>hne b off e e'.symm)
theorem Rd.own{base e n size:Nat}{v:Value}(h:w.ownsRow base e size v n xs):∃A c,v=.slice A n c∧Rd w A xs∧n≤c∧(∀b off,A=some ⟨b,off,none⟩→v.ownBlock=some b∧base≤b):=by
 rcases h.2 with⟨rfl,rfl⟩|⟨g,cap,cur,rfl,hb,hg,hn,_⟩
 ·refine⟨none,0,rfl,?_,au _,fun _ _ e=>by cases e⟩
  left
  have:=h.1;simpa using this
 refine⟨some ⟨g,0,none⟩,cap,rfl,.inr ⟨g,0,rfl,(bY.1 hg).1,fun j u hj=>?_⟩,hn,fun b off e=>?_⟩
 ·have:=h.cells (g:=g) rfl j u hj
  rwa [rV,← aX j]at this
 injection e with e;injection e with e1 e2;subst e1;exact⟨rfl,hb⟩
end
theorem own_below{w w':World}{base e size n:Nat}{v:Value}{xs:List Value}(h:w.ownsRow base e size v n xs)(hb:Below w.heap.size w w'):w'.ownsRow base e size v n xs :=
 h.kept (oH hb none) (by cases v.ownBlock<;>simp)
theorem Vs{w w':World}{base e size n b:Nat}{v:Value}{xs:List Value}(h:w.ownsRow base e size v n xs)(hg:w.grownBy w' (some b))(hb:b<base):w'.ownsRow base e size v n xs :=
 h.kept hg (by
  cases hv:v.ownBlock with
  |none=>exact .inl rfl
  |some k=>right;intro e;have:=(h.lt k hv).1;injection e with e;omega)
theorem RH{a w w':World}{e size n:Nat}{v:Value}{xs:List Value}(h:Below a.heap.size a w)(ho:w.ownsRow a.heap.size e size v n xs)(hg:w.grownBy w' v.ownBlock):Below a.heap.size a w' :=
 h.grown hg h.size (fun k hk=>(ho.lt k hk).1)
theorem Ku(w:World)(u:Value)(t:TypeId):∀j x,([u]:List Value)[j]?=some x→(w.alloc (.cells #[u] t)).cell? ((⟨w.heap.size,0,none⟩:Addr).add j)=some x:=by
 intro j x hj
 match j,hj with
 |0,hj=>
   rw[rV,(dU.made w t #[u]).cell];simpa using hj
theorem acy(k:IntKind)(n:Int):∀u∈([.int k n]:List Value),u.oneCell'=true:=by
 intro u hu;simp at hu;subst hu;rfl
theorem Vp(s:ByteArray):∀u∈([.string s]:List Value),u.oneCell'=true:=by
 intro u hu;simp at hu;subst hu;rfl
def mY(l:List Nat):List Value:=l.map fun n:Nat=>.int .u64 (n:Int)
def strs(l:List ByteArray):List Value:=l.map .string
theorem adA(l:List Nat):(mY l).length=l.length:=by simp[mY]
theorem PG(l:List ByteArray):(strs l).length=l.length:=by simp[strs]
theorem anj(l:List Nat)(k:Nat)(hk:k<l.length)(h:k<(mY l).length):(mY l)[k]=.int .u64 (l[k]:Int):=by simp[mY]
theorem VW(l:List ByteArray)(k:Nat)(hk:k<l.length)(h:k<(strs l).length):(strs l)[k]=.string l[k]:=by simp[strs]
def strLen:Value→Nat|.string s=>s.size|_=>0
def txt(l:List UInt8):ByteArray:=⟨l.toArray⟩
theorem iD(l:List UInt8):(txt l).data.toList=l:=rfl
theorem gI(l:List UInt8):(txt l).size=l.length:=rfl
theorem Ci(s:ByteArray):txt s.data.toList=s:=rfl
theorem vX{s:ByteArray}{l:List UInt8}(h:s.data.toList=l):s=txt l:=by rw[← h];rfl
theorem fK(s:ByteArray):s.data.toList.length=s.size:=by simp
theorem BG(s:ByteArray)(k:Nat):(s.extract k s.size).data.toList=s.data.toList.drop k:=by
 rw[ext_list,aU];rw[aN,fK];omega
end Go.PM
end
namespace Go.PM
open Go.RowKit
/-! ### A region that draws its order,of operations that compute and of calls that leave all that was there -/
def fV(w:World):Type:={ x:World // Below w.heap.size w x }
def fV.wld{w:World}(n:fV w):World:=n.1
theorem fV.bel{w:World}(n:fV w):Below w.heap.size w n.wld:=n.2
instance (w:World):Nonempty (fV w):=⟨⟨w,b0⟩⟩
theorem kM{P:Program}{id:Nat}{Q:Exit→Act→World→Prop}{a:Act}{w:World}{l:List Oper}(hm:P.follows .mixedOrders=true)(hB:Region.lexB .any l.toArray=true)
 (h:wpQuiet P l.toArray (fun w'=>∃n:fV w,w'=n.wld) (fun a'=>∀w',(∃n:fV w,w'=n.wld)→Q .normal a' w') l a):(Code.region id l.toArray true).wp P Q a w :=
 wp_region_quiet (C:=fun w'=>∃n:fV w,w'=n.wld) hm hB ⟨(⟨w.drew,bd b0⟩:fV w),rfl⟩ (by simpa using h)
theorem jW{P:Program}{f:FuncId}{args:Array Value}{w:World}{n:fV w}{v:Value}(h:Calls P f args n.wld (aj n.wld v)) :
 Calls P f args n.wld fun e w'=>e=.returned v∧∃m:fV w,w'=m.wld:=h.mono fun _ w' ⟨he,hb⟩=>⟨he,⟨w',bb n.bel hb⟩,rfl⟩
theorem Ws{P:Program}{c:Code}{Q:Exit→Act→World→Prop}{a:Act}{w:World}(h:∀W,W=w→Code.wp P c Q a W):Code.wp P c Q a w:=h w rfl
end Go.PM
section
namespace Go.PM
open Go.RowKit
def sS(w:World)(g:Nat)(l:List UInt8):Prop :=
 g<w.heap.size∧∀j (h:j<l.length),w.cell? ⟨g,j,none⟩=some (.int .u8 (l[j].toNat:Int))∧w.frozen? ⟨g,j,none⟩=false
section
variable {w w':World} {g:Nat} {l:List UInt8}
theorem sS.made(w:World)(e:TypeId)(s:ByteArray)(cap:Nat) :
 sS (w.drew.alloc (.cells (bytesRow s cap) e ((bytesRow s cap).size,(bytesRow s cap).size+1))) w.heap.size s.data.toList:=by
 have hh:(w.drew.alloc (.cells (bytesRow s cap) e ((bytesRow s cap).size,(bytesRow s cap).size+1))).heap[w.heap.size]?=some (.cells (bytesRow s cap) e ((bytesRow s cap).size,(bytesRow s cap).size+1)):=heap_alloc_new w.drew _
 refine⟨by simp,fun j hj=>?_⟩
 have hjs:j<s.data.size:=by simpa using hj
 refine⟨?_,?_⟩
 ·rw[cell_of_row _ _ _ _ _ _ hh,bytesRow_at s cap j hjs]
  simp
 ·have hn:s.data.size≤(bytesRow s cap).size:=by simp[bytesRow]
  unfold World.frozen?;rw[hh];simp;omega
theorem sS.set(h:sS w g l){j:Nat}(hj:j<l.length)(b:UInt8):sS (w.setCell ⟨g,j,none⟩ (.int .u8 (b.toNat:Int))) g (l.set j b):=by
 refine⟨by simpa[World.setCell]using h.1,fun k hk=>?_⟩;have hk':k<l.length:=by simpa using hk
 refine⟨?_,?_⟩
 ·by_cases e:j=k
  ·subst e
   rw[World.cell?_setCell_same _ _ _ (h.2 j hj).1];simp
  rw[World.cell?_setCell_other _ _ _ _ (by intro e';injection e' with _ e';exact e e'),(h.2 k hk').1];simp[e]
 rw[World.frozen?_setCell];exact(h.2 k hk').2
theorem sS.below{B:Nat}(h:sS w g l)(hb:Below B w w')(hg:g<B):sS w' g l:=by
 have e:=hb.block g hg;refine⟨aQ h.1 hb.size,fun j hj=>⟨?_,?_⟩⟩
 ·rw[← (h.2 j hj).1]
  exact hb.cell (p:=⟨g,j,none⟩) hg
 rw[← (h.2 j hj).2];unfold World.frozen?;rw[e]
theorem sS.at_(h:sS w g l){j:Nat}(hj:j<l.length):w.cell? ⟨g,j,none⟩=some (.int .u8 ((l.getD j 0).toNat:Int))∧w.frozen? ⟨g,j,none⟩=false:=by
 have:=h.2 j hj;rw[List.getD_eq_getElem?_getD,aP hj];exact this
theorem sS.xK(h:sS w g l)(n:Nat):sS (w.drewN n) g l:=h
theorem sS.back{P:Program}(h:sS w g l)(src dst e i n cap:Nat)(hs:P.underlying src=some (.slice e))(he:P.underlying e=some (.int .u8))(hd:P.underlying dst=some .string)(hn:i+n≤l.length) :
 (convert src dst (.slice (some ⟨g,i,none⟩) n cap)).run P w=.ok (.string (txt ((l.drop i).take n))) w:=by
 have hl:((l.drop i).take n).length=n:=by simp;omega
 have:=run_convert_bytes_back (P:=P) w src dst e ⟨g,i,none⟩ cap ((l.drop i).take n) hs he hd fun j hj=>by
  have ha:(⟨g,i,none⟩:Addr).add j=⟨g,i+j,none⟩:=by unfold Addr.add;split<;>simp_all
  rw[ha,(h.2 (i+j) (by omega)).1];simp
 rw[hl]at this
 exact this
end
end Go.PM
end
section
namespace Go.PM
open Go.RowKit
/-! ### Worlds of which some blocks may have turned -/
structure dX (S:Nat→Prop) (w w':World):Prop where
 os:w'.os=w.os
 tape:w'.tape=w.tape
 output:w'.output=w.output
 size:w.heap.size≤w'.heap.size
 block:∀k,k<w.heap.size→¬S k→w'.heap[k]?=w.heap[k]?
section
variable {a w w':World} {S S':Nat→Prop}
theorem dX.refl(S:Nat→Prop)(w:World):dX S w w:=⟨rfl,rfl,rfl,au _,fun _ _ _=>rfl⟩
theorem dX.below(h:Below w.heap.size w w'):dX S w w':=⟨h.os,h.tape,h.output,h.size,fun k hk _=>h.block k hk⟩
theorem dX.grown{row:Option Nat}(h:w.grownBy w' row)(hr:∀g,row=some g→g<w.heap.size→S g):dX S w w' :=
 ⟨h.os,h.tape,h.output,h.size,fun k hk hn=>h.block k hk (fun e=>hn (hr k e.symm hk))⟩
theorem dX.trans(h:dX S a w)(k:dX S' w w')(hs:∀g,g<a.heap.size→S' g→S g):dX S a w' :=
 ⟨k.os.trans h.os,k.tape.trans h.tape,k.output.trans h.output,aI h.size k.size,
   fun i hi hne=>(k.block i (aQ hi h.size) (fun e=>hne (hs i hi e))).trans (h.block i hi hne)⟩
theorem dX.bel(h:dX S a w)(k:Below w.heap.size w w'):dX S a w':=h.trans (S':=S) (dX.below k) fun _ _ e=>e
theorem dX.iI{B:Nat}(h:dX S w w')(hb:B≤w.heap.size)(hs:∀g,g<B→¬S g):Below B w w':=⟨h.os,h.tape,h.output,h.size,fun k hk=>h.block k (by omega) (hs k hk)⟩
theorem dX.put(h:dX S a w){p:Addr}(hp:p.block<a.heap.size→S p.block)(u:Value):dX S a (w.setCell p u) :=
 ⟨h.os,h.tape,h.output,by simpa[World.setCell]using h.size,fun k hk hne=>(Below.heap_setCell w p u k (by rintro rfl;exact hne (hp hk))).trans (h.block k hk hne)⟩
theorem dX.more(h:dX S a w)(o:Obj):dX S a (w.alloc o) :=
 ⟨h.os,h.tape,h.output,aI h.size (by simp),fun k hk hne=>(Below.heap_alloc w o k (aQ hk h.size)).trans (h.block k hk hne)⟩
theorem dX.xK(h:dX S a w)(n:Nat):dX S a (w.drewN n):=⟨h.os,h.tape,h.output,h.size,h.block⟩
theorem dX.dr(h:dX S a w):dX S a w.drew:=⟨h.os,h.tape,h.output,h.size,h.block⟩
theorem dX.imp(h:dX S a w)(hs:∀g,g<a.heap.size→S g→S' g):dX S' a w:=⟨h.os,h.tape,h.output,h.size,fun k hk hne=>h.block k hk (fun e=>hne (hs k hk e))⟩
theorem dU.fE{g:Nat}{t:TypeId}{cs:Array Value}(h:dU w g t cs)(hb:dX S w w')(hg:¬S g):dU w' g t cs:=(hb.block g h.lt hg).trans h
theorem Rd.fE{A:Option Addr}{xs:List Value}(h:Rd w A xs)(hb:dX S w w')(hg:∀b off,A=some ⟨b,off,none⟩→¬S b):Rd w' A xs :=
 h.keep hb.size fun b off e hl=>hb.block b hl (hg b off e)
theorem tK{base e size n:Nat}{v:Value}{xs:List Value}(h:w.ownsRow base e size v n xs)(hb:dX S w w')(hg:∀g,v.ownBlock=some g→¬S g):w'.ownsRow base e size v n xs:=by
 refine⟨h.1,?_⟩;rcases h.2 with hn|⟨g,cap,cur,rfl,hB,hgg,rest⟩
 ·exact .inl hn
 refine .inr ⟨g,cap,cur,rfl,hB,?_,rest⟩;rw[hb.block g (bY.1 hgg).1 (hg g rfl)];exact hgg
end
/-! ### The buffer -/
def foot:Value→Option Nat
 |.slice (some a) _ c=>if c=0 then none else some a.block
 |_=>none
def ng(w:World)(g:Nat)(e:TypeId):Prop:=∃cs fz,w.heap[g]?=some (.cells cs e fz)
theorem ng.lt{w:World}{g:Nat}{e:TypeId}(h:ng w g e):g<w.heap.size:=by
 obtain⟨cs,fz,h⟩:=h;exact(bY.1 h).1
theorem ng.one{w:World}{g:Nat}{e e':TypeId}(h:ng w g e)(h':ng w g e'):e=e':=by
 obtain⟨cs,fz,h⟩:=h;obtain⟨cs',fz',h'⟩:=h';rw[h]at h';injection h' with h';injection h'
theorem ng.put{w:World}{g:Nat}{e:TypeId}(h:ng w g e)(p:Addr)(u:Value):ng (w.setCell p u) g e:=by
 obtain⟨cs,fz,h⟩:=h;by_cases hp:g=p.block
 ·subst hp
  by_cases hs:p.spot.isSome=true
  ·exact⟨cs,fz,by simp[World.setCell,Array.getElem?_modify,h,hs]⟩
  exact⟨cs.setIfInBounds p.off u,fz,by simp[World.setCell,Array.getElem?_modify,h,hs]⟩
 exact⟨cs,fz,(Below.heap_setCell w p u g hp).trans h⟩
theorem ng.puts{g:Nat}{e:TypeId}{b:Nat}:∀(vs:List Value) (o:Nat) (w:World),ng w g e→ng (w.setCells b o vs) g e
 |[],_,_,h=>h
 |v::vs,o,_,h=>ng.puts vs (o+1) _ (h.put _ v)
theorem dU.JA{w:World}{g:Nat}{t:TypeId}{cs:Array Value}(h:dU w g t cs):ng w g t:=⟨cs,(0,0),h⟩
def Buf(w:World)(e:TypeId)(v:Value)(l:List UInt8):Prop :=
 (v=.slice none 0 0∧l=[])∨∃ g cap,v=.slice (some ⟨g,0,none⟩) l.length cap∧(cap=0∨ng w g e)∧l.length≤cap∧(∀ j,j < cap→(w.cell? ⟨g,j,none⟩).isSome=true∧w.frozen? ⟨g,j,none⟩=false) ∧
   ∀j (h:j<l.length),w.cell? ⟨g,j,none⟩=some (.int .u8 (l[j].toNat:Int))
section
variable {w w':World} {e:TypeId} {v:Value} {l:List UInt8}
theorem Buf.nil(w:World)(e:TypeId):Buf w e (.slice none 0 0) []:=.inl ⟨rfl,rfl⟩
theorem Buf.Tm(h:Buf w e v l){g:Nat}(hg:foot v=some g):ng w g e:=by
 rcases h with⟨rfl,rfl⟩|⟨g',cap,rfl,hlt,_⟩
 ·simp[foot]at hg
 simp only[foot]at hg;split at hg
 ·cases hg
 rcases hlt with h|h
 ·contradiction
 injection hg with hg;exact hg▸h
theorem Buf.aho(h:Buf w e v l){g:Nat}(hg:foot v=some g):g<w.heap.size:=(h.Tm hg).lt
theorem Buf.acp(h:Buf w e v l){d:Nat}{t:TypeId}{cs:Array Value}(hd:dU w d t cs)(ht:t≠e):foot v≠some d:=fun hg=>ht (hd.JA.one (h.Tm hg))
theorem Buf.acr(h:Buf w e v l){base e' size n:Nat}{r:Value}{xs:List Value}(hd:w.ownsRow base e' size r n xs)(ht:e'≠e):∀g,r.ownBlock=some g→foot v≠some g:=fun g hr hg=>by
 rcases hd.2 with⟨rfl,_⟩|⟨g',cap,cur,rfl,hb,hgg,_⟩
 ·cases hr
 have e1:g'=g:=by simpa[Value.ownBlock]using hr
 subst e1;exact ht (ng.one ⟨cur,(0,0),hgg⟩ (h.Tm hg))
theorem Buf.fE{S:Nat→Prop}(h:Buf w e v l)(hg:dX S w w')(hne:∀g,foot v=some g→¬S g):Buf w' e v l:=by
 rcases h with h|⟨g,cap,rfl,hlt,hc,hall,hl⟩
 ·exact .inl h
 by_cases hc0:cap=0
 ·subst hc0
  exact .inr ⟨g,0,rfl,.inl rfl,hc,fun j hj=>by omega,fun j hj=>by omega⟩
 have hty:ng w g e:=by rcases hlt with h|h;exact aJ h hc0;exact h
 have hlt:=hty.lt;have e:=hg.block g hlt (hne g (by simp[foot,hc0]));have ec:∀j,w'.cell? ⟨g,j,none⟩=w.cell? ⟨g,j,none⟩:=fun j=>by unfold World.cell?;simp only[e]
 have ef:∀j,w'.frozen? ⟨g,j,none⟩=w.frozen? ⟨g,j,none⟩:=fun j=>by unfold World.frozen?;simp only[e]
 exact .inr ⟨g,cap,rfl,.inr (by obtain⟨cs,fz,hh⟩:=hty;exact⟨cs,fz,e.trans hh⟩),hc,fun j hj=>by rw[ec,ef];exact hall j hj,fun j hj=>by rw[ec];exact hl j hj⟩
theorem Buf.below(h:Buf w e v l)(hb:Below w.heap.size w w'):Buf w' e v l:=h.fE (S:=fun _=>False) (dX.below hb) fun _ _=>id
theorem Buf.aeI{g:Nat}{e:TypeId}{s:ByteArray}{cap:Nat}(hh:w.heap[g]?=some (.cells (bytesRow s cap) e ((bytesRow s cap).size,(bytesRow s cap).size+1)))(hc:s.size≤cap) :
 Buf w e (.slice (some ⟨g,0,none⟩) s.size cap) s.data.toList:=by
 have hn:(bytesRow s cap).size=cap:=by
  have:s.data.size=s.size:=rfl;simp[bytesRow];omega
 refine .inr ⟨g,cap,by rw[fK],.inr ⟨_,_,hh⟩,by rw[fK];exact hc,fun j hj=>⟨?_,?_⟩,fun j hj=>?_⟩
 ·rw[cell_of_row _ _ _ _ _ _ hh]
  simp[hn,hj]
 ·unfold World.frozen?
  rw[hh];simp;omega
 ·have hjs:j<s.data.size:=by simpa using hj
  rw[cell_of_row _ _ _ _ _ _ hh,bytesRow_at s cap j hjs];simp
theorem afq(s:ByteArray)(j:Nat)(hj:j<s.data.toList.length)(h:j<(byteCells s).length):(byteCells s)[j]=.int .u8 (s.data.toList[j].toNat:Int):=by simp[byteCells]
theorem Buf.acw{B n:Nat}(h:w.ownsRow B e 1 v n (oO l)):Buf w e v l∧∀g,foot v=some g→B≤g:=by
 obtain⟨h1,h2⟩:=h;rw[yO,Nat.mul_one]at h1;rcases h2 with⟨rfl,rfl⟩|⟨g,cap,cur,rfl,hb,hg,hnc,_,hcs,htk⟩
 ·exact⟨.inl ⟨rfl,aV h1⟩,fun g hg=>by simp[foot]at hg⟩
 subst h1;refine⟨.inr ⟨g,cap,rfl,.inr ⟨_,_,hg⟩,hnc,fun j hj=>⟨?_,?_⟩,fun j hj=>?_⟩,fun g' hg'=>?_⟩
 ·rw[cell_of_row _ _ _ _ _ _ hg]
  simp;omega
 ·unfold World.frozen?
  rw[hg];simp
 ·rw[cell_of_row _ _ _ _ _ _ hg]
  have:=Jf l j hj;rw[← htk,List.getElem?_take,aA (by omega)]at this;simpa using this
 simp only[foot]at hg';split at hg'
 ·cases hg'
 injection hg' with hg';omega
theorem V5{a:World}{S:Nat→Prop}{b:Nat}(hb:S b):∀(vs:List Value) (o:Nat) (w:World),dX S a w→dX S a (w.setCells b o vs)
 |[],_,_,h=>h
 |v::vs,o,_,h=>V5 hb vs (o+1) _ (h.put (fun _=>hb) v)
theorem ahp{g n c:Nat}(h:c≠0):foot (.slice (some ⟨g,0,none⟩) n c)=some g:=by simp[foot,h]
theorem YX{P:Program}(h:Buf w e v l)(s:ByteArray)(t u ty:TypeId)(i:TypeInfo)(ht:P.underlying t=some (.slice e))(hu:P.underlying u=some .string)(hi:P.info? e=some i)(hz:i.zero=some (.int .u8 0))
 (hsize:i.size=1) (hby:i.bytes=1) (hn:l.length+s.size≤1000000) :
 ∃v' w',(Builtin.append_ #[t,u] ty #[v,.string s]).run P w=.ok v' w'∧Buf w' e v' (l++s.data.toList)∧dX (fun k=>foot v=some k) w w'∧(foot v'=foot v∨∀g,foot v'=some g→w.heap.size≤g):=by
 rcases h with⟨rfl,rfl⟩|⟨g,cap,rfl,hlt,hc,hall,hl⟩
 ·obtain⟨v',w',h1,h2,h3,_⟩:=Lib.run_append_own_string (P:=P) w w.heap.size t u ty e i ht hu hi hz hsize hby (.slice none 0 0) 0 [] (World.ownsRow_nil _ _ _ _) s (by unfold maxLen;simp at hn;omega) (by simp at hn;omega) (au _)
  have h4:=Buf.acw (n:=0+s.size) h2;exact⟨v',w',h1,h4.1,dX.grown h3 (fun g hg=>by simp[Value.ownBlock]at hg),.inr h4.2⟩
 ·have hs:Src P i.size u (.string s) s.size (byteCells s) w:=by rw[hsize];exact Src.ofString w hu s
  by_cases hroom:l.length+s.size≤cap
  ·have hr:=run_append_room_src (P:=P) w t u ty e i ht hi g 0 l.length cap (.string s) s.size (byteCells s) hs hroom
    (fun j hj=>by rw[byteCells_length]at hj;rw[hsize];exact(hall _ (by omega)).1) (fun j hj=>by rw[byteCells_length]at hj;rw[hsize];exact(hall _ (by omega)).2)
   rw[hsize,Nat.mul_one,aX]at hr;have hgr:dX (fun k=>foot (.slice (some ⟨g,0,none⟩) l.length cap)=some k) w (w.setCells g l.length (byteCells s)):=by
    by_cases hc0:cap=0
    ·have:byteCells s=[]:=aV (by rw[byteCells_length];omega)
     rw[this];exact dX.refl _ _
    exact V5 (S:=fun k=>foot (.slice (some ⟨g,0,none⟩) l.length cap)=some k) (b:=g) (ahp hc0) _ _ _ (dX.refl _ _)
   have hin:=World.cell?_setCells_in g (byteCells s) l.length w (fun j hj=>by rw[byteCells_length]at hj;exact(hall _ (by omega)).1);have hout:=fun x=>World.cell?_setCells_out g (byteCells s) l.length w x;refine⟨_,_,hr,.inr ⟨g,cap,by rw[aC,fK],hlt.imp id (fun h=>h.puts _ _ _),by rw[aC,fK];exact hroom,fun j hj=>⟨?_,?_⟩,fun j hj=>?_⟩,hgr,.inl rfl⟩
   ·by_cases h1:l.length≤j∧j<l.length+s.size
    ·have:=hin (j - l.length) (by rw[byteCells_length];omega)
     rw[show l.length+(j - l.length)=j by omega]at this;rw[this];rfl
    rw[hout _ (fun _ _=>by simp only[byteCells_length];omega)];exact(hall j hj).1
   ·rw[World.frozen?_setCells]
    exact(hall j hj).2
   rw[aC,fK]at hj;by_cases h1:j<l.length
   ·rw[hout _ (fun _ _=>by simp only;omega),hl j h1,List.getElem_append_left h1]
   have:=hin (j - l.length) (by rw[byteCells_length];omega);rw[show l.length+(j - l.length)=j by omega,afq s _ (by rw[fK];omega)]at this;rw[this,List.getElem_append_right (by omega)]
  have hold:(Builtin.firstCells i.size l.length (.slice (some ⟨g,0,none⟩) l.length cap)).run P w.drew=.ok (oO l).toArray w.drew :=
   run_firstCells_some w.drew i.size l.length ⟨g,0,none⟩ l.length cap (oO l) (by rw[yO,hsize,Nat.mul_one]) (fun j x hx=>by
    rw[rV];have hj:j<l.length:=(by have:=(List.getElem?_eq_some_iff.1 hx).1;rwa [yO]at this);rw[Jf l j hj]at hx;rw[← hx];exact hl j hj)
  have hge:=grownCap_ge w (l.length+s.size) cap e
  have hr:=run_append_grow_src (P:=P) w t u ty e i (.int .u8 0) ht hi hz (some ⟨g,0,none⟩) l.length cap (oO l) hold (.string s) s.size (byteCells s) hs (by omega) (by omega)
   (by rw[hby];exact growslice_fits (by omega) (by omega))
  generalize hG:grownCap w (l.length+s.size) cap e=G at hr hge;have hC:((oO l++byteCells s).toArray++Builtin.zeroCells (Value.int .u8 0).cells (G - (l.length+s.size))).size=G:=by
   have hz1:(Value.int IntKind.u8 0).cells.size=1:=rfl;simp only[Array.size_append,List.size_toArray,size_zeroCells,hz1,aC,yO,byteCells_length];omega
  have hat:∀j (hj:j<l.length+s.size),((oO l++byteCells s).toArray++Builtin.zeroCells (Value.int .u8 0).cells (G - (l.length+s.size)))[j]?=some (.int .u8 ((l++s.data.toList)[j]'(by rw[aC,fK];exact hj)).toNat):=fun j hj=>by
   rw[Array.getElem?_append_left (by simp only[List.size_toArray,aC,yO,byteCells_length];exact hj),List.getElem?_toArray];have:=Jf (l++s.data.toList) j (by rw[aC,fK];exact hj);rw[← this];congr 1;simp[oO,byteCells]
  generalize(oO l++byteCells s).toArray++Builtin.zeroCells (Value.int .u8 0).cells (G - (l.length+s.size))=C at hr hC hat
  have hh:(w.drew.alloc (.cells C e)).heap[w.heap.size]?=some (.cells C e (0,0)):=heap_alloc_new w.drew _;have hG0:foot (.slice (some ⟨w.heap.size,0,none⟩) (l.length+s.size) G)=none∨foot (.slice (some ⟨w.heap.size,0,none⟩) (l.length+s.size) G)=some w.heap.size:=by
   by_cases h0:G=0
   ·left;simp[foot,h0]
   right;simp[foot,h0]
  refine⟨_,_,hr,.inr ⟨w.heap.size,G,by rw[aC,fK],.inr ⟨_,_,hh⟩,by rw[aC,fK];exact hge,fun j hj=>⟨?_,?_⟩,fun j hj=>?_⟩,((dX.refl _ _).dr.more _),.inr fun g' hg'=>by rcases hG0 with h|h<;>rw[h]at hg'<;>simp at hg';omega⟩
  ·rw[cell_of_row _ _ _ _ _ _ hh]
   simp[hC,hj]
  ·unfold World.frozen?
   rw[hh];simp
  rw[aC,fK]at hj;rw[cell_of_row _ _ _ _ _ _ hh,hat j hj]
theorem Buf.back{P:Program}(h:Buf w e v l)(src dst:TypeId)(hs:P.underlying src=some (.slice e))(he:P.underlying e=some (.int .u8))(hd:P.underlying dst=some .string) :
 (convert src dst v).run P w=.ok (.string (txt l)) w:=by
 rcases h with⟨rfl,rfl⟩|⟨g,cap,rfl,hlt,hc,hall,hl⟩
 ·exact run_convert_bytes_nil w src e hs he 0 0 dst hd
 ·have:=run_convert_bytes_back (P:=P) w src dst e ⟨g,0,none⟩ cap l hs he hd fun j hj=>by
   rw[rV];exact hl j hj
  exact this
theorem Buf.len(h:Buf w e v l):∃A c,v=.slice A l.length c:=by
 rcases h with⟨rfl,rfl⟩|⟨g,cap,rfl,_⟩
 ·exact⟨_,_,rfl⟩
 exact⟨_,_,rfl⟩
end
theorem wpList_append_run{P:Program}{w w':World}{ops:Array Oper}{rest:List Oper}{o:Oper}{a:Act}{Q:Exit→Act→World→Prop}(hgd:o.guard=none)(s x:Operand)(t u:TypeId)
 (ho:o.op=.call { callee:=.builtin .append,args:=#[s,x],argTypes:=#[t,u] }) (v y v':Value) (hs:a.eval s=v) (hx:a.eval x=y)
 (hrun:(Builtin.append_ #[t,u] o.type #[v,y]).run P w=.ok v' w') (h:wpList P ops Q rest (a.put o.dst v') w'):wpList P ops Q (o::rest) a w:=by
 refine wpList_plain hgd fun K hK=>?_
 unfold Oper.wp
 simp[execOp,ho,resolve,invoke,builtin,hs,hx,hrun,Result.andThen]
 exact hK _ _ h
end Go.PM
end
section
namespace Go.PM
open Go.RowKit
inductive Fs where
 |nil:Fs
 |cons (tag:Nat) (ty:Int) (num:Nat) (text:ByteArray) (inner rest:Fs):Fs
namespace Fs
def len:Fs→Nat
 |nil=>0
 |cons _ _ _ _ _ r=>r.len+1
def count:Fs→Nat
 |nil=>0
 |cons _ _ _ _ i r=>1+i.count+r.count
def app:Fs→Fs→Fs
 |nil,g=>g
 |cons t y n s i r,g=>cons t y n s i (r.app g)
theorem xJ:∀f:Fs,f.app nil=f
 |nil=>rfl
 |cons t y n s i r=>by rw[app,xJ r]
theorem DU:∀f g:Fs,(f.app g).len=f.len+g.len
 |nil,g=>by simp[app,len]
 |cons t y n s i r,g=>by rw[app,len,len,DU r g];omega
theorem Bq:∀f g:Fs,(f.app g).count=f.count+g.count
 |nil,g=>by simp[app,count]
 |cons t y n s i r,g=>by rw[app,count,count,Bq r g];omega
theorem I9:∀f g h:Fs,(f.app g).app h=f.app (g.app h)
 |nil,_,_=>rfl
 |cons t y n s i r,g,h=>by rw[app,app,app,I9 r g h]
theorem jr:∀{f:Fs},f.len=0→f=nil
 |nil,_=>rfl
 |cons ..,h=>by simp[len]at h
theorem kH:∀f:Fs,f.len≤f.count
 |nil=>au _
 |cons t y n s i r=>by have:=kH r;rw[len,count];omega
def All(P:Nat→Int→Nat→ByteArray→Prop):Fs→Prop
 |nil=>True
 |cons t y n s i r=>P t y n s∧All P i∧All P r
theorem All.app{P:Nat→Int→Nat→ByteArray→Prop}:∀{f g:Fs},All P f→All P g→All P (f.app g)
 |nil,_,_,h=>h
 |cons ..,_,h,h'=>⟨h.1,h.2.1,All.app h.2.2 h'⟩
end Fs
def gX(w:World)(I:Nat→Prop):Fs→Nat→Nat→Prop
 |.nil,_,_=>True
 |.cons t y n s i r,b,o=>
   w.cell? ⟨b,o,none⟩=some (.int .u64 (t:Int))∧w.cell? ⟨b,o+1,none⟩=some (.int .i64 y)∧w.cell? ⟨b,o+2,none⟩=some (.int .u64 (n:Int))∧w.cell? ⟨b,o+3,none⟩=some (.string s)∧
   (∃A c,w.cell? ⟨b,o+4,none⟩=some (.slice A i.len c)∧i.len≤c∧(i.len=0∨∃b' o',A=some ⟨b',o',none⟩∧I b'∧b'<w.heap.size∧gX w I i b' o'))∧gX w I r b (o+5)
def eF(w:World)(I:Nat→Prop)(v:Value)(f:Fs):Prop :=
 ∃A c,v=.slice A f.len c∧f.len≤c∧(f.len=0∨∃b o,A=some ⟨b,o,none⟩∧I b∧b<w.heap.size∧gX w I f b o)
def Cls(w:World)(I:Nat→Prop):List Value→Fs→Prop
 |[],.nil=>True
 |a::b::c::d::v::xs,.cons t y n s i r=>a=.int .u64 (t:Int)∧b=.int .i64 y∧c=.int .u64 (n:Int)∧d=.string s∧eF w I v i∧Cls w I xs r
 |_,_=>False
section
variable {w w':World} {I J:Nat→Prop}
theorem gX.keep(hs:w.heap.size≤w'.heap.size)(hI:∀k,I k→k<w.heap.size→w'.heap[k]?=w.heap[k]?):∀{f:Fs} {b o:Nat},w'.heap[b]?=w.heap[b]?→gX w I f b o→gX w' I f b o
 |.nil,_,_,_,_=>trivial
 |.cons t y n s i r,b,o,hb,h=>by
   have e:∀j,w'.cell? ⟨b,j,none⟩=w.cell? ⟨b,j,none⟩:=fun j=>World.cell?_of_block (a:=⟨b,j,none⟩) hb;obtain⟨h1,h2,h3,h4,⟨A,c,h5,hc,h6⟩,h7⟩:=h;refine⟨(e _).trans h1,(e _).trans h2,(e _).trans h3,(e _).trans h4,⟨A,c,(e _).trans h5,hc,?_⟩,gX.keep hs hI hb h7⟩;rcases h6 with h6|⟨b',o',hA,hi,hlt,h8⟩
   ·exact .inl h6
   exact .inr ⟨b',o',hA,hi,aQ hlt hs,gX.keep hs hI (hI b' hi hlt) h8⟩
theorem gX.imp(hJ:∀k,I k→J k):∀{f:Fs} {b o:Nat},gX w I f b o→gX w J f b o
 |.nil,_,_,_=>trivial
 |.cons t y n s i r,b,o,h=>by
   obtain⟨h1,h2,h3,h4,⟨A,c,h5,hc,h6⟩,h7⟩:=h;refine⟨h1,h2,h3,h4,⟨A,c,h5,hc,?_⟩,gX.imp hJ h7⟩;rcases h6 with h6|⟨b',o',hA,hi,hlt,h8⟩
   ·exact .inl h6
   exact .inr ⟨b',o',hA,hJ _ hi,hlt,gX.imp hJ h8⟩
theorem eF.keep{v:Value}{f:Fs}(h:eF w I v f)(hs:w.heap.size≤w'.heap.size)(hI:∀k,I k→k<w.heap.size→w'.heap[k]?=w.heap[k]?):eF w' I v f:=by
 obtain⟨A,c,hv,hc,h⟩:=h;refine⟨A,c,hv,hc,h.imp id fun⟨b,o,hA,hi,hlt,h8⟩=>⟨b,o,hA,hi,aQ hlt hs,h8.keep hs hI (hI b hi hlt)⟩⟩
theorem eF.imp{v:Value}{f:Fs}(h:eF w I v f)(hJ:∀k,I k→J k):eF w J v f:=by
 obtain⟨A,c,hv,hc,h⟩:=h;exact⟨A,c,hv,hc,h.imp id fun⟨b,o,hA,hi,hlt,h8⟩=>⟨b,o,hA,hJ _ hi,hlt,h8.imp hJ⟩⟩
theorem eF.below{v:Value}{f:Fs}(h:eF w I v f)(hb:Below w.heap.size w w'):eF w' I v f:=h.keep hb.size fun k _ hk=>hb.block k hk
theorem eF.fE{S:Nat→Prop}{v:Value}{f:Fs}(h:eF w I v f)(hb:dX S w w')(hS:∀k,I k→¬S k):eF w' I v f:=h.keep hb.size fun k hi hk=>hb.block k hk (hS k hi)
theorem eF.nil(w:World)(I:Nat→Prop)(A:Option Addr)(c:Nat):eF w I (.slice A 0 c) .nil:=⟨A,c,rfl,aW _,.inl rfl⟩
theorem Cls.keep(hs:w.heap.size≤w'.heap.size)(hI:∀k,I k→k<w.heap.size→w'.heap[k]?=w.heap[k]?):∀{xs:List Value} {f:Fs},Cls w I xs f→Cls w' I xs f
 |[],.nil,_=>trivial
 |_::_::_::_::_::_,.cons ..,h=>⟨h.1,h.2.1,h.2.2.1,h.2.2.2.1,h.2.2.2.2.1.keep hs hI,Cls.keep hs hI h.2.2.2.2.2⟩
 |[],.cons ..,h=>h.elim
 |_::_,.nil,h=>by simp[Cls]at h
 |[_],.cons ..,h=>by simp[Cls]at h
 |[_,_],.cons ..,h=>by simp[Cls]at h
 |[_,_,_],.cons ..,h=>by simp[Cls]at h
 |[_,_,_,_],.cons ..,h=>by simp[Cls]at h
theorem Cls.below{xs:List Value}{f:Fs}(h:Cls w I xs f)(hb:Below w.heap.size w w'):Cls w' I xs f:=h.keep hb.size fun k _ hk=>hb.block k hk
theorem Cls.fE{S:Nat→Prop}{xs:List Value}{f:Fs}(h:Cls w I xs f)(hb:dX S w w')(hS:∀k,I k→¬S k):Cls w' I xs f:=h.keep hb.size fun k hi hk=>hb.block k hk (hS k hi)
theorem Cls.imp(hJ:∀k,I k→J k):∀{xs:List Value} {f:Fs},Cls w I xs f→Cls w J xs f
 |[],.nil,_=>trivial
 |_::_::_::_::_::_,.cons ..,h=>⟨h.1,h.2.1,h.2.2.1,h.2.2.2.1,h.2.2.2.2.1.imp hJ,Cls.imp hJ h.2.2.2.2.2⟩
 |[],.cons ..,h=>h.elim
 |_::_,.nil,h=>by simp[Cls]at h
 |[_],.cons ..,h=>by simp[Cls]at h
 |[_,_],.cons ..,h=>by simp[Cls]at h
 |[_,_,_],.cons ..,h=>by simp[Cls]at h
 |[_,_,_,_],.cons ..,h=>by simp[Cls]at h
theorem Cls.length:∀{xs:List Value} {f:Fs},Cls w I xs f→xs.length=5*f.len
 |[],.nil,_=>rfl
 |_::_::_::_::_::xs,.cons _ _ _ _ _ r,h=>by
   have:=Cls.length h.2.2.2.2.2;simp only[bK,Fs.len];omega
 |[],.cons ..,h=>h.elim
 |_::_,.nil,h=>by simp[Cls]at h
 |[_],.cons ..,h=>by simp[Cls]at h
 |[_,_],.cons ..,h=>by simp[Cls]at h
 |[_,_,_],.cons ..,h=>by simp[Cls]at h
 |[_,_,_,_],.cons ..,h=>by simp[Cls]at h
theorem Cls.app:∀{xs ys:List Value} {f g:Fs},Cls w I xs f→Cls w I ys g→Cls w I (xs++ys) (f.app g)
 |[],_,.nil,_,_,h=>h
 |_::_::_::_::_::_,_,.cons ..,_,h,h'=>⟨h.1,h.2.1,h.2.2.1,h.2.2.2.1,h.2.2.2.2.1,Cls.app h.2.2.2.2.2 h'⟩
 |[],_,.cons ..,_,h,_=>h.elim
 |_::_,_,.nil,_,h,_=>by simp[Cls]at h
 |[_],_,.cons ..,_,h,_=>by simp[Cls]at h
 |[_,_],_,.cons ..,_,h,_=>by simp[Cls]at h
 |[_,_,_],_,.cons ..,_,h,_=>by simp[Cls]at h
 |[_,_,_,_],_,.cons ..,_,h,_=>by simp[Cls]at h
theorem Cls.at_:∀{xs:List Value} {f:Fs} {b o:Nat},Cls w I xs f→(∀j u,xs[j]?=some u→w.cell? ⟨b,o+j,none⟩=some u)→gX w I f b o
 |[],.nil,_,_,_,_=>trivial
 |x0::x1::x2::x3::v::xs,.cons t y n s i r,b,o,h,hc=>by
   obtain⟨rfl,rfl,rfl,rfl,⟨A,c,rfl,h5,h6⟩,h7⟩:=h;refine⟨hc 0 _ rfl,hc 1 _ rfl,hc 2 _ rfl,hc 3 _ rfl,⟨A,c,hc 4 _ rfl,h5,h6⟩,Cls.at_ h7 fun j u hj=>?_⟩;rw[Nat.add_assoc,Nat.add_comm 5 j];exact hc (j+5) u hj
 |[],.cons ..,_,_,h,_=>h.elim
 |_::_,.nil,_,_,h,_=>by simp[Cls]at h
 |[_],.cons ..,_,_,h,_=>by simp[Cls]at h
 |[_,_],.cons ..,_,_,h,_=>by simp[Cls]at h
 |[_,_,_],.cons ..,_,_,h,_=>by simp[Cls]at h
 |[_,_,_,_],.cons ..,_,_,h,_=>by simp[Cls]at h
theorem gX.cls:∀{f:Fs} {b o:Nat},gX w I f b o→∃xs,Cls w I xs f∧∀j u,xs[j]?=some u→w.cell? ⟨b,o+j,none⟩=some u
 |.nil,_,_,_=>⟨[],trivial,by simp⟩
 |.cons t y n s i r,b,o,h=>by
   obtain⟨h1,h2,h3,h4,⟨A,c,h5,hc,h6⟩,h7⟩:=h;obtain⟨xs,hx,hx2⟩:=gX.cls h7;refine⟨.int .u64 (t:Int)::.int .i64 y::.int .u64 (n:Int)::.string s::.slice A i.len c::xs,⟨rfl,rfl,rfl,rfl,⟨A,c,rfl,hc,h6⟩,hx⟩,fun j u hj=>?_⟩
   match j,hj with
   |0,hj=>injection hj with hj;subst hj;exact h1
   |1,hj=>injection hj with hj;subst hj;exact h2
   |2,hj=>injection hj with hj;subst hj;exact h3
   |3,hj=>injection hj with hj;subst hj;exact h4
   |4,hj=>injection hj with hj;subst hj;exact h5
   |j+5,hj=>
     have:=hx2 j u hj;rw[Nat.add_assoc,Nat.add_comm 5 j]at this;exact this
end
def Fs.drop:Fs→Nat→Fs
 |f,0=>f
 |.nil,_+1=>.nil
 |.cons _ _ _ _ _ r,k+1=>r.drop k
def Fs.take:Fs→Nat→Fs
 |_,0=>.nil
 |.nil,_+1=>.nil
 |.cons t y n s i r,k+1=>.cons t y n s i (r.take k)
theorem Fs.uJ:∀(f:Fs) (k:Nat),(f.drop k).len=f.len - k
 |f,0=>by cases f<;>rfl
 |.nil,_+1=>by simp[Fs.drop,Fs.len]
 |.cons _ _ _ _ _ r,k+1=>by rw[Fs.drop,Fs.uJ r k,Fs.len];omega
theorem Fs.drop_cons:∀(f:Fs) (k:Nat),k<f.len→∃t y n s i,f.drop k=.cons t y n s i (f.drop (k+1))∧f.take (k+1)=(f.take k).app (.cons t y n s i .nil)
 |.cons t y n s i r,0,_=>⟨t,y,n,s,i,by cases r<;>rfl,by cases r<;>rfl⟩
 |.cons t y n s i r,k+1,h=>by
   obtain⟨t',y',n',s',i',h1,h2⟩:=Fs.drop_cons r k (by simp[Fs.len]at h;omega);exact⟨t',y',n',s',i',h1,by rw[Fs.take,h2];rfl⟩
theorem Fs.Hy:∀(f:Fs) (k:Nat),f.len≤k→f.take k=f
 |.nil,0,_=>rfl
 |.nil,_+1,_=>rfl
 |.cons ..,0,h=>by simp[Fs.len]at h
 |.cons t y n s i r,k+1,h=>by rw[Fs.take,Fs.Hy r k (by simp[Fs.len]at h;omega)]
theorem Fs.take_len:∀(f:Fs) (k:Nat),k≤f.len→(f.take k).len=k
 |f,0,_=>by cases f<;>rfl
 |.nil,_+1,h=>by simp[Fs.len]at h
 |.cons t y n s i r,k+1,h=>by rw[Fs.take,Fs.len,Fs.take_len r k (by simp[Fs.len]at h;omega)]
theorem Fs.adq:∀(f:Fs) (k:Nat),(f.take k).count≤f.count
 |f,0=>by cases f<;>simp[Fs.take,Fs.count]
 |.nil,_+1=>au _
 |.cons t y n s i r,k+1=>by have:=Fs.adq r k;rw[Fs.take,Fs.count,Fs.count];omega
theorem gX.drop{w:World}{I:Nat→Prop}:∀{f:Fs} {b o:Nat} (k:Nat),gX w I f b o→gX w I (f.drop k) b (o+k*5)
 |f,b,o,0,h=>by cases f<;>simpa[Fs.drop]using h
 |.nil,_,_,_+1,_=>trivial
 |.cons t y n s i r,b,o,k+1,h=>by
   have:=gX.drop k h.2.2.2.2.2;rw[show o+5+k*5=o+(k+1)*5 by omega]at this;exact this
theorem gX.lt{w:World}{I:Nat→Prop}:∀{f:Fs} {b o:Nat},gX w I f b o→gX w (fun k=>I k∧k<w.heap.size) f b o
 |.nil,_,_,_=>trivial
 |.cons t y n s i r,b,o,h=>by
   obtain⟨h1,h2,h3,h4,⟨A,c,h5,hc,h6⟩,h7⟩:=h;refine⟨h1,h2,h3,h4,⟨A,c,h5,hc,?_⟩,gX.lt h7⟩;rcases h6 with h6|⟨b',o',hA,hi,hlt,h8⟩
   ·exact .inl h6
   exact .inr ⟨b',o',hA,⟨hi,hlt⟩,hlt,gX.lt h8⟩
theorem eF.lt{w:World}{I:Nat→Prop}{v:Value}{f:Fs}(h:eF w I v f):eF w (fun k=>I k∧k<w.heap.size) v f:=by
 obtain⟨A,c,hv,hc,h⟩:=h;exact⟨A,c,hv,hc,h.imp id fun⟨b,o,hA,hi,hlt,h8⟩=>⟨b,o,hA,⟨hi,hlt⟩,hlt,h8.lt⟩⟩
theorem Cls.lt{w:World}{I:Nat→Prop}:∀{xs:List Value} {f:Fs},Cls w I xs f→Cls w (fun k=>I k∧k<w.heap.size) xs f
 |[],.nil,_=>trivial
 |_::_::_::_::_::_,.cons ..,h=>⟨h.1,h.2.1,h.2.2.1,h.2.2.2.1,h.2.2.2.2.1.lt,Cls.lt h.2.2.2.2.2⟩
 |[],.cons ..,h=>h.elim
 |_::_,.nil,h=>by simp[Cls]at h
 |[_],.cons ..,h=>by simp[Cls]at h
 |[_,_],.cons ..,h=>by simp[Cls]at h
 |[_,_,_],.cons ..,h=>by simp[Cls]at h
 |[_,_,_,_],.cons ..,h=>by simp[Cls]at h
theorem Cls.grow{wq w3:World}{base g:Nat}{v:Value}{xs:List Value}{f:Fs}(h:Cls wq (fun k=>base≤k∧v.ownBlock≠some k) xs f)(hg:wq.grownBy w3 v.ownBlock)(hat:v.ownBlock=some g∨g=wq.heap.size) :
 Cls w3 (fun k=>base≤k∧some g≠some k) xs f:=by
 have h2:=Cls.fE (S:=fun k=>v.ownBlock=some k) h.lt (dX.grown hg fun k hk _=>hk) fun k hk=>hk.1.2
 refine h2.imp fun k hk=>⟨hk.1.1,fun e=>?_⟩
 injection e with e
 subst e
 rcases hat with h|h
 ·exact hk.1.2 h
 ·have:=hk.2;omega
theorem dU.news{w:World}{g:Nat}{t:TypeId}{cs:Array Value}(h:dU w g t cs):∀j u,cs.toList[j]?=some u→w.cell? ((⟨g,0,none⟩:Addr).add j)=some u:=by
 intro j u hj;rw[rV,h.cell j,← bU];exact hj
theorem Fs.All.imp{P Q:Nat→Int→Nat→ByteArray→Prop}(h:∀t y n s,P t y n s→Q t y n s):∀{f:Fs},f.All P→f.All Q
 |.nil,_=>trivial
 |.cons ..,hf=>⟨h _ _ _ _ hf.1,Fs.All.imp h hf.2.1,Fs.All.imp h hf.2.2⟩
theorem Fs.All.drop{P:Nat→Int→Nat→ByteArray→Prop}:∀{f:Fs} (k:Nat),f.All P→(f.drop k).All P
 |f,0,h=>by cases f<;>exact h
 |.nil,_+1,_=>trivial
 |.cons ..,k+1,h=>Fs.All.drop k h.2.2
theorem Fs.yP:∀(f:Fs) (k:Nat),(f.drop k).count≤f.count
 |f,0=>by cases f<;>exact au _
 |.nil,_+1=>au _
 |.cons _ _ _ _ _ r,k+1=>by have:=Fs.yP r k;rw[Fs.drop,Fs.count];omega
end Go.PM
end
