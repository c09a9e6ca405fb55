/-
  Parts of the proof. Conditions: as each names.
-/
import Derived.Test.YtgidfnhfgiehjaaGreatDoorYac
import Derived.Shelf.SlSortCmp.WholeK
import Derived.ProofKit
import Derived.OpenShut
import Derived.Deep.SlicePairs
section
namespace Go.PM
open Go.RowKit Go.Sort Go.Proofs
theorem flat_length{α:Type}{enc:α→List Value}{k:Nat}(hk:∀x,(enc x).length=k):∀l:List α,(l.flatMap enc).length=l.length*k
 |[]=>by simp
 |a::r=>by rw[List.flatMap_cons,aC,hk,flat_length hk r,bK,Nat.add_mul,Nat.one_mul,Nat.add_comm]
section
variable {α:Type} [Inhabited α] {enc:α→List Value} {k:Nat}
theorem aau(hk:∀x,(enc x).length=k)(k0:0<k):∀(l:List α) (t:Nat),t<l.length*k→(l.flatMap enc)[t]?=some ((enc l[t / k]!)[t%k]!)
 |[],t,h=>by simp at h
 |a::r,t,h=>by
   rw[List.flatMap_cons];by_cases ht:t<k
   ·rw[List.getElem?_append_left (by rw[hk];exact ht),Nat.div_eq_of_lt ht,Nat.mod_eq_of_lt ht]
    have:t<(enc a).length:=(by rw[hk];exact ht);simp[this]
   obtain⟨u,rfl⟩:∃u,t=u+k:=⟨t - k,by omega⟩;rw[List.getElem?_append_right (by rw[hk];omega),hk,Nat.add_sub_cancel,aau hk k0 r u (by simp only[bK,Nat.add_mul,Nat.one_mul]at h;omega),Nat.add_div_right _ k0,Nat.add_mod_right];simp
theorem aat(hk:∀x,(enc x).length=k)(k0:0<k)(d:Array α):(flatK enc k d).toList=d.toList.flatMap enc:=by
 apply List.ext_getElem?;intro t;by_cases h:t<d.size*k
 ·rw[aau hk k0 d.toList t (by simpa using h)]
  have h1:=get_flatK enc k d t h;rw[bU,Array.getElem?_eq_getElem (by rw[size_flatK];exact h)];rw[getElem!_pos _ _ (by rw[size_flatK];exact h)]at h1;have hq:t / k<d.size:=(Nat.div_lt_iff_lt_mul k0).2 h;rw[h1,getElem!_pos d.toList (t / k) (by simpa using hq),getElem!_pos d (t / k) hq,Array.getElem_toList]
 rw[List.getElem?_eq_none (by rw[Array.length_toList,size_flatK];omega),List.getElem?_eq_none (by rw[flat_length hk,Array.length_toList];omega)]
theorem Oj{w:World}{base n g cap:Nat}{e:TypeId}{xs:List Value}(hk:∀x,(enc x).length=k)(k0:0<k)(d:Array α)(hd:d.size=n)(h:w.ownsRow base e k (.slice (some ⟨g,0,none⟩) n cap) n xs)(hx:xs=d.toList.flatMap enc) :
 HoldsK enc k w g 0 d∧g<w.heap.size∧base≤g:=by
 rcases h.2 with⟨h0,_⟩|⟨g',cap',cur,hv,hg,hb,hn,hm,hs,ht⟩
 ·cases h0
 injection hv with h1 h2 h3
 injection h1 with h1
 injection h1 with h1
 subst h1 h3
 refine⟨fun j hj=>?_,(bY.1 hb).1,hg⟩
 rw[size_flatK]at hj
 refine⟨?_,by simp[World.frozen?,hb]⟩
 have h5:(cur.toList.take (n*k))[j]?=(flatK enc k d).toList[j]?:=by rw[ht,hx,aat hk k0]
 rw[List.getElem?_take_of_lt (by rw[← hd];exact hj),bU,bU,Array.getElem?_eq_getElem (xs:=flatK enc k d) (by rw[size_flatK];exact hj)]at h5
 simp only[World.cell?,hb,aX]
 simp only[Option.isSome_none,Bool.false_eq_true,if_false]
 rw[h5,getElem!_pos _ _ (by rw[size_flatK];exact hj)]
 rfl
theorem ahY{w:World}{g m:Nat}{os:Array Obj}{cur:Array Value}{e:TypeId}{fr:Nat×Nat}(d:Array α)(hb:w.heap[g]?=some (.cells cur e fr)) :
 (sortWorldK enc k w g 0 m d os).heap[g]?=some (.cells (putCells id 0 (flatK enc k d) cur) e fr):=by
 have hg:g<w.heap.size:=(bY.1 hb).1
 unfold sortWorldK putRowK
 rw[heap_grow_old _ _ (by simpa[putRow,mapBlock,Sort.ahead]using hg)]
 simp[putRow,mapBlock,Sort.ahead,Array.getElem?_modify,hb,onCells]
theorem NJ{w:World}{g m:Nat}{os:Array Obj}(d:Array α):w.grownBy (sortWorldK enc k w g 0 m d os) (some g):=by
 unfold sortWorldK putRowK;refine⟨rfl,rfl,rfl,by simp[grow,putRow,mapBlock,Sort.ahead],fun j hj hne=>?_⟩;rw[heap_grow_old _ _ (by simpa[putRow,mapBlock,Sort.ahead]using hj)];have:g≠j:=fun e=>hne (by rw[e]);simp[putRow,mapBlock,Sort.ahead,Array.getElem?_modify,this]
theorem am6(cur F:Array Value)(h:F.size≤cur.size):(putCells id 0 F cur).toList.take F.size=F.toList:=by
 apply List.ext_getElem?;intro j;by_cases hj:j<F.size
 ·rw[List.getElem?_take_of_lt hj,bU,bU]
  simp[putCells,hj,show j<cur.size by omega]
 rw[List.getElem?_take_eq_none (by omega),List.getElem?_eq_none (by simp;omega)]
theorem O7{w:World}{base n g cap m:Nat}{e:TypeId}{xs:List Value}{os:Array Obj}(hk:∀x,(enc x).length=k)(k0:0<k)(d:Array α)(hd:d.size=n)(h:w.ownsRow base e k (.slice (some ⟨g,0,none⟩) n cap) n xs) :
 (sortWorldK enc k w g 0 m d os).ownsRow base e k (.slice (some ⟨g,0,none⟩) n cap) n (d.toList.flatMap enc):=by
 rcases h.2 with⟨h0,_⟩|⟨g',cap',cur,hv,hg,hb,hn,hm,hs,ht⟩
 ·cases h0
 injection hv with h1 h2 h3
 injection h1 with h1
 injection h1 with h1
 subst h1 h3
 refine⟨by rw[flat_length hk,Array.length_toList,hd],.inr ⟨g,cap,_,rfl,hg,ahY d hb,hn,hm,by simp[putCells,hs],?_⟩⟩
 have h6:=am6 cur (flatK enc k d) (by rw[size_flatK,hs,hd];exact Nat.mul_le_mul_right k hn)
 rw[size_flatK,hd,aat hk k0]at h6
 exact h6
theorem permIn_all{d d':Array α}(h:PermIn 0 d.size d d'):d.toList.Perm d'.toList:=by
 obtain⟨h1,_,h3⟩:=h;have e:d'.extract 0 d.size=d':=by rw[← h1];simp
 rw[e]at h3;simpa using h3.symm
theorem adb{lt:α→α→Bool}{d:Array α}{n:Nat}(h:SortedIn lt 0 n d)(hn:d.size=n):d.toList.Pairwise (fun a b=>lt b a=false):=by
 rw[List.pairwise_iff_getElem];intro i j hi hj hij;have:=h i j (aW _) hij (by rw[← hn];simpa using hj);rw[getElem!_pos d i (by simpa using hi),getElem!_pos d j (by simpa using hj)]at this;simpa using this
end
end Go.PM
end
namespace Go.PM
open Go.RowKit
theorem YW{b:Nat}{t:TypeId}:∀(vs:List Value) (o:Nat) (cs:Array Value) (w:World),dU w b t cs→o+vs.length≤cs.size→dU (w.setCells b o vs) b t (cs.toList.take o++vs++cs.toList.drop (o+vs.length)).toArray
 |[],o,cs,w,h,_=>by simpa[World.setCells]using h
 |v::r,o,cs,w,h,hl=>by
   rw[bK]at hl;rw[World.setCells];have h1:=YW r (o+1) (cs.setIfInBounds o v) _ (h.put o v) (by rw[Array.size_setIfInBounds];omega);have ho:o<cs.toList.length:=(by rw[Array.length_toList];omega);have e:(cs.setIfInBounds o v).toList=cs.toList.take o++v::cs.toList.drop (o+1):=by
    rw[Array.toList_setIfInBounds,List.set_eq_take_append_cons_drop,aA ho]
   have hlt:(cs.toList.take o).length=o:=(by rw[bD];omega);rw[e]at h1;have e1:(cs.toList.take o++v::cs.toList.drop (o+1)).take (o+1)=cs.toList.take o++[v]:=by
    rw[List.take_append,hlt,aU (by rw[hlt];omega),show o+1 - o=1 by omega];rfl
   have e2:(cs.toList.take o++v::cs.toList.drop (o+1)).drop (o+1+r.length)=cs.toList.drop (o+(v::r).length):=by
    rw[List.drop_append,hlt,List.drop_eq_nil_of_le (by rw[hlt];omega),List.nil_append,show o+1+r.length - o=r.length+1 by omega,List.drop_succ_cons,cZ];congr 1;rw[bK];omega
   rw[e1,e2]at h1;simpa using h1
def World.jM(w:World)(b:Nat)(cs:Array Value):World:=w.setCells b 0 cs.toList
theorem ny{w:World}{b:Nat}{t:TypeId}{cs ds:Array Value}(h:dU w b t cs)(hs:cs.size=ds.size):dU (World.jM w b ds) b t ds:=by
 have h1:=YW ds.toList 0 cs w h (by rw[Array.length_toList];omega);rw[List.take_zero,List.nil_append,List.drop_eq_nil_of_le (by simp[hs]),bQ]at h1;have h2:dU (w.setCells b 0 ds.toList) b t ds:=by simpa using h1
 exact h2
theorem ac7{b:Nat}{S:Nat→Prop}(hS:S b){a:World}:∀(vs:List Value) (o:Nat) (w:World),dX S a w→dX S a (w.setCells b o vs)
 |[],_,_,h=>h
 |v::r,o,w,h=>by
   rw[World.setCells];exact ac7 hS r (o+1) _ (h.put (fun _=>hS) v)
theorem mD(w:World)(b:Nat)(ds:Array Value):dX (fun j=>j=b) w (World.jM w b ds):=ac7 (S:=fun j=>j=b) rfl ds.toList 0 w (dX.refl (fun j=>j=b) w)
theorem vU{P:Program}{fn:Func}{p u:Tmp}{ty:TypeId}(h:fn.results=#[.cell p ty,.tmp u])(tmps:Array Value)(w:World)(g:Nat)(t:TypeId)(cs:Array Value)(d:TypeDesc)(x:Value)
 (hp:tmps.getD p undef=.pointer (some ⟨g,0,none⟩)) (hg:dU w g t cs) (hu:P.underlying ty=some d) (hd:(match d with|.struct _|.array _ _=>true|_=>false)=true) (hi:(P.info? ty).map (·.size)=some cs.size) (hx:tmps.getD u undef=x) :
 (results fn tmps).run P w=.ok (.tuple #[.agg cs,x]) w:=by
 rw[results_cell_tmp h,hp]
 simp only[asAddr,Sem.run_pure,Result.andThen_ok,run_loadVar_row w g t ty cs (0,0) d hg hu hd hi,hx]
theorem nN{P:Program}{ops:Array Oper}{rest:List Oper}{op:Oper}{a:Act}{w:World}{Q:Exit→Act→World→Prop}(hgd:op.guard=none)(ty:TypeId)(x:Operand)(ho:op.op=.load ty x)
 (b:Nat) (hx:a.eval x=.pointer (some ⟨b,0,none⟩)) {t:TypeId} (cs:Array Value) (hc:dU w b t cs) {d:TypeDesc}
 (hu:P.underlying ty=some d) (hd:d.isRow=true) (hi:(P.info? ty).map (·.size)=some cs.size)
 (h:wpList P ops Q rest (a.put op.dst (.agg cs)) w):wpList P ops Q (op::rest) a w :=
 wpList_load_mid hgd ty x ho b 0 hx cs.toList d (fun j v hv=>by rw[aX,hc.cell j,← bU];exact hv) hu hd (by rw[hi];simp) (by simpa using h)
theorem nO{P:Program}{ops:Array Oper}{rest:List Oper}{op:Oper}{a:Act}{w:World}{Q:Exit→Act→World→Prop}(hgd:op.guard=none)(ty:TypeId)(x y:Operand)(ho:op.op=.store ty x y)
 (b:Nat) (cells:Array Value) (hx:a.eval x=.pointer (some ⟨b,0,none⟩)) (hy:a.eval y=.agg cells) {t:TypeId} {cs:Array Value} (hc:dU w b t cs) (hs:cs.size=cells.size)
 (hi:(P.info? ty).map (·.size)=some cells.size) (h1:cells.all (·.oneCell')=true)
 (h:wpList P ops Q rest (a.put op.dst undef) (World.jM w b cells)):wpList P ops Q (op::rest) a w :=
 wpList_store_mid hgd ty x y ho b 0 cells hx hy (fun j hj=>by rw[aX];exact⟨by rw[hc.cell j,Array.getElem?_eq_getElem (by omega)];rfl,hc.free j⟩) hi h1 h
end Go.PM
section
namespace Go.PM
open Go.RowKit Go.ChangeShapes Go.WideShapes Go.Deep
section
variable {H:Type} {enc:TypeId×Value→H} {P:Program} {w:World} {spare:Nat→Bool} {held:Bool}
theorem alm{A:Addr}{xs:List Value}(hc:∀j u,xs[j]?=some u→w.cell? (A.add j)=some u):Rd w (some A) xs:=by
 cases xs with
 |nil=>exact .inl rfl
 |cons x xs=>
   have h0:=hc 0 x rfl;have hsp:=World.cell?_spot h0;obtain⟨b,off,spot⟩:=A;have hs:spot=none:=(by simpa[Addr.add]using hsp);subst hs;have ha:∀j,(⟨b,off,none⟩:Addr).add j=⟨b,off+j,none⟩:=fun j=>(by unfold Addr.add;split<;>simp_all);refine .inr ⟨b,off,rfl,?_,fun j u hj=>by rw[← ha];exact hc j u hj⟩;exact World.block_lt_of_cell? w _ (by rw[ha]at h0;exact h0)
theorem getD_take(zs:List Int)(len j:Nat)(h:j<len)(hl:len≤zs.length):(zs.take len)[j]?=some (zs.getD j 0):=by
 rw[List.getElem?_take,aA h,aP (by omega)];simp[List.getD,aP (show j<zs.length by omega)]
theorem akk{t e:TypeId}{k:IntKind}{a:Option Addr}{len cap:Nat}{d:DataW H}{ps:List MemPlace}(ht:P.underlying t=some (.slice e))(he:P.underlying e=some (.int k))(hc:P.cellsOf e=1)
 (h:DataW.Trod enc P w 0 spare held t (.slice a len cap) d ps) :
 ∃l:List Int,l.length=len∧Rd w a (l.map (Value.int k))∧(∀n∈l,(Lit.int k n).wf=true)∧len≤cap∧cap≤maxLen:=by
 obtain⟨fuel,hf⟩:=h
 rcases open_ints ht he hc hf with⟨hcs,_⟩|⟨x,l,c,zs,hcs,_,hl,hm,hz,_,hcell,hwz⟩
 ·simp[Value.cells]at hcs
  obtain⟨rfl,rfl,rfl⟩:=hcs;exact⟨[],rfl,Rd.nil _ _,by simp,by omega,by unfold maxLen;omega⟩
 ·simp[Value.cells]at hcs
  obtain⟨rfl,rfl,rfl⟩:=hcs;have hzl:len≤zs.length:=by rw[hz];split<;>omega
  refine⟨zs.take len,by simp;omega,alm fun j u hj=>?_,fun n hn=>hwz n (List.mem_of_mem_take hn),hl,hm⟩;have hj':j<len:=by
   have:=(List.getElem?_eq_some_iff.1 hj).1;simp at this;omega
  rw[List.getElem?_map,getD_take zs len j hj' hzl]at hj;simp at hj;rw[hcell j (by omega),← hj];simp
end
end Go.PM
end
