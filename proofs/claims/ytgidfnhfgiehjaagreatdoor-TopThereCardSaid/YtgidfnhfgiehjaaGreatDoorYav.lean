/-
  Parts of the proof. Conditions: as each names.
-/
import Derived.Test.YtgidfnhfgiehjaaGreatDoorYat
import Derived.Test.YtgidfnhfgiehjaaGreatDoorYas
namespace Go.Proofs.YtgidfnhfgiehjaaGreatDoor
open Go.PM Go.RowKit Go.Proofs.Tryz
set_option maxRecDepth 100000
set_option maxHeartbeats 4000000
attribute [local go_sem ↓] Go.wp_at_zero Go.wp_at_succ
theorem Y2(b:Nat)(w:World)(h0:w.cell? ⟨b,0,none⟩=some (.pointer none))(hsh:w.shape? b=some (222,2))(hfz:w.frozen? ⟨b,0,none⟩=false) :
 Calls prog 173 #[.pointer (some ⟨b,0,none⟩)] w fun e w'=>e=.returned (.tuple #[])∧w'=w.setCell ⟨b,0,none⟩ (.pointer (some ⟨b,0,none⟩)):=by
 have hs:(prog.info? 222).map (·.size)=some 2:=by kernel_rfl
 obtain⟨j,hj,hjs⟩:=Option.map_eq_some_iff.1 hs
 go_enter func173,ntmps173
 go_wp2_with fail
 rw[Lib.run_to_unsafe w ⟨b,0,none⟩ underlying220 underlying289 hj (by rw[hjs];decide) hsh (Nat.zero_lt_succ 1)]
 simp only[Result.andThen]
 rw[Oper.upon_value]
 go_wp2_with fail
 rw[run_callFunc_extern func212 (by kernel_rfl) (by kernel_rfl) (by kernel_rfl) (e:=Extern.AbiNoEscape.same) (by kernel_rfl)]
 rw[Lib.run_noEscape]
 simp only[Result.andThen]
 rw[Oper.upon_value]
 go_wp2_with fail
 rw[Lib.run_from_unsafe w ⟨b,0,none⟩ underlying289 underlying220 hj hsh (by kernel_rfl)]
 simp only[Result.andThen]
 rw[Oper.upon_value]
 go_wp2_with fail
 go_end0
 exact⟨rfl,rfl⟩
theorem Y3(b:Nat)(w:World)(h0:w.cell? ⟨b,0,none⟩=some (.pointer (some ⟨b,0,none⟩))) :
 Calls prog 173 #[.pointer (some ⟨b,0,none⟩)] w fun e w'=>e=.returned (.tuple #[])∧w'=w:=by
 have hs:(prog.info? 222).map (·.size)=some 2:=by kernel_rfl
 obtain⟨j,hj,hjs⟩:=Option.map_eq_some_iff.1 hs
 go_enter func173,ntmps173
 go_wp2_with fail
 rw[Lib.run_neq_ptr_same w _ underlying220 hj]
 go_wp2_with fail
 go_end0
 exact⟨rfl,rfl⟩
abbrev pq(B b:Nat)(l:List UInt8)(w:World):Prop:=Lib.IsBuilderF 222 5 B b (Lib.byteCells l) w
theorem pq.below{B b:Nat}{l:List UInt8}{w w':World}(h:pq B b l w)(hb:Below w.heap.size w w'):pq B b l w':=by
 have go:∀p,Lib.BuilderAtF 222 5 B b p (Lib.byteCells l) w→Lib.BuilderAtF 222 5 B b p (Lib.byteCells l) w':=fun p h=>by
  have hlt:=h.lt;obtain⟨hB,v,hbk,hown,hne⟩:=h;exact⟨hB,v,(hb.block b hlt).trans hbk,hown.kept (oH hb none) (by cases hv:v.ownBlock<;>simp),hne⟩
 exact h.imp (go _) (go _)
theorem pq.lt{B b:Nat}{l:List UInt8}{w:World}(h:pq B b l w):b<w.heap.size∧B≤b:=by
 rcases h with h|h
 ·exact⟨h.lt,h.1⟩
 exact⟨h.lt,h.1⟩
theorem abJ:(prog.info? 5).map (fun i=>(i.zero,i.size,i.bytes))=some (some (.int .u8 0),1,1):=by kernel_rfl
theorem afr(B b:Nat)(l:List UInt8)(w:World)(h:pq B b l w) :
 Calls prog 173 #[.pointer (some ⟨b,0,none⟩)] w fun e w'=>e=.returned (.tuple #[])∧Lib.BuilderAtF 222 5 B b (.pointer (some ⟨b,0,none⟩)) (Lib.byteCells l) w'∧Below B w w':=by
 rcases h with h|h
 ·refine(Y2 b w h.cell0 h.shape h.frozen0).mono ?_
  rintro e w' ⟨rfl,rfl⟩;exact⟨rfl,h.used _,(Below.refl B w).setCell (p:=⟨b,0,none⟩) h.1 _⟩
 ·refine(Y3 b w h.cell0).mono ?_
  rintro e w' ⟨rfl,rfl⟩;exact⟨rfl,h,Below.refl B _⟩
theorem Ic(B b:Nat)(l:List UInt8)(s:ByteArray)(w:World)(h:pq B b l w)(hlen:l.length+s.size≤100000000000)(hBw:B≤w.heap.size) :
 Calls prog 124 #[.pointer (some ⟨b,0,none⟩),.string s] w fun e w'=>e=.returned (.tuple #[.int .i64 s.size,.nilIface])∧pq B b (l++s.data.toList) w'∧Below B w w':=by
 obtain⟨i0,hi,hz0,hz1,hz2⟩:=info_parts abJ
 have CV:=ah (afr B b l w h)
 have hbl:(Lib.byteCells l).length=l.length:=by simp[Lib.byteCells]
 clear h
 go_enter func124,ntmps124
 go_wp2_with fail
 refine CV.out.mono ?_
 rintro e w1 ⟨rfl,h1,hb1⟩
 obtain⟨hB,v,hbk,hown,hne⟩:=h1
 have c0:w1.cell? ⟨b,0,none⟩=some (.pointer (some ⟨b,0,none⟩)):=by rw[Lib.cell_of_heap hbk];rfl
 have c1:w1.cell? ⟨b,1,none⟩=some v:=by rw[Lib.cell_of_heap hbk];rfl
 have HOWN:=ah hown
 have HB1:=ah hb1
 have zB:=ah hbk
 clear hown hb1 hbk CV
 go_wp2_with(at_builtin;refine Lib.wpList_append_own_stringF _ rfl _ _ 42 9 rfl B 5 i0 underlying42 underlying9 hi hz0 hz1 hz2 _ _ _ rfl HOWN.out s rfl ?c3 ?c4 ?c5 ?_)
 case c3=>rw[hbl];unfold maxLen;omega
 case c4=>rw[hbl];omega
 case c5=>have:=HB1.out.size;omega
 intro v' w2 hown' hgrow _
 have hlt:b<w1.heap.size:=by
  rcases Nat.lt_or_ge b w1.heap.size with h'|h'
  ·exact h'
  have:=zB.out;simp[Array.getElem?_eq_none h']at this
 have hb2:w2.heap[b]?=some (.cells #[.pointer (some ⟨b,0,none⟩),v] 222 (0,0)):=by
  rw[hgrow.block b hlt (fun e=>hne e.symm)];exact zB.out
 have d0:w2.cell? ⟨b,0,none⟩=some (.pointer (some ⟨b,0,none⟩)):=by rw[Lib.cell_of_heap hb2];rfl
 have d1:w2.cell? ⟨b,1,none⟩=some v:=by rw[Lib.cell_of_heap hb2];rfl
 have f1:w2.frozen? ⟨b,1,none⟩=false:=Lib.frozen_of_heap hb2 1
 obtain⟨ao,n',cap,rfl⟩:∃ao n' cap,v'=.slice ao n' cap:=by
  rcases hown'.2 with⟨hv,_⟩|⟨g,cap,cur,fz,hv,_⟩
  ·exact⟨_,_,_,hv⟩
  exact⟨_,_,_,hv⟩
 have yD:=ah hown'
 have Lj:=ah hgrow
 have HB2:=ah hb2
 clear hown' hgrow hb2
 go_wp2_with fail
 go_ret2
 refine⟨rfl,.inr ?_,?_⟩
 ·rw[Lib.byteCells_append]
  have hbs:(Lib.byteCells s.data.toList).length=s.size:=by simp[Lib.byteCells]
  exact Lib.BuilderAtF.put (T:=222) (e:=5) hB HB2.out (bs':=Lib.byteCells l++Lib.byteCells s.data.toList) (by rw[aC,hbs,hbl];exact yD.out) (by decide)
 ·exact(HB1.out.grown Lj.out (by have:=HB1.out.size;omega) (fun k hk=>(HOWN.out.lt k hk).1)).setCell (p:=⟨b,1,none⟩) hB _
theorem RI(w:World):pq w.heap.size w.heap.size [] (w.alloc (.cells #[.pointer none,.slice none 0 0] 222)) :=
 .inl ⟨au _,.slice none 0 0,heap_alloc_new w _,World.ownsRowF_of (World.ownsRow_nil _ _ _ _),by simp[Value.ownBlock]⟩
theorem VR(B b:Nat)(l:List UInt8)(w:World)(h:pq B b l w)(hBw:B≤w.heap.size) :
 Calls prog 126 #[.pointer (some ⟨b,0,none⟩)] w fun e w'=>e=.returned (.string (txt l))∧Below B w w' :=
 (Builder_String_any_k B b l w h hBw).mono fun _ _ ⟨h1,_,h3,_⟩=>⟨h1,h3⟩
theorem SH(k v:List UInt8)(hk:k.length≤1000000)(hv:v.length≤1000000):(jR k v).length≤3000000:=by
 have h1:=fO k.length;have h2:=fO v.length;have h3:fH k.length≤10:=iJ (by omega);have h4:fH v.length≤10:=iJ (by omega);simp only[jR,aC];omega
theorem Zq(l m:List fD):iR (l++m)=iR l++iR m:=by simp[iR]
theorem RZ:∀l:List fD,(∀e∈l,e.1.length≤1000000∧e.2.length≤1000000)→(iR l).length≤l.length*3000000
 |[],_=>by simp[iR]
 |a::r,h=>by
   have h1:=SH a.1 a.2 (h a (by simp)).1 (h a (by simp)).2;have h2:=RZ r fun e he=>h e (by simp[he]);have h3:iR (a::r)=jR a.1 a.2++iR r:=(by simp[iR]);rw[h3,aC,bK];omega
def um(l:List fD):Prop:=l.length≤1000∧∀e∈l,e.1.length≤1000000∧e.2.length≤1000000
theorem zf(A:Option Addr)(c:Nat)(l:List fD)(w:World)(hr:Rd w A (ents l))(hz:um l) :
 Calls prog 76 #[.slice A l.length c] w (aj w (.string (txt (eG l)))):=by
 have HR:=ah hr
 have HZ:=ah hz.2
 have hl:=hz.1
 have wl:IntKind.u64.wrap (l.length:Int)=(l.length:Int):=by rw[IntKind.wrap_u64];omega
 have HV:Hid (∀x:World,Calls prog 35 #[.int .u64 (l.length:Int)] x (aj x (.string (txt (dY l.length))))):=fun x=>put_any l.length x (by unfold In64;omega)
 have hb0:=ba (a:=w) b0 (.cells #[.pointer none,.slice none 0 0] 222)
 have HB0:=ah hb0
 have qJ:=ah (RI w)
 have hvl:(dY l.length).length≤10:=by rw[fO];exact iJ (by omega)
 have jA:Hid (∀k,(dY l.length++iR (l.take k)).length≤3000000010):=fun k=>by
  have h1:=RZ (l.take k) fun e he=>HZ.out e (List.mem_of_mem_take he);have h2:(l.take k).length≤1000:=by rw[bD];omega
  rw[aC];omega
 clear hr hz hb0
 go_enter func76,ntmps76
 go_wp2_with fail
 refine(HV.out _).mono ?_
 rintro e w1 ⟨rfl,hb1⟩
 have HB1:=ah (bb HB0.out hb1)
 have HW:=ah (Ic w.heap.size w.heap.size [] (txt (dY l.length)) w1 (qJ.out.below hb1) (by rw[gI,cO];omega) HB1.out.size)
 rw[List.nil_append,iD]at HW
 clear hb1
 go_wp2_with fail
 refine HW.out.mono ?_
 rintro e w2 ⟨rfl,rC,hb2⟩
 have H0:Hid (pq w.heap.size w.heap.size (dY l.length++iR (l.take 0)) w2∧Below w.heap.size w w2):=by
  rw[List.take_zero,show iR []=[]from rfl,bQ];exact⟨rC,HB1.out.trans hb2⟩
 clear rC hb2 HW HB1
 go_wp2_with fail
 go_loopg [13] l.length (fun gk ki wr=>∃k:Nat,k≤l.length∧l.length - k≤gk∧ki=.int .i64 (k:Int)∧Hid (pq w.heap.size w.heap.size (dY l.length++iR (l.take k)) wr∧Below w.heap.size w wr))
 case atStart=>exact⟨0,aW _,by omega,rfl,H0⟩
 case round=>
  obtain⟨k,hk,hgk,rfl,HS⟩:=hrel;obtain⟨yY,hbel⟩:=HS.out;have JU:=jA.out k;by_cases hlt:k<l.length
  ·obtain⟨b,off,rfl,hblt,c0,c1⟩:=(HR.out.below hbel).ent hlt
   obtain⟨z0,z1⟩:=HZ.out _ (aS hlt);have htk:l.take (k+1)=l.take k++[l[k]]:=(aT hlt).symm;generalize l[k]=x at *;obtain⟨x0,x1⟩:=x;simp only at c0 c1 z0 z1;have hnx:dY l.length++iR (l.take (k+1))=(dY l.length++iR (l.take k))++jR x0 x1:=by
    rw[htk,Zq];simp[iR]
   have kP:=ah hnx;have hel:=SH x0 x1 z0 z1;generalize hK:dY l.length++iR (l.take k)=K at *;have HP:=ah (ZT (txt x0) (txt x1) (wr.alloc (.cells #[.string (txt x0),.string (txt x1)] 132)) (by rw[gI];omega) (by rw[gI];omega));rw[iD,iD]at HP;have eU:=ba (a:=wr) b0 (.cells #[.string (txt x0),.string (txt x1)] 132);have wC:=ah eU;have Ij:=ah yY;have eX:=ah hbel;clear yY hbel htk hnx eU hK HS H0;go_wp2_with fail;refine HP.out.mono ?_;rintro e w3 ⟨rfl,hb3⟩;have HB3:=ah (bb wC.out hb3);have JC:=Ij.out.below HB3.out;have HW:=ah (Ic w.heap.size w.heap.size K (txt (jR x0 x1)) w3 JC (by rw[gI];omega) (aI eX.out.size HB3.out.size));rw[iD]at HW;clear hb3 JC HP;go_wp2_with fail;refine HW.out.mono ?_;rintro e w4 ⟨rfl,JD,hb4⟩
   have HN:Hid (pq w.heap.size w.heap.size (dY l.length++iR (l.take (k+1))) w4∧Below w.heap.size w w4):=by
    show _∧_;rw[kP.out];exact⟨JD,(eX.out.trans (HB3.out.mono eX.out.size)).trans hb4⟩
   clear JD hb4 HW kP;go_wp2_with fail;go_roundg (l.length - (k+1))
   case measure=>omega
   case rel=>exact⟨k+1,by omega,au _,by go_num,HN⟩
  obtain rfl:k=l.length:=by omega
  have hkk:dY l.length++iR (l.take l.length)=eG l:=by rw[aU (au _)];rfl
  rw[hkk]at yY;have HST:=ah (VR _ _ _ _ yY hbel.size);have HB:=ah hbel;clear yY hbel HS H0 hkk JU;go_wp2_with fail;refine HST.out.mono ?_;rintro e w3 ⟨rfl,hb3⟩;have HB3:=ah (HB.out.trans hb3);clear hb3;go_wp2_with fail;go_ret;exact⟨rfl,HB3.out⟩
theorem afH(A B:Option Addr)(c d:Nat)(l m:List fD)(w:World)(hr:Rd w A (ents l))(hs:Rd w B (ents m))(hz:um l)(hy:um m) :
 Calls prog 247 #[.slice A l.length c,.slice B m.length d] w (aj w (.int .i64 (Lib.compareBytes (eG l) (eG m)))):=by
 have HK:=ah (zf A c l w hr hz)
 have HM:Hid (∀x,Below w.heap.size w x→Calls prog 76 #[.slice B m.length d] x (aj x (.string (txt (eG m))))):=fun x hx=>zf B d m x (hs.below hx) hy
 have HC:Hid (∀x:World,Calls prog 250 #[.string (txt (eG l)),.string (txt (eG m))] x fun e w'=>e=.returned (.int .i64 (Lib.compareBytes (eG l) (eG m)))∧w'=x):=fun x=>strings_Compare (txt (eG l)) (txt (eG m)) x
 clear hr hs hz hy
 generalize Lib.compareBytes (eG l) (eG m)=R at *
 go_enter func247,ntmps247
 go_wp2_with fail
 refine HK.out.mono ?_
 rintro e w1 ⟨rfl,hb1⟩
 have HB1:=ah hb1
 clear hb1
 go_wp2_with fail
 refine(HM.out _ HB1.out).mono ?_
 rintro e w2 ⟨rfl,hb2⟩
 have HB2:=ah (bb HB1.out hb2)
 clear hb2
 go_wp2_with fail
 refine(HC.out _).mono ?_
 rintro e w3 ⟨rfl,rfl⟩
 go_wp2_with fail
 go_ret
 exact⟨rfl,HB2.out⟩
theorem O8(b:List UInt8):iw [] b=0:=by cases b<;>rfl
theorem acE(a:List UInt8):iw a []=0:=by cases a<;>rfl
theorem RU(a b:ByteArray)(w:World)(ha:a.size≤9223372036854775806) :
 Calls prog 185 #[.string a,.string b] w (aj w (.int .i64 (iw a.data.toList b.data.toList:Int))):=by
 have H0:Hid (iw a.data.toList b.data.toList=0+iw (a.data.toList.drop 0) (b.data.toList.drop 0)):=by
  show _=_;rw[dD,dD,aX]
 generalize iw a.data.toList b.data.toList=F at H0⊢
 go_enter func185,ntmps185
 go_wp2_with fail
 go_loopg [5] a.size (fun gk vi wr=>∃i:Nat,i≤a.size∧i≤b.size∧a.size - i≤gk∧vi=.int .i64 (i:Int)∧Below w.heap.size w wr∧Hid (F=i+iw (a.data.toList.drop i) (b.data.toList.drop i)))
 case atStart=>exact⟨0,aW _,aW _,by omega,rfl,b0,H0⟩
 case round=>
  obtain⟨i,hia,hib,hgk,rfl,hbw,HI⟩:=hrel;have HB:=ah hbw;clear hbw H0;by_cases h1:i<a.size
  ·have j1:(i:Int)<(a.size:Int):=by omega
   by_cases h2:i<b.size
   ·have j2:(i:Int)<(b.size:Int):=by omega
    have hi:=HI.out;rw[drop_at a i h1,drop_at b i h2,iw]at hi;by_cases he:a[i]=b[i]
    ·rw[aA he]at hi
     have HN:Hid (F=(i+1)+iw (a.data.toList.drop (i+1)) (b.data.toList.drop (i+1))):=by
      show _=_;omega
     have hne:(((a[i]).toNat:Int)==((b[i]).toNat:Int))=true:=(by rw[he];simp);clear hi HI he;go_wp2_with fail;go_quiet(fail);go_wp2_with fail;go_roundg (a.size - (i+1))
     case measure=>omega
     case rel=>exact⟨i+1,by omega,by omega,au _,by go_num,bn HB.out _,HN⟩
    rw[ay he]at hi;have hF:F=i:=(by omega);subst hF;have hne0:(a[F]).toNat≠(b[F]).toNat:=fun e=>he (UInt8.toNat_inj.1 e);have hne:(((a[F]).toNat:Int)==((b[F]).toNat:Int))=false:=(by rw[aB];omega);clear hi HI he hne0;go_wp2_with fail;go_quiet(fail);go_wp2_with fail;go_ret;exact⟨rfl,bn HB.out _⟩
   have j2:¬(i:Int)<(b.size:Int):=(by omega);have hi:=HI.out;rw[drop_end b i (by omega),acE]at hi;have hF:F=i:=(by omega);subst hF;clear hi HI;go_wp2_with fail;go_quiet(fail);go_wp2_with fail;go_ret;exact⟨rfl,bn HB.out _⟩
  have j1:¬(i:Int)<(a.size:Int):=by omega
  have hi:=HI.out;rw[drop_end a i (by omega),O8]at hi;have hF:F=i:=by omega
  subst hF;clear hi HI;go_wp2_with fail;go_quiet(fail);go_wp2_with fail;go_ret;exact⟨rfl,bn HB.out _⟩
theorem Vo(a s:ByteArray)(w:World)(ha:a.size≤1000000)(hs:s.size≤1000000) :
 Calls prog 147 #[.string a,.string s] w (aj w (.string (txt (je a.data.toList s.data.toList)))):=by
 have HC:=ah (RU a s w (by omega))
 have hle:=(Hl a.data.toList s.data.toList).2
 rw[fK]at hle
 obtain⟨k,hk⟩:∃k,k=iw a.data.toList s.data.toList:=⟨_,rfl⟩
 obtain⟨n,hn⟩:∃n,n=s.size - k:=⟨_,rfl⟩
 rw[← hk]at hle HC
 have H1:Hid (∀x:World,Calls prog 35 #[.int .u64 (k:Int)] x (aj x (.string (txt (dY k))))):=fun x=>put_any k x (by unfold In64;omega)
 have H2:Hid (∀x:World,Calls prog 35 #[.int .u64 (n:Int)] x (aj x (.string (txt (dY n))))):=fun x=>put_any n x (by unfold In64;omega)
 have HE:Hid ((txt (dY k)++txt (dY n))++s.extract k s.size=txt (je a.data.toList s.data.toList)):=by
  refine vX ?_;rw[wL,wL,iD,iD,PM.BG,je,fK,← hk,← hn];simp
 have wk:IntKind.u64.wrap (k:Int)=(k:Int):=by rw[IntKind.wrap_u64];omega
 have wn:IntKind.u64.wrap (n:Int)=(n:Int):=by rw[IntKind.wrap_u64];omega
 have hsub:(s.size:Int) - (k:Int)=(n:Int):=by omega
 have hk0:(0:Int)≤(k:Int):=by omega
 have hks:(k:Int)≤(s.size:Int):=by omega
 have hP:(txt (dY k)).size≤10:=by rw[gI,fO];exact iJ (by omega)
 have hQ:(txt (dY n)).size≤10:=by rw[gI,fO];exact iJ (by omega)
 have hR:(s.extract k s.size).size≤1000000:=by rw[ByteArray.size_extract];omega
 generalize txt (dY k)=P at *
 generalize txt (dY n)=Q at *
 generalize hX:s.extract k s.size=X at *
 have hr1:∀x:World,(Op.stringOp .add P Q).run prog x=.ok (.string (P++Q)) x:=fun x=>run_string_add_sum x P Q (by omega)
 have hr2:∀x:World,(Op.stringOp .add (P++Q) X).run prog x=.ok (.string (P++Q++X)) x:=fun x=>run_string_add_sum x _ _ (by rw[ByteArray.size_append];omega)
 clear hk hn hP hQ hR hle
 go_enter func147,ntmps147
 go_wp2_with fail
 refine HC.out.mono ?_
 rintro e w1 ⟨rfl,hb1⟩
 have HB1:=ah hb1
 clear hb1 HC
 have H1n:Hid (∀m:fV w1,Calls prog 35 #[.int .u64 (k:Int)] m.wld (aj m.wld (.string P))):=fun m=>H1.out _
 have Ih:Hid (∀m:fV w1,Calls prog 35 #[.int .u64 (n:Int)] m.wld (aj m.wld (.string Q))):=fun m=>H2.out _
 go_wp2_with fail
 refine kM (by kernel_rfl) (by kernel_rfl) ?_
 repeat(first|go_big_quiet_skip|(go_big_quiet_want;go_big_quiet_op;first|go_big_quiet_on|(apply Exists.intro;refine⟨fun nq=>?_,?_⟩;((first|(go_at_call 35;with_reducible show Calls _ _ #[.int .u64 (k:Int)] _ _;exact jW (H1n.out _))|(go_at_call 35;exact jW (Ih.out _))));go_big_quiet_on)))
 refine wpQuiet_nil ?_
 intro wq hnq
 obtain⟨nq,rfl⟩:=hnq
 have hq:=nq.bel
 generalize nq.wld=wq at hq⊢
 clear nq
 have HB2:=ah (bb HB1.out hq)
 clear hq H1n Ih
 go_wp2_with fail
 go_ret
 exact⟨by rw[← HE.out];rfl,HB2.out⟩
theorem abZ(x y:List UInt8):(Op.bytesLess x y||x==y) = !decide (Lib.compareBytes y x<0):=by
 rw[OT];have h1:=Bz x y;have h2:=wO x y;have h3:=MZ x y;by_cases he:x=y
 ·have:=h2.2 he
  rw[show decide (Lib.compareBytes y x<0)=false from aO (by omega),he];simp
 have h4:Lib.compareBytes x y≠0:=fun e=>he (h2.1 e);rw[show(x==y)=false from by rw[aB];exact he,Bool.or_false];by_cases hl:Lib.compareBytes x y<0
 ·rw[bH hl,aO (by omega)];rfl
 rw[aO hl,bH (by omega)];rfl
def qc(w:World)(b:Nat)(s:ByteArray)(k:Nat)(o:Option (List UInt8))(e:Ending)(w':World):Prop :=
 ∃k':Nat,e=.returned (.tuple #[.string (txt (iM o (s.data.toList.drop k)).1),.int .i64 (iM o (s.data.toList.drop k)).2.2])∧fG w' b s k'∧((iM o (s.data.toList.drop k)).2.2=0→k'=k+(iM o (s.data.toList.drop k)).2.1)∧w.grownBy w' (some b)
theorem ak6(s:List UInt8)(V V2:Nat×Nat×Nat)(h:dQ s=V)(h2:dQ (s.drop V.2.1)=V2):iM none s=if V.2.2≠0 then([],0,(V.2.2:Int))else if 0<V.1 then([],0,23)else if V2.2.2≠0 then([],0,(V2.2.2:Int))
 else if s.length - V.2.1 - V2.2.1<V2.1 then([],0,1)else((s.drop (V.2.1+V2.2.1)).take V2.1,V.2.1+V2.2.1+V2.1,0):=by
 unfold iM
 rw[h,h2,Option.getD_none]
 by_cases hG:V.2.2≠0
 ·rw[aA hG,aA hG]
 rw[ay hG,ay hG]
 simp only[cO]
 by_cases hn:0<V.1
 ·rw[aA hn,aA hn]
 rw[ay hn,ay hn]
 by_cases hG2:V2.2.2≠0
 ·rw[aA hG2,aA hG2]
 rw[ay hG2,ay hG2]
 by_cases hT:s.length - V.2.1 - V2.2.1<V2.1
 ·rw[aA hT,aA hT]
 rw[ay hT,ay hT,ay (fun h=>h.1 rfl),O8,ay (by omega),List.take_nil,List.nil_append]
theorem ak9(a s:List UInt8)(V V2:Nat×Nat×Nat)(T:List UInt8)(h:dQ s=V)(h2:dQ (s.drop V.2.1)=V2)(hT:T=a.take V.1++(s.drop (V.2.1+V2.2.1)).take V2.1) :
 iM (some a) s=if V.2.2≠0 then([],0,(V.2.2:Int))else if a.length<V.1 then([],0,23)else if V2.2.2≠0 then([],0,(V2.2.2:Int))
 else if s.length - V.2.1 - V2.2.1<V2.1 then([],0,1)else if¬Lib.compareBytes a T<0 then([],0,7)else if V.1<iw a T then([],0,23)else(T,V.2.1+V2.2.1+V2.1,0):=by
 unfold iM
 rw[h,h2,Option.getD_some,← hT]
 have e:(some a≠none∧¬Lib.compareBytes a T<0)↔¬Lib.compareBytes a T<0:=⟨fun h=>h.2,fun h=>⟨by simp,h⟩⟩
 simp only[e]
theorem ak3(b:Nat)(s:ByteArray)(k:Nat)(a:ByteArray)(w:World)(h:fG w b s k)(hs:s.size≤1000000) :
 Calls prog 218 #[.pointer (some ⟨b,0,none⟩),.string a,.bool true] w (qc w b s k none):=by
 have HN:=ah (next_any b s k w h)
 have hks:=h.2.1
 have hld:(s.data.toList.drop k).length=s.size - k:=by rw[aN,fK]
 have hdd:∀m:Nat,((s.data.toList.drop k).drop m)=s.data.toList.drop (k+m):=fun m=>by rw[cZ]
 have hok:=fun h=>nZ (s:=s.data.toList.drop k) h
 rw[hld]at hok
 clear h
 obtain⟨V,hV⟩:∃V,dQ (s.data.toList.drop k)=V:=⟨_,rfl⟩
 obtain⟨V2,hV2⟩:∃V2,dQ (s.data.toList.drop (k+V.2.1))=V2:=⟨_,rfl⟩
 have iq:Hid (∀x,fG x b s (k+V.2.1)→Calls prog 174 #[.pointer (some ⟨b,0,none⟩)] x fun e w'=>e=.returned (.tuple #[.int .u64 (V2.1:Int),.int .i64 (V2.2.2:Int)])∧fG w' b s (k+V.2.1+V2.2.1)∧x.grownBy w' (some b)):=fun x hx=>by
  rw[← hV2];exact next_any b s (k+V.2.1) x hx
 have hok2:=fun h=>nZ (s:=s.data.toList.drop (k+V.2.1)) h
 rw[aN,fK,hV2]at hok2
 rw[hV]at HN hok
 obtain⟨X,Ej⟩:∃X,X=iM none (s.data.toList.drop k):=⟨_,rfl⟩
 have hX:=ak6 (s.data.toList.drop k) V V2 hV (by rw[hdd];exact hV2)
 rw[hld,hdd]at hX
 have gB:Hid (∀(k':Nat) (w':World),fG w' b s k'→(X.2.2=0→k'=k+X.2.1)→w.grownBy w' (some b)→qc w b s k none (.returned (.tuple #[.string (txt X.1),.int .i64 X.2.2])) w'):=fun k' w' h2 h3 h4=>by
  unfold qc;rw[← Ej];exact⟨k',rfl,h2,h3,h4⟩
 rw[← Ej]at hX
 clear Ej hV hV2
 obtain⟨n,m,G⟩:=V
 obtain⟨n2,m2,G2⟩:=V2
 simp only at hX HN iq hok hok2
 by_cases hG:G=0
 ·subst hG
  rw[ay (by simp)]at hX;obtain⟨v1,v2,v3,v4,_⟩:=hok rfl;by_cases hn:0<n
  ·rw[aA hn]at hX
   have HE:Hid (∀k' w',fG w' b s k'→w.grownBy w' (some b)→qc w b s k none (.returned (.tuple #[.string ⟨#[]⟩,.int .i64 23])) w'):=fun k' w' hc hg=>by
    have:=gB.out k' w' hc (fun h=>by rw[hX]at h;exact aJ h (by decide)) hg;rw[hX]at this;exact this
   clear hX gB;have hni:(0:Int)<(n:Int):=(by omega);go_enter func218,ntmps218;go_wp2_with fail;refine HN.out.mono ?_;rintro e w1 ⟨rfl,hc1,hg1⟩;have gK:=ah hc1;have iU:=ah hg1;clear hc1 hg1 HN;go_wp2_with fail;go_ret2;exact HE.out _ _ gK.out iU.out
  rw[ay hn]at hX;have hni:¬(0:Int)<(n:Int):=by omega
  by_cases hG2:G2=0
  ·subst hG2
   rw[ay (by simp)]at hX;obtain⟨u1,u2,u3,u4,_⟩:=hok2 rfl;by_cases hT:s.size - k - m - m2<n2
   ·rw[aA hT]at hX
    have HE:Hid (∀k' w',fG w' b s k'→w.grownBy w' (some b)→qc w b s k none (.returned (.tuple #[.string ⟨#[]⟩,.int .i64 1])) w'):=fun k' w' hc hg=>by
     have:=gB.out k' w' hc (fun h=>by rw[hX]at h;exact aJ h (by decide)) hg;rw[hX]at this;exact this
    clear hX gB;have IU:Hid (∀x,fG x b s (k+m+m2)→Calls prog 214 #[.pointer (some ⟨b,0,none⟩),.int .u64 (n2:Int)] x (aj x (.tuple #[.string ByteArray.empty,.bool false]))):=fun x hx=>Gm b s _ (n2:Int) x hx (by omega) (by omega);clear hT;go_enter func218,ntmps218;go_wp2_with fail;refine HN.out.mono ?_;rintro e w1 ⟨rfl,hc1,hg1⟩;have gK:=ah hc1;have iU:=ah hg1;clear hc1 hg1 HN;go_wp2_with fail;refine(iq.out w1 gK.out).mono ?_;rintro e w2 ⟨rfl,hc2,hg2⟩;have HC2:=ah hc2;have HG2:=ah (jB iU.out hg2 fun x e _=>e);clear hc2 hg2 iq gK iU;go_wp2_with fail;refine(IU.out w2 HC2.out).mono ?_;rintro e w3 ⟨rfl,hb3⟩;have nS:Hid (fG w3 b s (k+m+m2)):=⟨HC2.out.1.below hb3 HC2.out.1.lt,HC2.out.2⟩;have jo:=ah (jB HG2.out (oH hb3 (some b)) fun x e _=>e);clear hb3
    go_wp2_with fail;go_ret2;exact HE.out _ _ nS.out jo.out
   rw[ay hT]at hX;obtain⟨Y,hY⟩:∃Y,Y=s.extract (k+m+m2) (k+m+m2+n2):=⟨_,rfl⟩;have hYl:Y.data.toList=(s.data.toList.drop (k+(m+m2))).take n2:=by
    rw[hY,ext_list,show k+m+m2+n2 - (k+m+m2)=n2 by omega,show k+m+m2=k+(m+m2)by omega]
   have jZ:Hid (∀x,fG x b s (k+m+m2)→Calls prog 214 #[.pointer (some ⟨b,0,none⟩),.int .u64 (n2:Int)] x fun e w'=>e=.returned (.tuple #[.string Y,.bool true])∧fG w' b s (k+m+m2+n2)∧x.grownBy w' (some b)):=fun x hx=>by
    have:=D6 b s _ (n2:Int) x hx (by omega) (by omega);rw[Int.toNat_natCast,← hY]at this;exact this
   have hYs:Y.size≤1000000:=by
    have:=congrArg List.length hYl;rw[fK,bD,aN,fK]at this;omega
   obtain rfl:n=0:=(by omega);rw[← hYl]at hX;have HE:Hid (∀w',fG w' b s (k+m+m2+n2)→w.grownBy w' (some b)→qc w b s k none (.returned (.tuple #[.string Y,.int .i64 0])) w'):=fun w' hc hg=>by
    have:=gB.out _ w' hc (fun _=>by rw[hX];simp only;omega) hg;rw[hX]at this;exact this
   have HCM:Hid (∀x,Calls prog 185 #[.string ⟨#[]⟩,.string Y] x (aj x (.int .i64 0))):=fun x=>by
    have:=RU ⟨#[]⟩ Y x (by decide);rw[show(ByteArray.mk #[]).data.toList=[]from rfl,O8]at this;exact this
   have e9:ByteArray.empty++Y=Y:=ByteArray.ext (by simp);have hadd:∀x:World,(Op.stringOp .add ByteArray.empty Y).run prog x=.ok (.string Y) x:=fun x=>by
    have:=run_string_add_sum (P:=prog) x ByteArray.empty Y (by have:ByteArray.empty.size=0:=rfl;omega);rw[this,e9]
   clear hX gB hY hYl hYs hT;go_enter func218,ntmps218;go_wp2_with fail;refine HN.out.mono ?_;rintro e w1 ⟨rfl,hc1,hg1⟩;have gK:=ah hc1;have iU:=ah hg1;clear hc1 hg1 HN;go_wp2_with fail;refine(iq.out w1 gK.out).mono ?_;rintro e w2 ⟨rfl,hc2,hg2⟩;have HC2:=ah hc2;have HG2:=ah (jB iU.out hg2 fun x e _=>e);clear hc2 hg2 iq gK iU;go_wp2_with fail;refine(jZ.out w2 HC2.out).mono ?_;rintro e w3 ⟨rfl,hc3,hg3⟩;have nS:=ah hc3;have jo:=ah (jB HG2.out hg3 fun x e _=>e);clear hc3 hg3 jZ HC2 HG2;go_wp2_with fail;refine(HCM.out w3).mono ?_;rintro e w4 ⟨rfl,hb4⟩;have pX:Hid (fG w4 b s (k+m+m2+n2)):=⟨nS.out.1.below hb4 nS.out.1.lt,nS.out.2⟩;have rJ:=ah (jB jo.out (oH hb4 (some b)) fun x e _=>e);clear hb4 HCM nS jo;go_wp2_with fail;go_ret2;exact HE.out _ pX.out rJ.out
  have hGi:(((G2:Nat):Int) != 0)=true:=by rw[aZ];omega
  rw[aA (by omega)]at hX;have HE:Hid (∀k' w',fG w' b s k'→w.grownBy w' (some b)→qc w b s k none (.returned (.tuple #[.string ⟨#[]⟩,.int .i64 (G2:Int)])) w'):=fun k' w' hc hg=>by
   have:=gB.out k' w' hc (fun h=>by rw[hX]at h;exact aJ h (by simp only;omega)) hg;rw[hX]at this;exact this
  clear hX gB;clear hG2 hok2;go_enter func218,ntmps218;go_wp2_with fail;refine HN.out.mono ?_;rintro e w1 ⟨rfl,hc1,hg1⟩;have gK:=ah hc1;have iU:=ah hg1;clear hc1 hg1 HN;go_wp2_with fail;refine(iq.out w1 gK.out).mono ?_;rintro e w2 ⟨rfl,hc2,hg2⟩;have HC2:=ah hc2;have HG2:=ah (jB iU.out hg2 fun x e _=>e);clear hc2 hg2 iq gK iU;go_wp2_with fail;go_ret2;exact HE.out _ _ HC2.out HG2.out
 ·have hGi:(((G:Nat):Int) != 0)=true:=by rw[aZ];omega
  rw[aA (by omega)]at hX;have HE:Hid (∀k' w',fG w' b s k'→w.grownBy w' (some b)→qc w b s k none (.returned (.tuple #[.string ⟨#[]⟩,.int .i64 (G:Int)])) w'):=fun k' w' hc hg=>by
   have:=gB.out k' w' hc (fun h=>by rw[hX]at h;exact aJ h (by simp only;omega)) hg;rw[hX]at this;exact this
  clear hX gB;clear hG hok;go_enter func218,ntmps218;go_wp2_with fail;refine HN.out.mono ?_;rintro e w1 ⟨rfl,hc1,hg1⟩;have gK:=ah hc1;have iU:=ah hg1;clear hc1 hg1 HN;go_wp2_with fail;go_ret2;exact HE.out _ _ gK.out iU.out
theorem ak4(b:Nat)(s:ByteArray)(k:Nat)(a:ByteArray)(w:World)(h:fG w b s k)(ha:a.size≤1000000)(hs:s.size≤1000000) :
 Calls prog 218 #[.pointer (some ⟨b,0,none⟩),.string a,.bool false] w (qc w b s k (some a.data.toList)):=by
 have HN:=ah (next_any b s k w h)
 have hks:=h.2.1
 have hld:(s.data.toList.drop k).length=s.size - k:=by rw[aN,fK]
 have hdd:∀m:Nat,((s.data.toList.drop k).drop m)=s.data.toList.drop (k+m):=fun m=>by rw[cZ]
 have hok:=fun h=>nZ (s:=s.data.toList.drop k) h
 rw[hld]at hok
 clear h
 obtain⟨V,hV⟩:∃V,dQ (s.data.toList.drop k)=V:=⟨_,rfl⟩
 obtain⟨V2,hV2⟩:∃V2,dQ (s.data.toList.drop (k+V.2.1))=V2:=⟨_,rfl⟩
 have iq:Hid (∀x,fG x b s (k+V.2.1)→Calls prog 174 #[.pointer (some ⟨b,0,none⟩)] x fun e w'=>e=.returned (.tuple #[.int .u64 (V2.1:Int),.int .i64 (V2.2.2:Int)])∧fG w' b s (k+V.2.1+V2.2.1)∧x.grownBy w' (some b)):=fun x hx=>by
  rw[← hV2];exact next_any b s (k+V.2.1) x hx
 have hok2:=fun h=>nZ (s:=s.data.toList.drop (k+V.2.1)) h
 rw[aN,fK,hV2]at hok2
 rw[hV]at HN hok
 obtain⟨X,Ej⟩:∃X,X=iM (some a.data.toList) (s.data.toList.drop k):=⟨_,rfl⟩
 obtain⟨T,hT0⟩:∃T,T=a.data.toList.take V.1++((s.data.toList.drop k).drop (V.2.1+V2.2.1)).take V2.1:=⟨_,rfl⟩
 have hX:=ak9 a.data.toList (s.data.toList.drop k) V V2 T hV (by rw[hdd];exact hV2) hT0
 rw[hld,fK]at hX
 rw[hdd]at hT0
 have gB:Hid (∀(k':Nat) (w':World),fG w' b s k'→(X.2.2=0→k'=k+X.2.1)→w.grownBy w' (some b)→qc w b s k (some a.data.toList) (.returned (.tuple #[.string (txt X.1),.int .i64 X.2.2])) w'):=fun k' w' h2 h3 h4=>by
  unfold qc;rw[← Ej];exact⟨k',rfl,h2,h3,h4⟩
 rw[← Ej]at hX
 clear Ej hV hV2
 obtain⟨n,m,G⟩:=V
 obtain⟨n2,m2,G2⟩:=V2
 simp only at hX HN iq hok hok2 hT0
 by_cases hG:G=0
 ·subst hG
  rw[ay (by simp)]at hX;obtain⟨v1,v2,v3,v4,_⟩:=hok rfl;have wA:IntKind.u64.wrap (a.size:Int)=(a.size:Int):=by rw[IntKind.wrap_u64];omega
  by_cases hn:a.size<n
  ·rw[aA hn]at hX
   have HE:Hid (∀k' w',fG w' b s k'→w.grownBy w' (some b)→qc w b s k (some a.data.toList) (.returned (.tuple #[.string ⟨#[]⟩,.int .i64 23])) w'):=fun k' w' hc hg=>by
    have:=gB.out k' w' hc (fun h=>by rw[hX]at h;exact aJ h (by decide)) hg;rw[hX]at this;exact this
   clear hX gB;have hni:(a.size:Int)<(n:Int):=(by omega);clear hn;go_enter func218,ntmps218;go_wp2_with fail;refine HN.out.mono ?_;rintro e w1 ⟨rfl,hc1,hg1⟩;have gK:=ah hc1;have iU:=ah hg1;clear hc1 hg1 HN;go_wp2_with fail;go_ret2;exact HE.out _ _ gK.out iU.out
  rw[ay hn]at hX;have hni:¬(a.size:Int)<(n:Int):=by omega
  have hn0:(0:Int)≤(n:Int):=by omega
  have hn1:(n:Int)≤(a.size:Int):=by omega
  by_cases hG2:G2=0
  ·subst hG2
   rw[ay (by simp)]at hX;obtain⟨u1,u2,u3,u4,_⟩:=hok2 rfl;by_cases hT:s.size - k - m - m2<n2
   ·rw[aA hT]at hX
    have HE:Hid (∀k' w',fG w' b s k'→w.grownBy w' (some b)→qc w b s k (some a.data.toList) (.returned (.tuple #[.string ⟨#[]⟩,.int .i64 1])) w'):=fun k' w' hc hg=>by
     have:=gB.out k' w' hc (fun h=>by rw[hX]at h;exact aJ h (by decide)) hg;rw[hX]at this;exact this
    clear hX gB;have IU:Hid (∀x,fG x b s (k+m+m2)→Calls prog 214 #[.pointer (some ⟨b,0,none⟩),.int .u64 (n2:Int)] x (aj x (.tuple #[.string ByteArray.empty,.bool false]))):=fun x hx=>Gm b s _ (n2:Int) x hx (by omega) (by omega);clear hT;go_enter func218,ntmps218;go_wp2_with fail;refine HN.out.mono ?_;rintro e w1 ⟨rfl,hc1,hg1⟩;have gK:=ah hc1;have iU:=ah hg1;clear hc1 hg1 HN;go_wp2_with fail;refine(iq.out w1 gK.out).mono ?_;rintro e w2 ⟨rfl,hc2,hg2⟩;have HC2:=ah hc2;have HG2:=ah (jB iU.out hg2 fun x e _=>e);clear hc2 hg2 iq gK iU;go_wp2_with fail;refine(IU.out w2 HC2.out).mono ?_;rintro e w3 ⟨rfl,hb3⟩;have nS:Hid (fG w3 b s (k+m+m2)):=⟨HC2.out.1.below hb3 HC2.out.1.lt,HC2.out.2⟩;have jo:=ah (jB HG2.out (oH hb3 (some b)) fun x e _=>e);clear hb3
    go_wp2_with fail;go_ret2;exact HE.out _ _ nS.out jo.out
   rw[ay hT]at hX;obtain⟨Y,hY⟩:∃Y,Y=s.extract (k+m+m2) (k+m+m2+n2):=⟨_,rfl⟩;have hYl:Y.data.toList=(s.data.toList.drop (k+(m+m2))).take n2:=by
    rw[hY,ext_list,show k+m+m2+n2 - (k+m+m2)=n2 by omega,show k+m+m2=k+(m+m2)by omega]
   have jZ:Hid (∀x,fG x b s (k+m+m2)→Calls prog 214 #[.pointer (some ⟨b,0,none⟩),.int .u64 (n2:Int)] x fun e w'=>e=.returned (.tuple #[.string Y,.bool true])∧fG w' b s (k+m+m2+n2)∧x.grownBy w' (some b)):=fun x hx=>by
    have:=D6 b s _ (n2:Int) x hx (by omega) (by omega);rw[Int.toNat_natCast,← hY]at this;exact this
   have hYs:Y.size≤1000000:=by
    have:=congrArg List.length hYl;rw[fK,bD,aN,fK]at this;omega
   have LV:Hid (a.extract 0 n++Y=txt T):=by
    refine vX ?_;rw[wL,ext_list,hYl,hT0,dD,Nat.sub_zero]
   have hes:(a.extract 0 n).size≤1000000:=(by rw[ByteArray.size_extract];omega);have hTs:(txt T).size≤2000000:=(by rw[← LV.out,ByteArray.size_append];omega);have hadd:∀x:World,(Op.stringOp .add (a.extract 0 n) Y).run prog x=.ok (.string (txt T)) x:=fun x=>by
    rw[← LV.out];exact run_string_add_sum x _ _ (by omega)
   have HCM:Hid (∀x,Calls prog 185 #[.string a,.string (txt T)] x (aj x (.int .i64 (iw a.data.toList T:Int)))):=fun x=>by
    have:=RU a (txt T) x (by omega)
    rwa [iD]at this
   have wn2:IntKind.i64.wrap (n:Int)=(n:Int):=(by rw[IntKind.wrap_i64];omega);have Ur:(Op.bytesLess (txt T).toList a.toList||(txt T).toList==a.toList) = !decide (Lib.compareBytes a.data.toList T<0):=by
    rw[abZ,ByteArray.toList_eq,ByteArray.toList_eq,iD]
   clear hY hYl hT hes hTs hYs hT0;by_cases h5:Lib.compareBytes a.data.toList T<0
   ·rw[ay (by simpa using h5)]at hX
    rw[bH h5]at Ur;clear h5;by_cases h6:n<iw a.data.toList T
    ·rw[aA h6]at hX
     have HE:Hid (∀k' w',fG w' b s k'→w.grownBy w' (some b)→qc w b s k (some a.data.toList) (.returned (.tuple #[.string ⟨#[]⟩,.int .i64 23])) w'):=fun k' w' hc hg=>by
      have:=gB.out k' w' hc (fun h=>by rw[hX]at h;exact aJ h (by decide)) hg;rw[hX]at this;exact this
     clear hX gB;have h6i:(n:Int)<(iw a.data.toList T:Int):=(by omega);generalize iw a.data.toList T=q at *;clear h6 LV;go_enter func218,ntmps218;go_wp2_with fail;refine HN.out.mono ?_;rintro e w1 ⟨rfl,hc1,hg1⟩;have gK:=ah hc1;have iU:=ah hg1;clear hc1 hg1 HN;go_wp2_with fail;refine(iq.out w1 gK.out).mono ?_;rintro e w2 ⟨rfl,hc2,hg2⟩;have HC2:=ah hc2;have HG2:=ah (jB iU.out hg2 fun x e _=>e);clear hc2 hg2 iq gK iU;go_wp2_with fail;refine(jZ.out w2 HC2.out).mono ?_;rintro e w3 ⟨rfl,hc3,hg3⟩;have nS:=ah hc3;have jo:=ah (jB HG2.out hg3 fun x e _=>e);clear hc3 hg3 jZ HC2 HG2;go_wp2_with fail;refine(HCM.out w3).mono ?_;rintro e w4 ⟨rfl,hb4⟩;have pX:Hid (fG w4 b s (k+m+m2+n2)):=⟨nS.out.1.below hb4 nS.out.1.lt,nS.out.2⟩
     have rJ:=ah (jB jo.out (oH hb4 (some b)) fun x e _=>e);clear hb4 HCM nS jo;go_wp2_with fail;go_ret2;exact HE.out _ _ pX.out rJ.out
    rw[ay h6]at hX;have HE:Hid (∀w',fG w' b s (k+m+m2+n2)→w.grownBy w' (some b)→qc w b s k (some a.data.toList) (.returned (.tuple #[.string (txt T),.int .i64 0])) w'):=fun w' hc hg=>by
     have:=gB.out _ w' hc (fun _=>by rw[hX];simp only;omega) hg;rw[hX]at this;exact this
    clear hX gB;have h6i:¬(n:Int)<(iw a.data.toList T:Int):=(by omega);generalize iw a.data.toList T=q at *;clear h6 LV;go_enter func218,ntmps218;go_wp2_with fail;refine HN.out.mono ?_;rintro e w1 ⟨rfl,hc1,hg1⟩;have gK:=ah hc1;have iU:=ah hg1;clear hc1 hg1 HN;go_wp2_with fail;refine(iq.out w1 gK.out).mono ?_;rintro e w2 ⟨rfl,hc2,hg2⟩;have HC2:=ah hc2;have HG2:=ah (jB iU.out hg2 fun x e _=>e);clear hc2 hg2 iq gK iU;go_wp2_with fail;refine(jZ.out w2 HC2.out).mono ?_;rintro e w3 ⟨rfl,hc3,hg3⟩;have nS:=ah hc3;have jo:=ah (jB HG2.out hg3 fun x e _=>e);clear hc3 hg3 jZ HC2 HG2;go_wp2_with fail;refine(HCM.out w3).mono ?_;rintro e w4 ⟨rfl,hb4⟩;have pX:Hid (fG w4 b s (k+m+m2+n2)):=⟨nS.out.1.below hb4 nS.out.1.lt,nS.out.2⟩
    have rJ:=ah (jB jo.out (oH hb4 (some b)) fun x e _=>e);clear hb4 HCM nS jo;go_wp2_with fail;go_ret2;exact HE.out _ pX.out rJ.out
   rw[aA h5]at hX;rw[aO h5]at Ur;clear h5;have HE:Hid (∀k' w',fG w' b s k'→w.grownBy w' (some b)→qc w b s k (some a.data.toList) (.returned (.tuple #[.string ⟨#[]⟩,.int .i64 7])) w'):=fun k' w' hc hg=>by
    have:=gB.out k' w' hc (fun h=>by rw[hX]at h;exact aJ h (by decide)) hg;rw[hX]at this;exact this
   clear hX gB;go_enter func218,ntmps218;go_wp2_with fail;refine HN.out.mono ?_;rintro e w1 ⟨rfl,hc1,hg1⟩;have gK:=ah hc1;have iU:=ah hg1;clear hc1 hg1 HN;go_wp2_with fail;refine(iq.out w1 gK.out).mono ?_;rintro e w2 ⟨rfl,hc2,hg2⟩;have HC2:=ah hc2;have HG2:=ah (jB iU.out hg2 fun x e _=>e);clear hc2 hg2 iq gK iU;go_wp2_with fail;refine(jZ.out w2 HC2.out).mono ?_;rintro e w3 ⟨rfl,hc3,hg3⟩;have nS:=ah hc3;have jo:=ah (jB HG2.out hg3 fun x e _=>e);clear hc3 hg3 jZ HC2 HG2;go_wp2_with fail;go_ret2;exact HE.out _ _ nS.out jo.out
  have hGi:(((G2:Nat):Int) != 0)=true:=by rw[aZ];omega
  rw[aA (by omega)]at hX;have HE:Hid (∀k' w',fG w' b s k'→w.grownBy w' (some b)→qc w b s k (some a.data.toList) (.returned (.tuple #[.string ⟨#[]⟩,.int .i64 (G2:Int)])) w'):=fun k' w' hc hg=>by
   have:=gB.out k' w' hc (fun h=>by rw[hX]at h;exact aJ h (by simp only;omega)) hg;rw[hX]at this;exact this
  clear hX gB;clear hG2 hok2;go_enter func218,ntmps218;go_wp2_with fail;refine HN.out.mono ?_;rintro e w1 ⟨rfl,hc1,hg1⟩;have gK:=ah hc1;have iU:=ah hg1;clear hc1 hg1 HN;go_wp2_with fail;refine(iq.out w1 gK.out).mono ?_;rintro e w2 ⟨rfl,hc2,hg2⟩;have HC2:=ah hc2;have HG2:=ah (jB iU.out hg2 fun x e _=>e);clear hc2 hg2 iq gK iU;go_wp2_with fail;go_ret2;exact HE.out _ _ HC2.out HG2.out
 ·have hGi:(((G:Nat):Int) != 0)=true:=by rw[aZ];omega
  rw[aA (by omega)]at hX;have HE:Hid (∀k' w',fG w' b s k'→w.grownBy w' (some b)→qc w b s k (some a.data.toList) (.returned (.tuple #[.string ⟨#[]⟩,.int .i64 (G:Int)])) w'):=fun k' w' hc hg=>by
   have:=gB.out k' w' hc (fun h=>by rw[hX]at h;exact aJ h (by simp only;omega)) hg;rw[hX]at this;exact this
  clear hX gB;clear hG hok;go_enter func218,ntmps218;go_wp2_with fail;refine HN.out.mono ?_;rintro e w1 ⟨rfl,hc1,hg1⟩;have gK:=ah hc1;have iU:=ah hg1;clear hc1 hg1 HN;go_wp2_with fail;go_ret2;exact HE.out _ _ gK.out iU.out
