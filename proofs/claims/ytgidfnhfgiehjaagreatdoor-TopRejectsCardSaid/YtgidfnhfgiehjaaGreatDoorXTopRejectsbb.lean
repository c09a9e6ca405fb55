/-
  Texts of the proof, joined: OpenRaw Same1 Few13 Raw FldLaw3 WireLaw3 PlainMsg5 PlainRej. Conditions: as each names.
-/
import Derived.Test.YtgidfnhfgiehjaaGreatDoorXTopRejectsba
import Derived.Test.YtgidfnhfgiehjaaGreatDoorXTopRejectsae
import Derived.Test.YtgidfnhfgiehjaaGreatDoorXTopRejectsat
import Derived.Test.YtgidfnhfgiehjaaGreatDoorXTopRejectsam
import Derived.Deep.RegionHeld3
import Derived.Deep.MidRow
import Derived.Test.YtgidfnhfgiehjaaGreatDoorXTopRejectsaj
import Derived.Test.YtgidfnhfgiehjaaGreatDoorXTopRejectsag
import Derived.Test.YtgidfnhfgiehjaaGreatDoorXTopRejectsad
import Derived.Test.YtgidfnhfgiehjaaGreatDoorXTopRejectsaf
import Derived.Test.YtgidfnhfgiehjaaGreatDoorXTopRejectsal
import Derived.Test.YtgidfnhfgiehjaaGreatDoorXTopRejectsav

section
namespace Go.Proofs.YtgidfnhfgiehjaaGreatDoor
open Go.RowKit Go.ChangeShapes Go.WideShapes Go.Deep Go.PM
set_option maxRecDepth 100000
set_option maxHeartbeats 4000000
def RawV (w:World) (m:Mp) (dv tv:Value):Prop:=(∃ A c,dv=.slice A m.d.length c∧m.d.length≤c∧c≤maxLen∧RdI w (fun _ => True) A m.d)∧∃ (l:List Rv) (A:Option Addr) (c:Nat),tv=.slice A l.length c∧m.t=l.map Rv.rw∧Rd w A (rvs l)∧(∀ r ∈ l,RvIn w r)∧l.length≤c∧c≤maxLen
structure RawSz (m:Mp):Prop where
 kind:InI64 m.kind
 good:∀ i,i < 22→(m.val i).good
 nm:m.nm.length≤9223372036854775807
 rg:m.rg.length≤9223372036854775807
 nt:m.nt.length≤9223372036854775807
 d:ESz m.d
 t:∀ r ∈ m.t,ESz r.1
 rest:m.rest=.nil
theorem open_raw {H:Type} {enc:TypeId × Value→H} {w W:World} {r:Reach} {b0:Nat} {spare:Nat→Bool} {held:Bool} {v:Value} {d:DataW H} {ps:List MemPlace} (hv:Value.okWide Tryz.prog W r b0 31 v)
 (h:DataW.Trod enc Tryz.prog w 0 spare held 31 v d ps) (hw:∀ n ∈ DataW.weights Tryz.prog 31 d,n≤140737488351232) :
 ∃ (m:Mp) (dv tv:Value) (oA:Option Addr) (oc:Nat) (l:List One),v=.agg (mvs m dv tv (.slice oA l.length oc))∧RawV w m dv tv∧RawSz m∧OnesRd w.heap.size w oA l∧(∀ x ∈ l,x.ok)∧l.length≤oc∧oc≤maxLen:=by
 have hcR:Tryz.prog.cellsOf 31=24:=by kernel_rfl
 have hcB:Tryz.prog.cellsOf 28=23:=by kernel_rfl
 have hcO:Tryz.prog.cellsOf 29=1:=by kernel_rfl
 obtain ⟨cs,rfl,hsz⟩:=okWide_struct Tryz.underlying31 hv
 rw [hcR] at hsz
 obtain ⟨fuel,hf⟩:=h
 obtain ⟨xs,k,_,hx,hlen,hxl,hfs⟩:=DataW.trod_struct Tryz.underlying31 hf
 simp only [Prod.mk.injEq] at hx
 obtain ⟨hd,_⟩:=hx
 have hf0:DataW.trod enc Tryz.prog w 0 spare held k 28 (((Value.agg cs).cells.toList.drop 0).take (Tryz.prog.cellsOf 28))=xs[0]?:=hfs 0 _ rfl
 have hf1:DataW.trod enc Tryz.prog w 0 spare held k 29 (((Value.agg cs).cells.toList.drop 23).take (Tryz.prog.cellsOf 29))=xs[1]?:=hfs 1 _ rfl
 rw [hcB] at hf0
 rw [hcO] at hf1
 obtain ⟨l,rfl⟩:∃ l:List Value,cs=l.toArray:=⟨cs.toList,by simp⟩
 have hl24:l.length=24:=by simpa using hsz
 obtain ⟨v0,l,rfl⟩:=List.exists_cons_of_length_eq_add_one hl24
 obtain ⟨v1,l,rfl⟩:=List.exists_cons_of_length_eq_add_one (by simpa using hl24:l.length=23)
 obtain ⟨v2,l,rfl⟩:=List.exists_cons_of_length_eq_add_one (by simpa using hl24:l.length=22)
 obtain ⟨v3,l,rfl⟩:=List.exists_cons_of_length_eq_add_one (by simpa using hl24:l.length=21)
 obtain ⟨v4,l,rfl⟩:=List.exists_cons_of_length_eq_add_one (by simpa using hl24:l.length=20)
 obtain ⟨v5,l,rfl⟩:=List.exists_cons_of_length_eq_add_one (by simpa using hl24:l.length=19)
 obtain ⟨v6,l,rfl⟩:=List.exists_cons_of_length_eq_add_one (by simpa using hl24:l.length=18)
 obtain ⟨v7,l,rfl⟩:=List.exists_cons_of_length_eq_add_one (by simpa using hl24:l.length=17)
 obtain ⟨v8,l,rfl⟩:=List.exists_cons_of_length_eq_add_one (by simpa using hl24:l.length=16)
 obtain ⟨v9,l,rfl⟩:=List.exists_cons_of_length_eq_add_one (by simpa using hl24:l.length=15)
 obtain ⟨v10,l,rfl⟩:=List.exists_cons_of_length_eq_add_one (by simpa using hl24:l.length=14)
 obtain ⟨v11,l,rfl⟩:=List.exists_cons_of_length_eq_add_one (by simpa using hl24:l.length=13)
 obtain ⟨v12,l,rfl⟩:=List.exists_cons_of_length_eq_add_one (by simpa using hl24:l.length=12)
 obtain ⟨v13,l,rfl⟩:=List.exists_cons_of_length_eq_add_one (by simpa using hl24:l.length=11)
 obtain ⟨v14,l,rfl⟩:=List.exists_cons_of_length_eq_add_one (by simpa using hl24:l.length=10)
 obtain ⟨v15,l,rfl⟩:=List.exists_cons_of_length_eq_add_one (by simpa using hl24:l.length=9)
 obtain ⟨v16,l,rfl⟩:=List.exists_cons_of_length_eq_add_one (by simpa using hl24:l.length=8)
 obtain ⟨v17,l,rfl⟩:=List.exists_cons_of_length_eq_add_one (by simpa using hl24:l.length=7)
 obtain ⟨v18,l,rfl⟩:=List.exists_cons_of_length_eq_add_one (by simpa using hl24:l.length=6)
 obtain ⟨v19,l,rfl⟩:=List.exists_cons_of_length_eq_add_one (by simpa using hl24:l.length=5)
 obtain ⟨v20,l,rfl⟩:=List.exists_cons_of_length_eq_add_one (by simpa using hl24:l.length=4)
 obtain ⟨v21,l,rfl⟩:=List.exists_cons_of_length_eq_add_one (by simpa using hl24:l.length=3)
 obtain ⟨v22,l,rfl⟩:=List.exists_cons_of_length_eq_add_one (by simpa using hl24:l.length=2)
 obtain ⟨v23,l,rfl⟩:=List.exists_cons_of_length_eq_add_one (by simpa using hl24:l.length=1)
 obtain rfl:l=[]:=List.eq_nil_of_length_eq_zero (by simpa using hl24)
 match xs,hxl with
 | [x0,x1],_ =>
 obtain ⟨xd,xp⟩:=x0
 obtain ⟨yd,yp⟩:=x1
 have hB:DataW.trod enc Tryz.prog w 0 spare held k 28 [v0,v1,v2,v3,v4,v5,v6,v7,v8,v9,v10,v11,v12,v13,v14,v15,v16,v17,v18,v19,v20,v21,v22]=some (xd,xp):=hf0
 have hO:DataW.trod enc Tryz.prog w 0 spare held k 29 [v23]=some (yd,yp):=hf1
 simp only [List.map_cons,List.map_nil] at hd
 subst hd
 have hwB:∀ n ∈ DataW.weights Tryz.prog 28 xd,n≤140737488351232:=fun n hn => hw n (weights_agg Tryz.underlying31 (i:=0) rfl rfl hn)
 obtain ⟨_,kb,ys,hxd,hat⟩:=struct_at Tryz.underlying28 (by kernel_rfl) (by kernel_rfl) hB
 subst hxd
 obtain ⟨y0,hy0,q0⟩:=hat 0 _ v0 rfl rfl
 obtain ⟨y1,hy1,q1⟩:=hat 1 _ v1 rfl rfl
 obtain ⟨y2,hy2,q2⟩:=hat 2 _ v2 rfl rfl
 obtain ⟨y3,hy3,q3⟩:=hat 3 _ v3 rfl rfl
 obtain ⟨y4,hy4,q4⟩:=hat 4 _ v4 rfl rfl
 obtain ⟨y5,hy5,q5⟩:=hat 5 _ v5 rfl rfl
 obtain ⟨y6,hy6,q6⟩:=hat 6 _ v6 rfl rfl
 obtain ⟨y7,hy7,q7⟩:=hat 7 _ v7 rfl rfl
 obtain ⟨y8,hy8,q8⟩:=hat 8 _ v8 rfl rfl
 obtain ⟨y9,hy9,q9⟩:=hat 9 _ v9 rfl rfl
 obtain ⟨y10,hy10,q10⟩:=hat 10 _ v10 rfl rfl
 obtain ⟨y11,hy11,q11⟩:=hat 11 _ v11 rfl rfl
 obtain ⟨y12,hy12,q12⟩:=hat 12 _ v12 rfl rfl
 obtain ⟨y13,hy13,q13⟩:=hat 13 _ v13 rfl rfl
 obtain ⟨y14,hy14,q14⟩:=hat 14 _ v14 rfl rfl
 obtain ⟨y15,hy15,q15⟩:=hat 15 _ v15 rfl rfl
 obtain ⟨y16,hy16,q16⟩:=hat 16 _ v16 rfl rfl
 obtain ⟨y17,hy17,q17⟩:=hat 17 _ v17 rfl rfl
 obtain ⟨y18,hy18,q18⟩:=hat 18 _ v18 rfl rfl
 obtain ⟨y19,hy19,q19⟩:=hat 19 _ v19 rfl rfl
 obtain ⟨y20,hy20,q20⟩:=hat 20 _ v20 rfl rfl
 obtain ⟨y21,hy21,q21⟩:=hat 21 _ v21 rfl rfl
 obtain ⟨y22,hy22,q22⟩:=hat 22 _ v22 rfl rfl
 obtain ⟨N0,e0,_,z0⟩:=DataW.trod_int Tryz.underlying3 q0
 obtain ⟨N1,e1,_,z1⟩:=DataW.trod_int Tryz.underlying22 q1
 obtain ⟨N2,e2,_,z2⟩:=DataW.trod_int Tryz.underlying22 q2
 obtain ⟨N3,e3,_,z3⟩:=DataW.trod_int Tryz.underlying22 q3
 obtain ⟨N4,e4,_,z4⟩:=DataW.trod_int Tryz.underlying22 q4
 obtain ⟨N5,e5,_,z5⟩:=DataW.trod_int Tryz.underlying22 q5
 obtain ⟨N6,e6,_,z6⟩:=DataW.trod_int Tryz.underlying22 q6
 obtain ⟨N7,e7,_,z7⟩:=DataW.trod_int Tryz.underlying22 q7
 obtain ⟨N8,e8,_,z8⟩:=DataW.trod_int Tryz.underlying22 q8
 obtain ⟨N9,e9,_,z9⟩:=DataW.trod_int Tryz.underlying22 q9
 obtain ⟨N10,e10,_,z10⟩:=DataW.trod_int Tryz.underlying22 q10
 obtain ⟨N11,e11,_,z11⟩:=DataW.trod_int Tryz.underlying22 q11
 obtain ⟨N12,e12,_,z12⟩:=DataW.trod_int Tryz.underlying22 q12
 obtain ⟨N13,e13,_,z13⟩:=DataW.trod_int Tryz.underlying22 q13
 obtain ⟨N14,e14,_,z14⟩:=DataW.trod_int Tryz.underlying22 q14
 obtain ⟨N15,e15,_,z15⟩:=DataW.trod_int Tryz.underlying22 q15
 obtain ⟨N16,e16,_,z16⟩:=DataW.trod_int Tryz.underlying2 q16
 obtain ⟨B17,e17,_⟩:=DataW.trod_bool Tryz.underlying4 q17
 obtain ⟨S18,e18,_,z18⟩:=DataW.trod_string Tryz.underlying9 q18
 obtain ⟨S19,e19,_,z19⟩:=DataW.trod_string Tryz.underlying9 q19
 obtain ⟨S20,e20,_,z20⟩:=DataW.trod_string Tryz.underlying9 q20
 simp only [List.cons.injEq,and_true] at e0 e1 e2 e3 e4 e5 e6 e7 e8 e9 e10 e11 e12 e13 e14 e15 e16 e17 e18 e19 e20
 subst e0 e1 e2 e3 e4 e5 e6 e7 e8 e9 e10 e11 e12 e13 e14 e15 e16 e17 e18 e19 e20
 have b0:=bounds_i64 z0
 have b1:=bounds_u64 z1
 have b2:=bounds_u64 z2
 have b3:=bounds_u64 z3
 have b4:=bounds_u64 z4
 have b5:=bounds_u64 z5
 have b6:=bounds_u64 z6
 have b7:=bounds_u64 z7
 have b8:=bounds_u64 z8
 have b9:=bounds_u64 z9
 have b10:=bounds_u64 z10
 have b11:=bounds_u64 z11
 have b12:=bounds_u64 z12
 have b13:=bounds_u64 z13
 have b14:=bounds_u64 z14
 have b15:=bounds_u64 z15
 have b16:=bounds_i64 z16
 obtain ⟨n1,rfl⟩:=Int.eq_ofNat_of_zero_le b1.1
 obtain ⟨n2,rfl⟩:=Int.eq_ofNat_of_zero_le b2.1
 obtain ⟨n3,rfl⟩:=Int.eq_ofNat_of_zero_le b3.1
 obtain ⟨n4,rfl⟩:=Int.eq_ofNat_of_zero_le b4.1
 obtain ⟨n5,rfl⟩:=Int.eq_ofNat_of_zero_le b5.1
 obtain ⟨n6,rfl⟩:=Int.eq_ofNat_of_zero_le b6.1
 obtain ⟨n7,rfl⟩:=Int.eq_ofNat_of_zero_le b7.1
 obtain ⟨n8,rfl⟩:=Int.eq_ofNat_of_zero_le b8.1
 obtain ⟨n9,rfl⟩:=Int.eq_ofNat_of_zero_le b9.1
 obtain ⟨n10,rfl⟩:=Int.eq_ofNat_of_zero_le b10.1
 obtain ⟨n11,rfl⟩:=Int.eq_ofNat_of_zero_le b11.1
 obtain ⟨n12,rfl⟩:=Int.eq_ofNat_of_zero_le b12.1
 obtain ⟨n13,rfl⟩:=Int.eq_ofNat_of_zero_le b13.1
 obtain ⟨n14,rfl⟩:=Int.eq_ofNat_of_zero_le b14.1
 obtain ⟨n15,rfl⟩:=Int.eq_ofNat_of_zero_le b15.1
 obtain ⟨d21,p21⟩:=y21
 obtain ⟨d22,p22⟩:=y22
 have hents:∀ (k:Nat) (v:Value) (d:DataW H) (ps:List MemPlace),DataW.trod enc Tryz.prog w 0 spare held k 24 [v]=some (d,ps)→(∀ n ∈ DataW.weights Tryz.prog 24 d,n≤140737488351232)→∃ (A:Option Addr) (c:Nat) (l:List Ent),v=.slice A l.length c∧RdI w (fun _ => True) A l∧ESz l∧l.length≤c∧c≤maxLen:=fun k v d ps h hw =>
  open_entsV Tryz.underlying24 Tryz.underlying132 (by kernel_rfl) ⟨rfl,rfl⟩ ⟨by kernel_rfl,by kernel_rfl⟩ Tryz.underlying9 Tryz.underlying9 h hw
 obtain ⟨dA,dc,dl,rfl,hdr,hdz,hdl,hdm⟩:=hents kb v21 d21 p21 q21 fun n hn => hwB n (weights_agg Tryz.underlying28 (i:=21) rfl (by rw [List.getElem?_map,hy21];rfl) hn)
 obtain ⟨tA,tc,tl,rfl,htr,htz,htl,htm⟩:=open_rowsV Tryz.underlying26 Tryz.underlying134 (by kernel_rfl) (by kernel_rfl) Tryz.underlying22 hents q22 fun n hn => hwB n (weights_agg Tryz.underlying28 (i:=22) rfl (by rw [List.getElem?_map,hy22];rfl) hn)
 obtain ⟨oA,olen,oc,rfl⟩:∃ A len c,v23=.slice A len c:=by
  rcases open_slice Tryz.underlying29 hO with ⟨hcs,_⟩ | ⟨x,ln,c',_,_,_,_,hcs,_⟩
  · simp only [List.cons.injEq,and_true] at hcs
    exact ⟨_,_,_,hcs⟩
  · simp only [List.cons.injEq,and_true] at hcs
    exact ⟨_,_,_,hcs⟩
 obtain ⟨ol,rfl,ord,oin,olc,ocm⟩:=open_ones Tryz.underlying29 Tryz.underlying138 (by kernel_rfl) ⟨rfl,rfl,rfl,rfl,rfl⟩ ⟨by kernel_rfl,by kernel_rfl,by kernel_rfl,by kernel_rfl,by kernel_rfl⟩ Tryz.underlying5 Tryz.underlying22 Tryz.underlying136 Tryz.underlying22 Tryz.underlying9 (a:=oA) (len:=olen) (cap:=oc) ⟨k,hO⟩
 refine ⟨⟨N0,n1,n2,n3,n4,n5,n6,n7,n8,n9,n10,n11,n12,n13,n14,n15,N16,B17,S18.data.toList,S19.data.toList,S20.data.toList,dl,tl.map Rv.rw,.nil⟩,.slice dA dl.length dc,.slice tA tl.length tc,oA,oc,ol,?_,⟨⟨dA,dc,rfl,hdl,hdm,hdr⟩,tl,tA,tc,rfl,rfl,htr,htz,htl,htm⟩,?_,ord,oin,olc,ocm⟩
 · simp only [mvs,txt_of]
 · unfold maxLen at z18 z19 z20
   refine ⟨b0,?_,?_,?_,?_,hdz,fun r hr => ?_,rfl⟩
   · refine cases22 ?_ ?_ ?_ ?_ ?_ ?_ ?_ ?_ ?_ ?_ ?_ ?_ ?_ ?_ ?_ ?_ ?_ ?_ ?_ ?_ ?_ ?_ <;> simp only [Mp.val,Mv.good]
     all_goals first | trivial | omega | exact b16 | (intro x hx;obtain ⟨r,hr,rfl⟩:=List.mem_map.1 hx;exact (htz r hr).2.2.2)
   · show S18.data.toList.length≤_;rw [len_list];exact z18
   · show S19.data.toList.length≤_;rw [len_list];exact z19
   · show S20.data.toList.length≤_;rw [len_list];exact z20
   · obtain ⟨q,hq,rfl⟩:=List.mem_map.1 hr
     exact (htz q hq).2.1
end Go.Proofs.YtgidfnhfgiehjaaGreatDoor
end

section
namespace Go.Proofs.YtgidfnhfgiehjaaGreatDoor
open Go.RowKit Go.PM
set_option maxRecDepth 100000
set_option maxHeartbeats 4000000
attribute [local go_sem ↓] Go.wp_at_zero Go.wp_at_succ
end Go.Proofs.YtgidfnhfgiehjaaGreatDoor
end

section
namespace Go.Proofs.YtgidfnhfgiehjaaGreatDoor
open Go.RowKit Go.PM
set_option maxRecDepth 100000
set_option maxHeartbeats 4000000
attribute [local go_sem ↓] Go.wp_at_zero Go.wp_at_succ
theorem efew_mil {d:List Ent} (h:efew d=true):d.length≤40∧∀ e ∈ d,e.1.length+e.2.length≤600:=by
 unfold efew at h
 rw [Bool.and_eq_true] at h
 exact ⟨of_decide_eq_true h.2,fun e he => of_decide_eq_true (List.all_eq_true.1 h.1 e he)⟩
def RwFew (r:Rv):Prop:=r.d.length≤18∧efew r.d=true
theorem few13_any (A:Option Addr) (c:Nat) (l:List Rv) (I:Nat→Prop) (w:World) (hT:Tabs w) (hA:Rd w A (rvs l)) (hl:∀ r ∈ l,RvOk w I r∧ESz r.d∧r.d.length≤9223372036854775807) (hll:l.length≤9223372036854775807) :
 Calls Tryz.prog 32 #[.slice A l.length c] w fun e w' => (∃ F:Bool,e=.returned (.bool F)∧(F=true→(∀ r ∈ l,RwFew r)∧l.length≤300))∧Below w.heap.size w w':=by
 have HA:=Lib.hid hA
 have HL:=Lib.hid hl
 have HT:=Lib.hid hT
 have H0:Hid (∀ i (h:i < l.length),i < 0→RwFew l[i]):=fun i _ h => absurd h (by omega)
 clear hA hl hT
 go_enter Tryz.func32,Tryz.ntmps32
 go_wp2_with fail
 go_loopg [7] l.length (fun gk ki wr => ∃ k:Nat,k≤l.length∧l.length - k≤gk∧ki=.int .i64 (k:Int)∧Hid (∀ i (h:i < l.length),i < k→RwFew l[i])∧Hid (Below w.heap.size w wr))
 case atStart => exact ⟨0,Nat.zero_le _,by omega,rfl,H0,b0⟩
 case round =>
  obtain ⟨k,hk,hgk,rfl,HF,HBE⟩:=hrel
  by_cases hlt:k < l.length
  · obtain ⟨b,off,rfl,hbl,c0,c1⟩:=(HA.out.below HBE.out).row hlt
    have hlk:=HL.out _ (List.getElem_mem hlt)
    have HNX:Hid (RwFew l[k]→∀ i (h:i < l.length),i < k+1→RwFew l[i]):=fun h i hi hik => by
     rcases Nat.lt_or_ge i k with h2 | h2
     · exact HF.out i hi h2
     · obtain rfl:i=k:=by omega
       exact h
    generalize l[k]=x at *
    obtain ⟨xd,xA,xc,xn⟩:=x
    simp only at c0 c1
    have HFE:=Lib.hid (fun z (hz:Below w.heap.size w z) => efew_any xA xc xd z (hlk.1.2.rd.below hz) hlk.2.1 hlk.2.2)
    have HRD:=Lib.hid hlk.1.2.rd
    clear hlk HF H0
    by_cases h18:18 < xd.length
    · have h18i:(18:Int) < (xd.length:Int):=by omega
      clear HFE HRD HNX
      go_wp2_with fail
      go_ret
      exact ⟨⟨false,rfl,fun h => by cases h⟩,ba HBE.out _⟩
    · have h18i:¬ (18:Int) < (xd.length:Int):=by omega
      have HK:Hid (efew xd=true→∀ z,Below w.heap.size w z→Calls Tryz.prog 76 #[.slice xA xd.length xc] z fun e w' => e=.returned (.string (txt (dkey xd)))∧Below z.heap.size z w'):=fun h z hz =>
       key12_any xA xc xd z (HRD.out.below hz) ⟨by have:=(efew_mil h).1;omega,fun e he => by have:=(efew_mil h).2 e he;omega⟩
      have HN2:Hid (efew xd=true→∀ i (h:i < l.length),i < k+1→RwFew l[i]):=fun h => HNX.out ⟨by show xd.length≤18;omega,h⟩
      have hm:=BlkAt.made wr 134 #[.slice xA xd.length xc,.int .u64 (xn:Int)]
      have HM:=Lib.hid hm
      clear HNX HRD hm h18
      generalize efew xd=F at *
      generalize xd.length=xl at *
      go_wp2_with fail
      refine (HFE.out _ (ba HBE.out _)).mono ?_
      rintro e w1 ⟨rfl,hb1⟩
      have HB1:=Lib.hid (bb (ba HBE.out _) hb1)
      have HM1:=Lib.hid (HM.out.below hb1 HM.out.lt)
      clear hb1 HFE HM
      cases F with
      | false =>
        clear HK HN2 HM1
        go_wp2_with fail
        go_ret
        exact ⟨⟨false,rfl,fun h => by cases h⟩,HB1.out⟩
      | true =>
        have HK2:=Lib.hid (HK.out rfl)
        have HN3:=Lib.hid (HN2.out rfl)
        have m0:=HM1.out.cell 0
        clear HK HN2
        by_cases h40:40 < l.length
        · have h40i:(40:Int) < (l.length:Int):=by omega
          clear h40
          go_wp2_with fail
          refine (HK2.out _ HB1.out).mono ?_
          rintro e w2 ⟨rfl,hb2⟩
          have HB2:=Lib.hid (bb HB1.out hb2)
          clear hb2 HK2
          generalize txt (dkey xd)=KY at *
          by_cases h100:100 < KY.size
          · have h100i:(100:Int) < (KY.size:Int):=by omega
            go_wp2_with fail
            go_ret
            exact ⟨⟨false,rfl,fun h => by cases h⟩,HB2.out⟩
          · have h100i:¬ (100:Int) < (KY.size:Int):=by omega
            go_wp2_with fail
            go_roundg (l.length - (k+1))
            case measure => omega
            case rel => exact ⟨k+1,by omega,Nat.le_refl _,by go_num,HN3,HB2⟩
        · have h40i:¬ (40:Int) < (l.length:Int):=by omega
          clear h40
          go_wp2_with fail
          go_roundg (l.length - (k+1))
          case measure => omega
          case rel => exact ⟨k+1,by omega,Nat.le_refl _,by go_num,HN3,HB1⟩
  · obtain rfl:k=l.length:=by omega
    have HE:Hid (l.length≤300→(∀ r ∈ l,RwFew r)∧l.length≤300):=fun h => ⟨fun r hr => by
     obtain ⟨i,hi,rfl⟩:=List.getElem_of_mem hr
     exact HF.out i hi hi,h⟩
    have HBB:=HBE
    clear HF HBE H0
    go_wp2_with fail
    go_ret
    exact ⟨⟨_,rfl,fun h => HE.out (by have:=of_decide_eq_true h;omega)⟩,HBB.out⟩
end Go.Proofs.YtgidfnhfgiehjaaGreatDoor
end

section
namespace Go.Proofs.YtgidfnhfgiehjaaGreatDoor
open Go.RowKit Go.PM
set_option maxRecDepth 100000
set_option maxHeartbeats 4000000
attribute [local go_sem ↓] Go.wp_at_zero Go.wp_at_succ
def bvs (m:Mp) (dv tv:Value):Array Value:=#[.int .i64 m.kind,.int .u64 (m.id:Int),.int .u64 (m.min_:Int),.int .u64 (m.max_:Int),.int .u64 (m.chosen:Int),.int .u64 (m.flags:Int),.int .u64 (m.cost:Int),.int .u64 (m.prio:Int),.int .u64 (m.dead:Int),.int .u64 (m.retry:Int),.int .u64 (m.epoch:Int),.int .u64 (m.base:Int),.int .u64 (m.digest:Int),.int .u64 (m.lag:Int),.int .u64 (m.code:Int),.int .u64 (m.want:Int),.int .i64 m.rem,.bool m.al,.string (txt m.nm),.string (txt m.rg),.string (txt m.nt),dv,tv]
def zbvs:Array Value:=#[.int .i64 0,.int .u64 0,.int .u64 0,.int .u64 0,.int .u64 0,.int .u64 0,.int .u64 0,.int .u64 0,.int .u64 0,.int .u64 0,.int .u64 0,.int .u64 0,.int .u64 0,.int .u64 0,.int .u64 0,.int .u64 0,.int .i64 0,.bool false,.string ⟨#[]⟩,.string ⟨#[]⟩,.string ⟨#[]⟩,.slice none 0 0,.slice none 0 0]
theorem info_body (m:Mp) (dv tv:Value):(Tryz.prog.info? 28).map (·.size)=some (bvs m dv tv).size:=by kernel_rfl
theorem bvs_one {m:Mp} {A B:Option Addr} {n1 n2 c1 c2:Nat}:(bvs m (.slice A n1 c1) (.slice B n2 c2)).all (·.oneCell')=true:=by simp [bvs,Value.oneCell']
theorem bvs_part (m:Mp) (dv tv rv:Value) (j:Nat) (u:Value) (h:(bvs m dv tv).toList[j]? = some u):(mvs m dv tv rv)[j]? = some u:=by
 have e:mvs m dv tv rv=(bvs m dv tv).push rv:=rfl
 rw [Array.getElem?_toList] at h
 obtain ⟨hj,e2⟩:=Array.getElem?_eq_some_iff.1 h
 rw [e,Array.getElem?_push_lt hj,e2]
theorem wpList_load_body {P:Program} {ops:Array Oper} {rest:List Oper} {op:Oper} {a:Act} {w:World} {Q:Exit→Act→World→Prop} (hgd:op.guard=none) (ty:TypeId) (x:Operand) (ho:op.op=.load ty x)
 (b:Nat) (hx:a.eval x=.pointer (some ⟨b,0,none⟩)) {t:TypeId} {m:Mp} {dv tv rv:Value} (hc:BlkAt w b t (mvs m dv tv rv)) {d:TypeDesc}
 (hu:P.underlying ty=some d) (hd:d.isRow=true) (hi:(P.info? ty).map (·.size)=some (bvs m dv tv).size)
 (h:wpList P ops Q rest (a.put op.dst (.agg (bvs m dv tv))) w):wpList P ops Q (op :: rest) a w :=
 wpList_load_mid hgd ty x ho b 0 hx (bvs m dv tv).toList d (fun j u hj => by rw [Nat.zero_add,hc.cell j];exact bvs_part m dv tv rv j u hj) hu hd (by rw [hi];simp) (by simpa using h)
structure RawFew (m:Mp) (ol:List One):Prop where
 nm:m.nm.length≤600
 rg:m.rg.length≤600
 nt:m.nt.length≤600
 d:efew m.d=true
 t:∀ r ∈ m.t,r.1.length≤18∧efew r.1=true
 tl:m.t.length≤300
 o:few ol=true
def FewEnd (w:World) (m:Mp) (ol:List One) (e:Ending) (w':World):Prop:=(∃ F:Bool,e=.returned (.bool F)∧(F=true→RawFew m ol))∧Below w.heap.size w w'
theorem rawfew {m:Mp} {dv tv:Value} {oA:Option Addr} {oc:Nat} {ol:List One} (H:Nat) (w:World) (hT:Tabs w) (hv:RawV w m dv tv) (hz:RawSz m) (hr:OnesRd H w oA ol) (hok:∀ x ∈ ol,x.ok) (hlc:ol.length≤oc) (hcm:oc≤maxLen) :
 Calls Tryz.prog 9 #[.agg (mvs m dv tv (.slice oA ol.length oc))] w (FewEnd w m ol):=by
 obtain ⟨⟨dA,dc,rfl,hdl,hdm,hdr⟩,tl,tA,tc,rfl,htm,htr,hto,htl,htc⟩:=hv
 have htlm:tl.length=m.t.length:=by rw [htm,List.length_map]
 unfold maxLen at hdm htc hcm
 rw [htlm] at htl ⊢
 have HFE:=Lib.hid (fun z (hz9:Below w.heap.size w z) => efew_any dA dc m.d z (hdr.rd.below hz9) hz.d (by omega))
 have HFT:Hid (∀ z,Below w.heap.size w z→Calls Tryz.prog 32 #[.slice tA m.t.length tc] z fun e w' => (∃ F:Bool,e=.returned (.bool F)∧(F=true→(∀ r ∈ m.t,r.1.length≤18∧efew r.1=true)∧m.t.length≤300))∧Below z.heap.size z w'):=fun z hz9 => by
  have h1:=few13_any tA tc tl (fun _ => True) z (hT.below hz9) (htr.below hz9) (fun r hr => ⟨(hto r hr).1.below hz9,(hto r hr).2.1,by have h2:=(hto r hr).1.1;have h3:=(hto r hr).2.2.1;unfold maxLen at h3;omega⟩) (by omega)
  rw [htlm] at h1
  refine h1.mono fun e w' ⟨⟨F,he,hF⟩,hb⟩ => ⟨⟨F,he,fun h => ?_⟩,hb⟩
  obtain ⟨h2,h3⟩:=hF h
  refine ⟨fun r hr => ?_,by omega⟩
  rw [htm] at hr
  obtain ⟨q,hq,rfl⟩:=List.mem_map.1 hr
  exact h2 q hq
 have HFO:=Lib.hid (fun z (hz9:Below w.heap.size w z) => few_any H oA oc ol z (hr.below hz9) hok (by omega))
 have HQ:Hid (∀ e w',(∃ F:Bool,e=.returned (.bool F)∧(F=true→RawFew m ol))∧Below w.heap.size w w'→FewEnd w m ol e w'):=fun e w' h => h
 generalize FewEnd w m ol=Q at *
 clear hT hdr hto htr hok hr hdl hdm htl htc hlc hcm htm htlm hz
 have HM:Hid (BlkAt (w.alloc (.cells (mvs m (.slice dA m.d.length dc) (.slice tA m.t.length tc) (.slice oA ol.length oc)) 31)) w.heap.size 31 (mvs m (.slice dA m.d.length dc) (.slice tA m.t.length tc) (.slice oA ol.length oc))):=BlkAt.made w 31 (mvs m (.slice dA m.d.length dc) (.slice tA m.t.length tc) (.slice oA ol.length oc))
 have HBM:=Lib.hid (ba (a:=w) b0 (.cells (mvs m (.slice dA m.d.length dc) (.slice tA m.t.length tc) (.slice oA ol.length oc)) 31))
 obtain ⟨wz,hwz⟩:∃ wz,wz=w.alloc (.cells (mvs m (.slice dA m.d.length dc) (.slice tA m.t.length tc) (.slice oA ol.length oc)) 31):=⟨_,rfl⟩
 have hsz:wz.heap.size=w.heap.size+1:=by rw [hwz];simp
 rw [← hwz] at HM HBM
 have hm1:=BlkAt.made wz 28 zbvs
 have hm2:=putAll_at (ds:=bvs m (.slice dA m.d.length dc) (.slice tA m.t.length tc)) hm1 rfl
 have hb1:Below wz.heap.size wz (World.putAll (wz.alloc (.cells zbvs 28)) wz.heap.size (bvs m (.slice dA m.d.length dc) (.slice tA m.t.length tc))) :=
  (ba (a:=wz) b0 (.cells zbvs 28)).trans ((putAll_tch _ wz.heap.size _).toBelowB (by simp) fun g hg e => by omega)
 rw [hsz] at hm1
 rw [hsz] at hm2
 obtain ⟨w1,hw1⟩:∃ w1,w1=World.putAll (wz.alloc (.cells zbvs 28)) (w.heap.size+1) (bvs m (.slice dA m.d.length dc) (.slice tA m.t.length tc)):=⟨_,rfl⟩
 rw [hsz,← hw1] at hb1
 rw [← hw1] at hm2
 have HB1:Hid (Below w.heap.size w w1):=HBM.out.trans (hb1.mono (by omega))
 have HZ1:=Lib.hid hm1
 have HX:=Lib.hid hm2
 have HR1:Hid (BlkAt w1 w.heap.size 31 (mvs m (.slice dA m.d.length dc) (.slice tA m.t.length tc) (.slice oA ol.length oc))):=HM.out.below hb1 (by omega)
 clear hm1 hm2 hb1
 simp only [zbvs] at HZ1 hw1
 simp only [mvs] at hwz
 have HMA:=HM
 rw [hwz] at HMA
 show Calls _ _ #[.agg #[.int .i64 m.kind,.int .u64 (m.id:Int),.int .u64 (m.min_:Int),.int .u64 (m.max_:Int),.int .u64 (m.chosen:Int),.int .u64 (m.flags:Int),.int .u64 (m.cost:Int),.int .u64 (m.prio:Int),.int .u64 (m.dead:Int),.int .u64 (m.retry:Int),.int .u64 (m.epoch:Int),.int .u64 (m.base:Int),.int .u64 (m.digest:Int),.int .u64 (m.lag:Int),.int .u64 (m.code:Int),.int .u64 (m.want:Int),.int .i64 m.rem,.bool m.al,.string (txt m.nm),.string (txt m.rg),.string (txt m.nt),.slice dA m.d.length dc,.slice tA m.t.length tc,.slice oA ol.length oc]] _ _
 go_enter Tryz.func9,Tryz.ntmps9
 go_wp2_with (first | (with_reducible show wpList _ _ _ (Oper.mk _ (Op.load 28 _) _ _ _ _ :: _) _ _;refine wpList_load_body rfl _ _ rfl _ rfl HMA.out Tryz.underlying28 rfl (info_body _ _ _) ?_) | (with_reducible show wpList _ _ _ (Oper.mk _ (Op.store 28 _ _) _ _ _ _ :: _) _ _;apply pin))
 rw [← hwz]
 refine wpList_store_blk rfl _ _ _ rfl _ (bvs m (.slice dA m.d.length dc) (.slice tA m.t.length tc)) rfl rfl HZ1.out rfl (info_body _ _ _) bvs_one ?_
 rw [← hw1]
 clear hwz hw1 HZ1 HMA HM HBM hsz
 simp only [Act.put]
 have c18:w1.cell? ⟨w.heap.size+1,18,none⟩=some (.string (txt m.nm)):=HX.out.cell 18
 have c19:w1.cell? ⟨w.heap.size+1,19,none⟩=some (.string (txt m.rg)):=HX.out.cell 19
 have c20:w1.cell? ⟨w.heap.size+1,20,none⟩=some (.string (txt m.nt)):=HX.out.cell 20
 have c21:w1.cell? ⟨w.heap.size+1,21,none⟩=some (.slice dA m.d.length dc):=HX.out.cell 21
 have hlt:w.heap.size+1 < w1.heap.size:=HX.out.lt
 have hlt0:w.heap.size < w1.heap.size:=HR1.out.lt
 have s18:=txt_size m.nm
 have s19:=txt_size m.rg
 have s20:=txt_size m.nt
 by_cases k18:m.nm.length≤600
 · have d18:decide (((txt m.nm).size:Int)≤600)=true:=decide_eq_true (by omega)
   by_cases k19:m.rg.length≤600
   · have d19:decide (((txt m.rg).size:Int)≤600)=true:=decide_eq_true (by omega)
     by_cases k20:m.nt.length≤600
     · have d20:decide (((txt m.nt).size:Int)≤600)=true:=decide_eq_true (by omega)
       have HK:Hid (m.nm.length≤600∧m.rg.length≤600∧m.nt.length≤600):=⟨k18,k19,k20⟩
       clear s18 s19 s20 k18 k19 k20
       go_wp2_with fail
       refine (HFE.out _ HB1.out).mono ?_
       rintro e w2 ⟨rfl,hb2⟩
       have HB2:=Lib.hid (bb HB1.out hb2)
       have hx2:=HX.out.below hb2 hlt
       have HR2:=Lib.hid (HR1.out.below hb2 hlt0)
       have c22:w2.cell? ⟨w.heap.size+1,22,none⟩=some (.slice tA m.t.length tc):=hx2.cell 22
       have hlt2:=hx2.lt
       have hlt3:=HR2.out.lt
       clear c18 c19 c20 c21 hlt hlt0 hb2 HB1 HX HR1 HFE hx2
       cases hD:efew m.d with
       | false =>
         clear hD HFT HFO
         go_wp2_with fail
         exact HQ.out _ _ ⟨⟨false,rfl,fun h => by cases h⟩,HB2.out⟩
       | true =>
         have HD:=Lib.hid hD
         clear hD
         go_wp2_with fail
         refine (HFT.out _ HB2.out).mono ?_
         rintro e w3 ⟨⟨F,rfl,hF⟩,hb3⟩
         have HB3:=Lib.hid (bb HB2.out hb3)
         have hr3:=HR2.out.below hb3 hlt3
         have c23:w3.cell? ⟨w.heap.size,23,none⟩=some (.slice oA ol.length oc):=hr3.cell 23
         have hlt4:=hr3.lt
         have HF:=Lib.hid hF
         clear c22 hlt2 hlt3 hb3 HB2 HR2 HFT hr3 hF
         cases F with
         | false =>
           clear HF HFO
           go_wp2_with fail
           exact HQ.out _ _ ⟨⟨false,rfl,fun h => by cases h⟩,HB3.out⟩
         | true =>
           have HF2:=Lib.hid (HF.out rfl)
           clear HF
           go_wp2_with fail
           refine (HFO.out _ HB3.out).mono ?_
           rintro e w4 ⟨rfl,hb4⟩
           have HB4:=Lib.hid (bb HB3.out hb4)
           clear c23 hlt4 hb4 HB3 HFO
           go_wp2_with fail
           exact HQ.out _ _ ⟨⟨_,rfl,fun h => ⟨HK.out.1,HK.out.2.1,HK.out.2.2,HD.out,HF2.out.1,HF2.out.2,h⟩⟩,HB4.out⟩
     · have d20:decide (((txt m.nt).size:Int)≤600)=false:=decide_eq_false (by omega)
       clear s18 s19 s20 HFE HFT HFO HX HR1
       go_wp2_with fail
       exact HQ.out _ _ ⟨⟨false,rfl,fun h => by cases h⟩,HB1.out⟩
   · have d19:decide (((txt m.rg).size:Int)≤600)=false:=decide_eq_false (by omega)
     clear s18 s19 s20 HFE HFT HFO HX HR1
     go_wp2_with fail
     exact HQ.out _ _ ⟨⟨false,rfl,fun h => by cases h⟩,HB1.out⟩
 · have d18:decide (((txt m.nm).size:Int)≤600)=false:=decide_eq_false (by omega)
   clear s18 s19 s20 HFE HFT HFO HX HR1
   go_wp2_with fail
   exact HQ.out _ _ ⟨⟨false,rfl,fun h => by cases h⟩,HB1.out⟩
def RmkEnd (w:World) (m:Mp) (n:Nat) (e:Ending) (w':World):Prop :=
 ∃ (f:Fs) (dv tv:Value) (A:Option Addr) (c:Nat),e=.returned (.agg (mvs m dv tv (.slice A f.len c)))∧f.count=n∧f.All FOk∧MgV w' (fun _ => True) { m with rest:=f } dv tv (.slice A f.len c)∧Below w.heap.size w w'
theorem rawmake {m:Mp} {dv tv:Value} {oA:Option Addr} {oc:Nat} {ol:List One} (H:Nat) (w:World) (hH:H≤w.heap.size) (hv:RawV w m dv tv) (hr:OnesRd H w oA ol) (hok:∀ x ∈ ol,x.ok) (hlc:ol.length≤oc) (hcm:oc≤maxLen) (hfew:few ol=true) :
 Calls Tryz.prog 10 #[.agg (mvs m dv tv (.slice oA ol.length oc))] w (RmkEnd w m ol.length):=by
 obtain ⟨⟨dA,dc,rfl,hdl,hdm,hdr⟩,tl,tA,tc,rfl,htm,htr,hto,htl,htc⟩:=hv
 have htlm:tl.length=m.t.length:=by rw [htm,List.length_map]
 unfold maxLen at hdm htc hcm
 have HVM:Hid (∀ (x:World) (f:Fs) (A:Option Addr) (c:Nat),Below w.heap.size w x→SlV x (fun _ => True) (.slice A f.len c) f→MgV x (fun _ => True) { m with rest:=f } (.slice dA m.d.length dc) (.slice tA m.t.length tc) (.slice A f.len c)):=fun x f A c hx hs =>
  ⟨⟨dA,dc,rfl,hdl,hdr.below hx⟩,⟨tl,tA,tc,by rw [htlm],htm,htr.below hx,fun r hr => (hto r hr).1.below hx,htl⟩,hs⟩
 rw [htlm]
 obtain ⟨h300,h60⟩:=few_ok hfew
 have HMK:Hid (∀ x,Below w.heap.size w x→Calls Tryz.prog 34 #[.slice oA ol.length oc] x (MakeEnd x ol.length)):=fun x hx =>
  make_any H oA oc ol x (Nat.le_trans hH hx.size) (hr.below hx) (fun y hy => ⟨hok y hy,h300 y hy⟩) h60 hlc hcm
 have HQ:Hid (∀ e w',RmkEnd w m ol.length e w'→RmkEnd w m ol.length e w'):=fun e w' h => h
 clear hdr hto htr hok hr hdl hdm htl htc hlc hcm htm htlm hH hfew h300 h60
 have HM:Hid (BlkAt (w.alloc (.cells (mvs m (.slice dA m.d.length dc) (.slice tA m.t.length tc) (.slice oA ol.length oc)) 31)) w.heap.size 31 (mvs m (.slice dA m.d.length dc) (.slice tA m.t.length tc) (.slice oA ol.length oc))):=BlkAt.made w 31 (mvs m (.slice dA m.d.length dc) (.slice tA m.t.length tc) (.slice oA ol.length oc))
 have HBM:=Lib.hid (ba (a:=w) b0 (.cells (mvs m (.slice dA m.d.length dc) (.slice tA m.t.length tc) (.slice oA ol.length oc)) 31))
 obtain ⟨wz,hwz⟩:∃ wz,wz=w.alloc (.cells (mvs m (.slice dA m.d.length dc) (.slice tA m.t.length tc) (.slice oA ol.length oc)) 31):=⟨_,rfl⟩
 have hsz:wz.heap.size=w.heap.size+1:=by rw [hwz];simp
 rw [← hwz] at HM HBM
 have hy1:=BlkAt.made wz 35 zmvs
 have hb1:=HBM.out.alloc HBM.out.size (.cells zmvs 35)
 have hM1:=HM.out.more (.cells zmvs 35)
 obtain ⟨wy,hwy⟩:∃ wy,wy=wz.alloc (.cells zmvs 35):=⟨_,rfl⟩
 have hsy:wy.heap.size=w.heap.size+1+1:=by rw [hwy];simp [hsz]
 rw [hsz] at hy1
 rw [← hwy] at hy1 hb1 hM1
 have hm1:=BlkAt.made wy 28 zbvs
 have hm2:=putAll_at (ds:=bvs m (.slice dA m.d.length dc) (.slice tA m.t.length tc)) hm1 rfl
 have hb2:Below wy.heap.size wy (World.putAll (wy.alloc (.cells zbvs 28)) wy.heap.size (bvs m (.slice dA m.d.length dc) (.slice tA m.t.length tc))) :=
  (ba (a:=wy) b0 (.cells zbvs 28)).trans ((putAll_tch _ wy.heap.size _).toBelowB (by simp) fun g hg e => by omega)
 rw [hsy] at hm1
 rw [hsy] at hm2
 obtain ⟨w1,hw1⟩:∃ w1,w1=World.putAll (wy.alloc (.cells zbvs 28)) (w.heap.size+1+1) (bvs m (.slice dA m.d.length dc) (.slice tA m.t.length tc)):=⟨_,rfl⟩
 rw [hsy,← hw1] at hb2
 rw [← hw1] at hm2
 have HB1:Hid (Below w.heap.size w w1):=hb1.trans (hb2.mono (by omega))
 have HZ1:=Lib.hid hm1
 have HX:=Lib.hid hm2
 have HR1:Hid (BlkAt w1 w.heap.size 31 (mvs m (.slice dA m.d.length dc) (.slice tA m.t.length tc) (.slice oA ol.length oc))):=hM1.below hb2 (by omega)
 have HY1:Hid (BlkAt w1 (w.heap.size+1) 35 zmvs):=hy1.below hb2 (by omega)
 have HMA:=Lib.hid hM1
 rw [hwy] at HMA
 clear hm1 hm2 hb1 hb2 hy1 hM1
 simp only [zbvs] at HZ1 hw1
 rw [hwy] at HZ1 hw1
 simp only [zmvs] at hwy HZ1 hw1 HMA
 simp only [mvs] at hwz
 rw [hwz] at HMA
 show Calls _ _ #[.agg #[.int .i64 m.kind,.int .u64 (m.id:Int),.int .u64 (m.min_:Int),.int .u64 (m.max_:Int),.int .u64 (m.chosen:Int),.int .u64 (m.flags:Int),.int .u64 (m.cost:Int),.int .u64 (m.prio:Int),.int .u64 (m.dead:Int),.int .u64 (m.retry:Int),.int .u64 (m.epoch:Int),.int .u64 (m.base:Int),.int .u64 (m.digest:Int),.int .u64 (m.lag:Int),.int .u64 (m.code:Int),.int .u64 (m.want:Int),.int .i64 m.rem,.bool m.al,.string (txt m.nm),.string (txt m.rg),.string (txt m.nt),.slice dA m.d.length dc,.slice tA m.t.length tc,.slice oA ol.length oc]] _ _
 go_enter Tryz.func10,Tryz.ntmps10
 go_wp2_with (first | (with_reducible show wpList _ _ _ (Oper.mk _ (Op.load 28 _) _ _ _ _ :: _) _ _;refine wpList_load_body rfl _ _ rfl _ rfl HMA.out Tryz.underlying28 rfl (info_body _ _ _) ?_) | (with_reducible show wpList _ _ _ (Oper.mk _ (Op.store 28 _ _) _ _ _ _ :: _) _ _;apply pin))
 rw [← hwz]
 refine wpList_store_blk rfl _ _ _ rfl _ (bvs m (.slice dA m.d.length dc) (.slice tA m.t.length tc)) rfl rfl HZ1.out rfl (info_body _ _ _) bvs_one ?_
 rw [← hw1]
 clear hwz hw1 HZ1 HMA HM HBM hsz hwy hsy
 simp only [Act.put]
 go_wp2_with fail
 have HY9:=HY1.out
 refine wp_region_held_drew (S:=fun q => (∀ j,q.cell? ⟨w.heap.size+1+1,j,none⟩=(bvs m (.slice dA m.d.length dc) (.slice tA m.t.length tc))[j]?)∧q.cell? ⟨w.heap.size,23,none⟩=some (.slice oA ol.length oc)) (by kernel_rfl) ⟨fun j => HX.out.dr.cell j,HR1.out.dr.cell 23⟩ (fun hHeld => ?_)
 refine wpAnyH_take (i:=0) (v:=?_) rfl (by kernel_rfl) (by kernel_rfl) (by kernel_rfl) (fun _ _ _ h => h) (Or.inl ⟨by rfl,?_⟩) (by assumption) ?_
 rotate_left
 · ((intro q hSq;(try dsimp only at hSq);go_simp);with_reducible rfl)
 try simp only [Act.put]
 refine wpAnyH_take (i:=1) (v:=?_) rfl (by kernel_rfl) (by kernel_rfl) (by kernel_rfl) (fun _ _ _ h => h) (Or.inl ⟨by rfl,?_⟩) (by assumption) ?_
 rotate_left
 · ((intro q hSq;have hc:q.cell? ⟨w.heap.size+1+1,0,none⟩=some (.int .i64 m.kind):=hSq.1 0;clear hSq;go_simp);with_reducible rfl)
 try simp only [Act.put]
 refine wpAnyH_take (i:=2) (v:=?_) rfl (by kernel_rfl) (by kernel_rfl) (by kernel_rfl) (fun _ _ _ h => h) (Or.inl ⟨by rfl,?_⟩) (by assumption) ?_
 rotate_left
 · ((intro q hSq;(try dsimp only at hSq);go_simp);with_reducible rfl)
 try simp only [Act.put]
 refine wpAnyH_take (i:=3) (v:=?_) rfl (by kernel_rfl) (by kernel_rfl) (by kernel_rfl) (fun _ _ _ h => h) (Or.inl ⟨by rfl,?_⟩) (by assumption) ?_
 rotate_left
 · ((intro q hSq;have hc:q.cell? ⟨w.heap.size+1+1,1,none⟩=some (.int .u64 (m.id:Int)):=hSq.1 1;clear hSq;go_simp);with_reducible rfl)
 try simp only [Act.put]
 refine wpAnyH_take (i:=4) (v:=?_) rfl (by kernel_rfl) (by kernel_rfl) (by kernel_rfl) (fun _ _ _ h => h) (Or.inl ⟨by rfl,?_⟩) (by assumption) ?_
 rotate_left
 · ((intro q hSq;(try dsimp only at hSq);go_simp);with_reducible rfl)
 try simp only [Act.put]
 refine wpAnyH_take (i:=5) (v:=?_) rfl (by kernel_rfl) (by kernel_rfl) (by kernel_rfl) (fun _ _ _ h => h) (Or.inl ⟨by rfl,?_⟩) (by assumption) ?_
 rotate_left
 · ((intro q hSq;have hc:q.cell? ⟨w.heap.size+1+1,2,none⟩=some (.int .u64 (m.min_:Int)):=hSq.1 2;clear hSq;go_simp);with_reducible rfl)
 try simp only [Act.put]
 refine wpAnyH_take (i:=6) (v:=?_) rfl (by kernel_rfl) (by kernel_rfl) (by kernel_rfl) (fun _ _ _ h => h) (Or.inl ⟨by rfl,?_⟩) (by assumption) ?_
 rotate_left
 · ((intro q hSq;(try dsimp only at hSq);go_simp);with_reducible rfl)
 try simp only [Act.put]
 refine wpAnyH_take (i:=7) (v:=?_) rfl (by kernel_rfl) (by kernel_rfl) (by kernel_rfl) (fun _ _ _ h => h) (Or.inl ⟨by rfl,?_⟩) (by assumption) ?_
 rotate_left
 · ((intro q hSq;have hc:q.cell? ⟨w.heap.size+1+1,3,none⟩=some (.int .u64 (m.max_:Int)):=hSq.1 3;clear hSq;go_simp);with_reducible rfl)
 try simp only [Act.put]
 refine wpAnyH_take (i:=8) (v:=?_) rfl (by kernel_rfl) (by kernel_rfl) (by kernel_rfl) (fun _ _ _ h => h) (Or.inl ⟨by rfl,?_⟩) (by assumption) ?_
 rotate_left
 · ((intro q hSq;(try dsimp only at hSq);go_simp);with_reducible rfl)
 try simp only [Act.put]
 refine wpAnyH_take (i:=9) (v:=?_) rfl (by kernel_rfl) (by kernel_rfl) (by kernel_rfl) (fun _ _ _ h => h) (Or.inl ⟨by rfl,?_⟩) (by assumption) ?_
 rotate_left
 · ((intro q hSq;have hc:q.cell? ⟨w.heap.size+1+1,4,none⟩=some (.int .u64 (m.chosen:Int)):=hSq.1 4;clear hSq;go_simp);with_reducible rfl)
 try simp only [Act.put]
 refine wpAnyH_take (i:=10) (v:=?_) rfl (by kernel_rfl) (by kernel_rfl) (by kernel_rfl) (fun _ _ _ h => h) (Or.inl ⟨by rfl,?_⟩) (by assumption) ?_
 rotate_left
 · ((intro q hSq;(try dsimp only at hSq);go_simp);with_reducible rfl)
 try simp only [Act.put]
 refine wpAnyH_take (i:=11) (v:=?_) rfl (by kernel_rfl) (by kernel_rfl) (by kernel_rfl) (fun _ _ _ h => h) (Or.inl ⟨by rfl,?_⟩) (by assumption) ?_
 rotate_left
 · ((intro q hSq;have hc:q.cell? ⟨w.heap.size+1+1,5,none⟩=some (.int .u64 (m.flags:Int)):=hSq.1 5;clear hSq;go_simp);with_reducible rfl)
 try simp only [Act.put]
 refine wpAnyH_take (i:=12) (v:=?_) rfl (by kernel_rfl) (by kernel_rfl) (by kernel_rfl) (fun _ _ _ h => h) (Or.inl ⟨by rfl,?_⟩) (by assumption) ?_
 rotate_left
 · ((intro q hSq;(try dsimp only at hSq);go_simp);with_reducible rfl)
 try simp only [Act.put]
 refine wpAnyH_take (i:=13) (v:=?_) rfl (by kernel_rfl) (by kernel_rfl) (by kernel_rfl) (fun _ _ _ h => h) (Or.inl ⟨by rfl,?_⟩) (by assumption) ?_
 rotate_left
 · ((intro q hSq;have hc:q.cell? ⟨w.heap.size+1+1,6,none⟩=some (.int .u64 (m.cost:Int)):=hSq.1 6;clear hSq;go_simp);with_reducible rfl)
 try simp only [Act.put]
 refine wpAnyH_take (i:=14) (v:=?_) rfl (by kernel_rfl) (by kernel_rfl) (by kernel_rfl) (fun _ _ _ h => h) (Or.inl ⟨by rfl,?_⟩) (by assumption) ?_
 rotate_left
 · ((intro q hSq;(try dsimp only at hSq);go_simp);with_reducible rfl)
 try simp only [Act.put]
 refine wpAnyH_take (i:=15) (v:=?_) rfl (by kernel_rfl) (by kernel_rfl) (by kernel_rfl) (fun _ _ _ h => h) (Or.inl ⟨by rfl,?_⟩) (by assumption) ?_
 rotate_left
 · ((intro q hSq;have hc:q.cell? ⟨w.heap.size+1+1,7,none⟩=some (.int .u64 (m.prio:Int)):=hSq.1 7;clear hSq;go_simp);with_reducible rfl)
 try simp only [Act.put]
 refine wpAnyH_take (i:=16) (v:=?_) rfl (by kernel_rfl) (by kernel_rfl) (by kernel_rfl) (fun _ _ _ h => h) (Or.inl ⟨by rfl,?_⟩) (by assumption) ?_
 rotate_left
 · ((intro q hSq;(try dsimp only at hSq);go_simp);with_reducible rfl)
 try simp only [Act.put]
 refine wpAnyH_take (i:=17) (v:=?_) rfl (by kernel_rfl) (by kernel_rfl) (by kernel_rfl) (fun _ _ _ h => h) (Or.inl ⟨by rfl,?_⟩) (by assumption) ?_
 rotate_left
 · ((intro q hSq;have hc:q.cell? ⟨w.heap.size+1+1,8,none⟩=some (.int .u64 (m.dead:Int)):=hSq.1 8;clear hSq;go_simp);with_reducible rfl)
 try simp only [Act.put]
 refine wpAnyH_take (i:=18) (v:=?_) rfl (by kernel_rfl) (by kernel_rfl) (by kernel_rfl) (fun _ _ _ h => h) (Or.inl ⟨by rfl,?_⟩) (by assumption) ?_
 rotate_left
 · ((intro q hSq;(try dsimp only at hSq);go_simp);with_reducible rfl)
 try simp only [Act.put]
 refine wpAnyH_take (i:=19) (v:=?_) rfl (by kernel_rfl) (by kernel_rfl) (by kernel_rfl) (fun _ _ _ h => h) (Or.inl ⟨by rfl,?_⟩) (by assumption) ?_
 rotate_left
 · ((intro q hSq;have hc:q.cell? ⟨w.heap.size+1+1,9,none⟩=some (.int .u64 (m.retry:Int)):=hSq.1 9;clear hSq;go_simp);with_reducible rfl)
 try simp only [Act.put]
 refine wpAnyH_take (i:=20) (v:=?_) rfl (by kernel_rfl) (by kernel_rfl) (by kernel_rfl) (fun _ _ _ h => h) (Or.inl ⟨by rfl,?_⟩) (by assumption) ?_
 rotate_left
 · ((intro q hSq;(try dsimp only at hSq);go_simp);with_reducible rfl)
 try simp only [Act.put]
 refine wpAnyH_take (i:=21) (v:=?_) rfl (by kernel_rfl) (by kernel_rfl) (by kernel_rfl) (fun _ _ _ h => h) (Or.inl ⟨by rfl,?_⟩) (by assumption) ?_
 rotate_left
 · ((intro q hSq;have hc:q.cell? ⟨w.heap.size+1+1,10,none⟩=some (.int .u64 (m.epoch:Int)):=hSq.1 10;clear hSq;go_simp);with_reducible rfl)
 try simp only [Act.put]
 refine wpAnyH_take (i:=22) (v:=?_) rfl (by kernel_rfl) (by kernel_rfl) (by kernel_rfl) (fun _ _ _ h => h) (Or.inl ⟨by rfl,?_⟩) (by assumption) ?_
 rotate_left
 · ((intro q hSq;(try dsimp only at hSq);go_simp);with_reducible rfl)
 try simp only [Act.put]
 refine wpAnyH_take (i:=23) (v:=?_) rfl (by kernel_rfl) (by kernel_rfl) (by kernel_rfl) (fun _ _ _ h => h) (Or.inl ⟨by rfl,?_⟩) (by assumption) ?_
 rotate_left
 · ((intro q hSq;have hc:q.cell? ⟨w.heap.size+1+1,11,none⟩=some (.int .u64 (m.base:Int)):=hSq.1 11;clear hSq;go_simp);with_reducible rfl)
 try simp only [Act.put]
 refine wpAnyH_take (i:=24) (v:=?_) rfl (by kernel_rfl) (by kernel_rfl) (by kernel_rfl) (fun _ _ _ h => h) (Or.inl ⟨by rfl,?_⟩) (by assumption) ?_
 rotate_left
 · ((intro q hSq;(try dsimp only at hSq);go_simp);with_reducible rfl)
 try simp only [Act.put]
 refine wpAnyH_take (i:=25) (v:=?_) rfl (by kernel_rfl) (by kernel_rfl) (by kernel_rfl) (fun _ _ _ h => h) (Or.inl ⟨by rfl,?_⟩) (by assumption) ?_
 rotate_left
 · ((intro q hSq;have hc:q.cell? ⟨w.heap.size+1+1,12,none⟩=some (.int .u64 (m.digest:Int)):=hSq.1 12;clear hSq;go_simp);with_reducible rfl)
 try simp only [Act.put]
 refine wpAnyH_take (i:=26) (v:=?_) rfl (by kernel_rfl) (by kernel_rfl) (by kernel_rfl) (fun _ _ _ h => h) (Or.inl ⟨by rfl,?_⟩) (by assumption) ?_
 rotate_left
 · ((intro q hSq;(try dsimp only at hSq);go_simp);with_reducible rfl)
 try simp only [Act.put]
 refine wpAnyH_take (i:=27) (v:=?_) rfl (by kernel_rfl) (by kernel_rfl) (by kernel_rfl) (fun _ _ _ h => h) (Or.inl ⟨by rfl,?_⟩) (by assumption) ?_
 rotate_left
 · ((intro q hSq;have hc:q.cell? ⟨w.heap.size+1+1,13,none⟩=some (.int .u64 (m.lag:Int)):=hSq.1 13;clear hSq;go_simp);with_reducible rfl)
 try simp only [Act.put]
 refine wpAnyH_take (i:=28) (v:=?_) rfl (by kernel_rfl) (by kernel_rfl) (by kernel_rfl) (fun _ _ _ h => h) (Or.inl ⟨by rfl,?_⟩) (by assumption) ?_
 rotate_left
 · ((intro q hSq;(try dsimp only at hSq);go_simp);with_reducible rfl)
 try simp only [Act.put]
 refine wpAnyH_take (i:=29) (v:=?_) rfl (by kernel_rfl) (by kernel_rfl) (by kernel_rfl) (fun _ _ _ h => h) (Or.inl ⟨by rfl,?_⟩) (by assumption) ?_
 rotate_left
 · ((intro q hSq;have hc:q.cell? ⟨w.heap.size+1+1,14,none⟩=some (.int .u64 (m.code:Int)):=hSq.1 14;clear hSq;go_simp);with_reducible rfl)
 try simp only [Act.put]
 refine wpAnyH_take (i:=30) (v:=?_) rfl (by kernel_rfl) (by kernel_rfl) (by kernel_rfl) (fun _ _ _ h => h) (Or.inl ⟨by rfl,?_⟩) (by assumption) ?_
 rotate_left
 · ((intro q hSq;(try dsimp only at hSq);go_simp);with_reducible rfl)
 try simp only [Act.put]
 refine wpAnyH_take (i:=31) (v:=?_) rfl (by kernel_rfl) (by kernel_rfl) (by kernel_rfl) (fun _ _ _ h => h) (Or.inl ⟨by rfl,?_⟩) (by assumption) ?_
 rotate_left
 · ((intro q hSq;have hc:q.cell? ⟨w.heap.size+1+1,15,none⟩=some (.int .u64 (m.want:Int)):=hSq.1 15;clear hSq;go_simp);with_reducible rfl)
 try simp only [Act.put]
 refine wpAnyH_take (i:=32) (v:=?_) rfl (by kernel_rfl) (by kernel_rfl) (by kernel_rfl) (fun _ _ _ h => h) (Or.inl ⟨by rfl,?_⟩) (by assumption) ?_
 rotate_left
 · ((intro q hSq;(try dsimp only at hSq);go_simp);with_reducible rfl)
 try simp only [Act.put]
 refine wpAnyH_take (i:=33) (v:=?_) rfl (by kernel_rfl) (by kernel_rfl) (by kernel_rfl) (fun _ _ _ h => h) (Or.inl ⟨by rfl,?_⟩) (by assumption) ?_
 rotate_left
 · ((intro q hSq;have hc:q.cell? ⟨w.heap.size+1+1,16,none⟩=some (.int .i64 m.rem):=hSq.1 16;clear hSq;go_simp);with_reducible rfl)
 try simp only [Act.put]
 refine wpAnyH_take (i:=34) (v:=?_) rfl (by kernel_rfl) (by kernel_rfl) (by kernel_rfl) (fun _ _ _ h => h) (Or.inl ⟨by rfl,?_⟩) (by assumption) ?_
 rotate_left
 · ((intro q hSq;(try dsimp only at hSq);go_simp);with_reducible rfl)
 try simp only [Act.put]
 refine wpAnyH_take (i:=35) (v:=?_) rfl (by kernel_rfl) (by kernel_rfl) (by kernel_rfl) (fun _ _ _ h => h) (Or.inl ⟨by rfl,?_⟩) (by assumption) ?_
 rotate_left
 · ((intro q hSq;have hc:q.cell? ⟨w.heap.size+1+1,17,none⟩=some (.bool m.al):=hSq.1 17;clear hSq;go_simp);with_reducible rfl)
 try simp only [Act.put]
 refine wpAnyH_take (i:=36) (v:=?_) rfl (by kernel_rfl) (by kernel_rfl) (by kernel_rfl) (fun _ _ _ h => h) (Or.inl ⟨by rfl,?_⟩) (by assumption) ?_
 rotate_left
 · ((intro q hSq;(try dsimp only at hSq);go_simp);with_reducible rfl)
 try simp only [Act.put]
 refine wpAnyH_take (i:=37) (v:=?_) rfl (by kernel_rfl) (by kernel_rfl) (by kernel_rfl) (fun _ _ _ h => h) (Or.inl ⟨by rfl,?_⟩) (by assumption) ?_
 rotate_left
 · ((intro q hSq;have hc:q.cell? ⟨w.heap.size+1+1,18,none⟩=some (.string (txt m.nm)):=hSq.1 18;clear hSq;go_simp);with_reducible rfl)
 try simp only [Act.put]
 refine wpAnyH_take (i:=38) (v:=?_) rfl (by kernel_rfl) (by kernel_rfl) (by kernel_rfl) (fun _ _ _ h => h) (Or.inl ⟨by rfl,?_⟩) (by assumption) ?_
 rotate_left
 · ((intro q hSq;(try dsimp only at hSq);go_simp);with_reducible rfl)
 try simp only [Act.put]
 refine wpAnyH_take (i:=39) (v:=?_) rfl (by kernel_rfl) (by kernel_rfl) (by kernel_rfl) (fun _ _ _ h => h) (Or.inl ⟨by rfl,?_⟩) (by assumption) ?_
 rotate_left
 · ((intro q hSq;have hc:q.cell? ⟨w.heap.size+1+1,19,none⟩=some (.string (txt m.rg)):=hSq.1 19;clear hSq;go_simp);with_reducible rfl)
 try simp only [Act.put]
 refine wpAnyH_take (i:=40) (v:=?_) rfl (by kernel_rfl) (by kernel_rfl) (by kernel_rfl) (fun _ _ _ h => h) (Or.inl ⟨by rfl,?_⟩) (by assumption) ?_
 rotate_left
 · ((intro q hSq;(try dsimp only at hSq);go_simp);with_reducible rfl)
 try simp only [Act.put]
 refine wpAnyH_take (i:=41) (v:=?_) rfl (by kernel_rfl) (by kernel_rfl) (by kernel_rfl) (fun _ _ _ h => h) (Or.inl ⟨by rfl,?_⟩) (by assumption) ?_
 rotate_left
 · ((intro q hSq;have hc:q.cell? ⟨w.heap.size+1+1,20,none⟩=some (.string (txt m.nt)):=hSq.1 20;clear hSq;go_simp);with_reducible rfl)
 try simp only [Act.put]
 refine wpAnyH_take (i:=42) (v:=?_) rfl (by kernel_rfl) (by kernel_rfl) (by kernel_rfl) (fun _ _ _ h => h) (Or.inl ⟨by rfl,?_⟩) (by assumption) ?_
 rotate_left
 · ((intro q hSq;(try dsimp only at hSq);go_simp);with_reducible rfl)
 try simp only [Act.put]
 refine wpAnyH_take (i:=43) (v:=?_) rfl (by kernel_rfl) (by kernel_rfl) (by kernel_rfl) (fun _ _ _ h => h) (Or.inl ⟨by rfl,?_⟩) (by assumption) ?_
 rotate_left
 · ((intro q hSq;have hc:q.cell? ⟨w.heap.size+1+1,21,none⟩=some (.slice dA m.d.length dc):=hSq.1 21;clear hSq;go_simp);with_reducible rfl)
 try simp only [Act.put]
 refine wpAnyH_take (i:=44) (v:=?_) rfl (by kernel_rfl) (by kernel_rfl) (by kernel_rfl) (fun _ _ _ h => h) (Or.inl ⟨by rfl,?_⟩) (by assumption) ?_
 rotate_left
 · ((intro q hSq;(try dsimp only at hSq);go_simp);with_reducible rfl)
 try simp only [Act.put]
 refine wpAnyH_take (i:=45) (v:=?_) rfl (by kernel_rfl) (by kernel_rfl) (by kernel_rfl) (fun _ _ _ h => h) (Or.inl ⟨by rfl,?_⟩) (by assumption) ?_
 rotate_left
 · ((intro q hSq;have hc:q.cell? ⟨w.heap.size+1+1,22,none⟩=some (.slice tA m.t.length tc):=hSq.1 22;clear hSq;go_simp);with_reducible rfl)
 try simp only [Act.put]
 refine wpAnyH_take (i:=46) (v:=?_) rfl (by kernel_rfl) (by kernel_rfl) (by kernel_rfl) (fun _ _ _ h => h) (Or.inl ⟨by rfl,?_⟩) (by assumption) ?_
 rotate_left
 · ((intro q hSq;(try dsimp only at hSq);go_simp);with_reducible rfl)
 try simp only [Act.put]
 refine wpAnyH_take (i:=47) (v:=?_) rfl (by kernel_rfl) (by kernel_rfl) (by kernel_rfl) (fun _ _ _ h => h) (Or.inl ⟨by rfl,?_⟩) (by assumption) ?_
 rotate_left
 · ((intro q hSq;have hc:=hSq.2;clear hSq;go_simp);with_reducible rfl)
 try simp only [Act.put]
 refine wpAnyH_ready (rs:=[48]) (by kernel_rfl) (by simp) ?_
 refine AllReadyH.cons rfl (fun K hK => ?_) AllReadyH.nil
 go_simp
 refine (HMK.out _ HB1.out.drew).mono ?_
 rintro e W1 ⟨f,A1,c1,rfl,hfc,hfk,hsl,hb2⟩
 have HB2:=Lib.hid (HB1.out.drew.trans (hb2.mono HB1.out.drew.size))
 have HX2:=Lib.hid (HX.out.dr.below hb2 HX.out.dr.lt)
 have HR2:=Lib.hid (HR1.out.dr.below hb2 HR1.out.dr.lt)
 have HY2:=Lib.hid (HY1.out.dr.below hb2 HY1.out.dr.lt)
 have HFC:=Lib.hid hfc
 have HFK:=Lib.hid hfk
 have HSL:=Lib.hid (hsl.imp (J:=fun k => w.heap.size+1 < k) fun k hk => Nat.lt_of_lt_of_le HY1.out.lt hk)
 clear hfc hfk hsl hb2 HMK hHeld
 go_simp
 refine hK.out _ _ ⟨fun j => HX2.out.cell j,HR2.out.cell 23⟩ (fun hHeld => ?_)
 clear hK K
 refine wpAnyH_take (i:=49) (v:=.agg (mvs m (.slice dA m.d.length dc) (.slice tA m.t.length tc) (.slice A1 f.len c1))) rfl (by kernel_rfl) (by kernel_rfl) (by kernel_rfl) (fun _ _ _ h => h) (Or.inl ⟨by rfl,?_⟩) (by assumption) ?_
 · intro q hSq
   kernel_rfl
 generalize hd:Oper.dst _=dd
 obtain rfl:some 55=dd:=hd
 simp only [Act.put]
 refine wpAnyH_ready (rs:=[50]) (by kernel_rfl) (by simp) ?_
 refine AllReadyH.cons rfl (fun K hK => ?_) AllReadyH.nil
 refine wp_store_mid 35 (.tmp 2) (.tmp 55) rfl (w.heap.size+1) 0 (mvs m (.slice dA m.d.length dc) (.slice tA m.t.length tc) (.slice A1 f.len c1)) rfl rfl (fun j hj => by rw [Nat.zero_add];exact ⟨by rw [HY2.out.cell j,Array.getElem?_eq_getElem (show j < zmvs.size from hj)];rfl,HY2.out.free j⟩) (info_msg _ _ _ _) mvs_one ?_
 have HS:=Lib.hid (putAll_tch W1 (w.heap.size+1) (mvs m (.slice dA m.d.length dc) (.slice tA m.t.length tc) (.slice A1 f.len c1)))
 have HY3:=Lib.hid (putAll_at (ds:=mvs m (.slice dA m.d.length dc) (.slice tA m.t.length tc) (.slice A1 f.len c1)) HY2.out rfl)
 show K _ (World.putAll W1 (w.heap.size+1) (mvs m (.slice dA m.d.length dc) (.slice tA m.t.length tc) (.slice A1 f.len c1)))
 generalize hd:Oper.dst _=dd
 obtain rfl:none=dd:=hd
 simp only [Act.put]
 obtain ⟨w3,hw3⟩:∃ w3,w3=World.putAll W1 (w.heap.size+1) (mvs m (.slice dA m.d.length dc) (.slice tA m.t.length tc) (.slice A1 f.len c1)):=⟨_,rfl⟩
 rw [← hw3] at HS HY3 ⊢
 clear hw3
 refine hK.out _ _ ⟨fun j => (HX2.out.tch HS.out (by omega)).cell j,(HR2.out.tch HS.out (by omega)).cell 23⟩ (fun hHeld => ?_)
 clear hK K
 refine wpAnyH_done (by kernel_rfl) ?_ _
 clear hHeld
 go_wp2_with fail
 refine bodyPost_ret (v:=.agg (mvs m (.slice dA m.d.length dc) (.slice tA m.t.length tc) (.slice A1 f.len c1))) (by exact results_cell_row rfl _ _ (w.heap.size+1) 35 _ (0,0) _ rfl HY3.out Tryz.underlying35 rfl (info_msg _ _ _ _)) rfl ?_
 have hb3:=HS.out.toBelowB (B:=w.heap.size) HB2.out.size fun g hg e => by omega
 exact ⟨f,_,_,A1,c1,rfl,HFC.out,HFK.out,HVM.out _ _ _ _ (HB2.out.trans hb3) ((HSL.out.tch HS.out fun k hk e => by omega).imp fun _ _ => trivial),HB2.out.trans hb3⟩
end Go.Proofs.YtgidfnhfgiehjaaGreatDoor
end

section
namespace Go.PM
open Go.RowKit
end Go.PM
namespace Go.Proofs.YtgidfnhfgiehjaaGreatDoor
open Go.RowKit Go.PM
set_option maxRecDepth 100000
set_option maxHeartbeats 4000000
attribute [local go_sem ↓] Go.wp_at_zero Go.wp_at_succ
end Go.Proofs.YtgidfnhfgiehjaaGreatDoor
end

section
namespace Go.Proofs.YtgidfnhfgiehjaaGreatDoor
open Go.RowKit Go.PM
set_option maxRecDepth 100000
set_option maxHeartbeats 2000000
attribute [local go_sem ↓] Go.wp_at_zero Go.wp_at_succ
theorem last_drop:∀ (f:Fs) (k a:Nat),f.len=k+1→∃ y n s i,f.drop k=.cons (f.last a) y n s i .nil
 | .cons t y n s i .nil,0,a,h => ⟨y,n,s,i,rfl⟩
 | .cons t y n s i (.cons ..),0,a,h => by simp [Fs.len] at h
 | .cons t y n s i r,k+1,a,h => last_drop r k t (by simpa [Fs.len] using h)
 | .nil,_,_,h => by simp [Fs.len] at h
end Go.Proofs.YtgidfnhfgiehjaaGreatDoor
end

section
namespace Go.Proofs.YtgidfnhfgiehjaaGreatDoor
open Go.RowKit Go.PM
end Go.Proofs.YtgidfnhfgiehjaaGreatDoor
end

section
namespace Go.Proofs.YtgidfnhfgiehjaaGreatDoor
open Go.RowKit Go.PM
theorem kind8_of {k:Nat} (h:kfrom k≠0):kind8 k=k:=by
 unfold kind8
 rw [if_pos (kfrom_knat h).2.1]
theorem rej_tail {k v:Nat} {F:Fs} {z:List UInt8} (hk:kfrom k≠0) (hv:kfrom k≤v) (hF:fcheckP F 0 0) (hl:(vput k++(ftx F++z)).length≤65536) (hz:(fget z 0 (F.last 0)).2≠0):(mdecode (vput k++(ftx F++z)) v).2=((fget z 0 (F.last 0)).2:Int):=by
 have hvg:vget (vput k++(ftx F++z))=(k,vsz k,0):=vget_put k (by have:=(kfrom_knat hk).2.1;omega) _
 have hd:(vput k++(ftx F++z)).drop (vsz k)=ftx F++z:=by rw [← vput_length,List.drop_left]
 have hl2:(ftx F++z).length≤65536:=by rw [List.length_append] at hl;omega
 have hg:fgets (ftx F++z)=(.nil,(fget z 0 (F.last 0)).2):=by
  unfold fgets
  rw [if_neg (by omega),fget_text z F 0 0 (by omega) hF (by rw [List.length_append] at hl2;omega),fthen_err hz]
 unfold mdecode
 rw [if_neg (by omega),hvg]
 simp only
 rw [if_neg (by simp),kind8_of hk,if_neg (by omega),hd,hg]
 simp only
 rw [if_pos hz]
theorem rej_zero (last:Nat):(fget [0] 0 last).2=18:=by
 have h:ffirst [0] 0 last=(.nil,0,18):=by
  unfold ffirst fone
  rw [show vget [0]=(0,1,0) from rfl,if_neg (by simp),if_pos (by simp)]
 rw [fget_err (by decide) (by rw [h];decide),h]
theorem rej_over {k v:Nat} {r:List UInt8} (hk:kfrom k≠0) (hl:r.length+2≤65536):(mdecode (UInt8.ofNat (k+128) :: 0 :: r) v).2=2:=by
 obtain ⟨k1,k8,_⟩:=kfrom_knat hk
 have hvg:(vget (UInt8.ofNat (k+128) :: 0 :: r)).2.2=2:=by
  have:k=1∨k=2∨k=3∨k=4∨k=5∨k=6∨k=7∨k=8:=by omega
  rcases this with rfl | rfl | rfl | rfl | rfl | rfl | rfl | rfl <;> rfl
 unfold mdecode
 rw [if_neg (by simp;omega),if_pos (by rw [hvg];decide),hvg]
 rfl
theorem rej_three (v:Nat) (h1:1≤v) (h3:v≤3):(mdecode [7,4,0] v).2=17:=by
 have:v=1∨v=2∨v=3:=by omega
 have hg:fgets [4,0]=(.cons 1 0 0 ByteArray.empty .nil .nil,0):=by rfl
 rcases this with rfl | rfl | rfl <;>
  (unfold mdecode
   rw [if_neg (by decide),show vget [7,4,0]=(7,1,0) from rfl]
   simp only
   rw [if_neg (by decide),if_neg (by decide),show List.drop 1 [(7:UInt8),4,0]=[4,0] from rfl,hg]
   rfl)
theorem rej_again {t last:Nat} {y:Int} {n:Nat} {s:ByteArray} {i:Fs} (hc:fcheckP (.cons t y n s i .nil) 0 0) (ht:t≤last):(fget (ftx (.cons t y n s i .nil)) 0 last).2=7:=by
 obtain ⟨⟨_,h0,hT,hn,hy⟩,_⟩:=hc
 have hyv:y.toNat≤2:=by rcases hy with ⟨h,_⟩ | ⟨h,_⟩ | ⟨h,_⟩ <;> omega
 have hne:(ftx (.cons t y n s i .nil)).length≠0:=by
  rw [ftx,List.length_append,vput_length]
  have:=vsz_pos (4 * t+y.toNat)
  omega
 have h:ffirst (ftx (.cons t y n s i .nil)) 0 last=(.nil,0,7):=by
  unfold ffirst fone
  rw [ftx,vget_put _ (by omega)]
  simp only
  rw [if_neg (by simp),if_neg (by omega),if_neg (by omega),if_pos (by omega)]
 rw [fget_err hne (by rw [h];decide),h]
def deepF:Nat→Fs
 | 0 => .cons 4294967296 2 0 ByteArray.empty .nil .nil
 | k+1 => .cons 4294967296 2 0 ByteArray.empty (deepF k) .nil
theorem deep_put:(fput (deepF 8)).2=9:=by
 have h:fcheck (deepF 8) 0 0=9:=by rfl
 unfold fput
 rw [h,if_pos (by decide)]
theorem rej_written {m:Mp} {v:Nat} (hg:m.good) (h:(mencode m v).2=0) (h6:(mencode m v).1.length≤60000) :
 (mdecode ((mencode m v).1++[0]) v).2=18∧(mencode m v).1=UInt8.ofNat (knat m.kind) :: ftx (mfields m v).1∧1≤knat m.kind∧knat m.kind≤8∧(mdecode (UInt8.ofNat (knat m.kind+128) :: 0 :: ftx (mfields m v).1) v).2=2 ∧
   ∀ z,((mencode m v).1++z).length≤65536→(fget z 0 ((mfields m v).1.last 0)).2≠0→(mdecode ((mencode m v).1++z) v).2=((fget z 0 ((mfields m v).1.last 0)).2:Int):=by
 obtain ⟨h1,h2,h3,h4,h5,_⟩:=mencode_ok hg h
 obtain ⟨k1,k2,_⟩:=mcheck_ok h1
 obtain ⟨b1,b8,_⟩:=kfrom_knat k1
 have hz:∀ z,((mencode m v).1++z).length≤65536→(fget z 0 ((mfields m v).1.last 0)).2≠0→(mdecode ((mencode m v).1++z) v).2=((fget z 0 ((mfields m v).1.last 0)).2:Int):=fun z hl hz => by
  rw [h5,List.append_assoc] at hl ⊢
  exact rej_tail k1 k2 h4 hl hz
 have hs:(mencode m v).1=UInt8.ofNat (knat m.kind) :: ftx (mfields m v).1:=by
  have hv:vput (knat m.kind)=[UInt8.ofNat (knat m.kind)]:=by rw [vput,if_pos (by omega)]
  rw [h5,hv]
  rfl
 refine ⟨?_,hs,b1,b8,?_,hz⟩
 · have:=hz [0] (by rw [List.length_append];simp;omega) (by rw [rej_zero];decide)
   rw [this,rej_zero]
   rfl
 · refine rej_over k1 ?_
   have:=congrArg List.length hs
   rw [List.length_cons] at this
   omega
end Go.Proofs.YtgidfnhfgiehjaaGreatDoor
end
