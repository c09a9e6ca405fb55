/-
  Parts of the proof. Conditions: as each names.
-/
import Derived.Test.YtgidfnhfgiehjaaGreatDoorYbp
import Derived.Test.YtgidfnhfgiehjaaGreatDoorYbo
namespace Go.Proofs.YtgidfnhfgiehjaaGreatDoor
open Go.PM Go.RowKit Go.Proofs.Tryz
theorem anD(m:Mp)(f:Fs):∀i,({ m with rest:=f }:Mp).val i=m.val i
 |0|1|2|3|4|5|6|7|8|9|10|11|12|13|14|15|16|17|18|19|20|21=>rfl
 |_+22=>rfl
def YF(w:World)(m:Mp)(ol:List One)(e:Ending)(w':World):Prop :=
 ∃(M:Mp) (dv tv rv:Value),e=.returned (.agg (dR M dv tv rv))∧jV M∧M={ m with rest:=M.rest }∧M.rest.count=ol.length∧M.rest.All sH∧gU w' (fun _=>True) M dv tv rv∧Below w.heap.size w w'
theorem aje{m:Mp}{f:Fs}(hz:I7 m)(hd:m.d.length≤9223372036854775807)(ht:∀r∈m.t,r.1.length≤9223372036854775807)(htl:m.t.length≤9223372036854775807)(hc:f.count≤60)(hk:f.All sH):jV { m with rest:=f } where
 good:=⟨fun i hi=>by rw[anD];exact hz.good i hi,hk.imp fun _ _ _ _ h=>h.kd⟩
 kind:=hz.kind
 nm:=hz.nm
 rg:=hz.rg
 nt:=hz.nt
 d:=hz.d
 dl:=hd
 t:=fun r hr=>⟨hz.t r hr,ht r hr⟩
 tl:=htl
 rest:=by show f.count≤900000;omega
 VG:=by have:=Tt hk (by omega);show(eu f).length≤100000000;omega
theorem ajd{m:Mp}{dv tv:Value}{oA:Option Addr}{oc:Nat}{ol:List One}(H:Nat)(w:World)(hH:H≤w.heap.size)(hv:yM w m dv tv)(hz:I7 m)(hfw:I5 m ol)(hr:nD H w oA ol)(hok:∀x∈ol,x.ok)(hlc:ol.length≤oc)(hcm:oc≤maxLen) :
 Calls prog 10 #[.agg (dR m dv tv (.slice oA ol.length oc))] w (YF w m ol) :=
 (alf H w hH hv hr hok hlc hcm hfw.o).mono fun e w' ⟨f,jC,tv',A,c,he,hc,hk,kU,hb⟩=>by
   have h60:=(aap hfw.o).2;have hd:=(Np hfw.d).1;have htl:=hfw.tl;exact⟨{ m with rest:=f },jC,tv',_,he,aje hz (by omega) (fun r hr=>by have:=(hfw.t r hr).1;omega) (by omega) (by omega) hk,rfl,hc,hk,kU,hb⟩
theorem FY.below{w w':World}{r:Rv}(h:FY w r)(hb:Below w.heap.size w w'):FY w' r:=⟨h.1.below hb,h.2⟩
theorem yM.below{w w':World}{m:Mp}{dv tv:Value}(h:yM w m dv tv)(hb:Below w.heap.size w w'):yM w' m dv tv:=by
 obtain⟨⟨A,c,h1,h2,h3,h4⟩,l,B,d,k1,k2,k3,k4,k5⟩:=h;exact⟨⟨A,c,h1,h2,h3,h4.below hb⟩,l,B,d,k1,k2,k3.below hb,fun r hr=>(k4 r hr).below hb,k5⟩
theorem yM.slices{w:World}{m:Mp}{dv tv:Value}(h:yM w m dv tv):∃dA dc tA tc,dv=.slice dA m.d.length dc∧tv=.slice tA m.t.length tc:=by
 obtain⟨⟨A,c,h1,_⟩,l,B,d,k1,k2,_⟩:=h;exact⟨A,c,B,d,h1,by rw[k1,k2,aY]⟩
theorem abK(m:Mp)(dv tv rv:Value):(prog.info? 31).map (·.size)=some (dR m dv tv rv).size:=by kernel_rfl
structure Rej (v:Nat) (S T:List UInt8) (k:Nat) (F:Fs):Prop where
 s:S=UInt8.ofNat k::T
 k1:1≤k
 k8:k≤8
 z:(vT (S++[0]) v).2=18
 o:(vT (UInt8.ofNat (k+128)::0::T) v).2=2
 len:F.len≤1000000
 last:F.len≠0→∃y n s i,F.drop (F.len - 1)=.cons (F.last 0) y n s i .nil∧(Fs.cons (F.last 0) y n s i .nil).All mF∧(Fs.cons (F.last 0) y n s i .nil).count≤1000000∧(eu (.cons (F.last 0) y n s i .nil)).length≤60000∧
  (kT (.cons (F.last 0) y n s i .nil)).1=eu (.cons (F.last 0) y n s i .nil)∧((S++eu (.cons (F.last 0) y n s i .nil)).length≤65536→(vT (S++eu (.cons (F.last 0) y n s i .nil)) v).2=7)
