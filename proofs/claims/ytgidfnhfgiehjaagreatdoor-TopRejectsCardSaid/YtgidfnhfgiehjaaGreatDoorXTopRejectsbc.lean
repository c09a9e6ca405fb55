/-
  Texts of the proof, joined: FTurn FldLaw4 TopR0. Conditions: as each names.
-/
import Derived.Test.YtgidfnhfgiehjaaGreatDoorXTopRejectsbb
import Derived.Test.YtgidfnhfgiehjaaGreatDoorXTopRejectsaw

section
namespace Go.PM
open Go.RowKit
structure TW (S:Nat→Prop) (w w':World):Prop where
 tch:Tch S w w'
 cell:∀ p,w'.cell? p=w.cell? p∨∃ n n':Nat,w.cell? p=some (.int .u64 (n:Int))∧w'.cell? p=some (.int .u64 (n':Int))∧In64 n'
 size:w'.heap.size=w.heap.size
 fb:∀ T k,FB w T k→FB w' T k
section
variable {S S':Nat→Prop} {w a w':World}
theorem TW.refl (S:Nat→Prop) (w:World):TW S w w:=⟨Tch.refl S w,fun _ => .inl rfl,rfl,fun _ _ h => h⟩
theorem TW.trans (h:TW S a w) (k:TW S w w'):TW S a w':=by
 refine ⟨h.tch.trans k.tch fun _ _ h => h,fun p => ?_,k.size.trans h.size,fun T j hj => k.fb T j (h.fb T j hj)⟩
 rcases h.cell p with e | ⟨n,n',e1,e2,e3⟩
 · rcases k.cell p with f | ⟨m,m',f1,f2,f3⟩
   · exact .inl (f.trans e)
   · exact .inr ⟨m,m',e ▸ f1,f2,f3⟩
 · rcases k.cell p with f | ⟨m,m',f1,f2,f3⟩
   · exact .inr ⟨n,n',e1,f.trans e2,e3⟩
   · exact .inr ⟨n,m',e1,f2,f3⟩
theorem TW.imp (h:TW S a w) (hS:∀ k,S k→S' k):TW S' a w:=⟨h.tch.imp fun g _ hg => hS g hg,h.cell,h.size,h.fb⟩
theorem TW.put {b i n n':Nat} (hc:w.cell? ⟨b,i,none⟩=some (.int .u64 (n:Int))) (hn:In64 n') (hS:S b):TW S w (w.setCell ⟨b,i,none⟩ (.int .u64 (n':Int))):=by
 refine ⟨(Tch.refl S w).put (p:=⟨b,i,none⟩) (fun _ => hS) _,fun p => ?_,by simp [World.setCell],fun T k hk => hk.put _⟩
 by_cases e:(⟨b,i,none⟩:Addr)=p
 · subst e
   exact .inr ⟨n,n',hc,World.cell?_setCell_same _ _ _ hc,hn⟩
 · exact .inl (World.cell?_setCell_other _ _ _ _ e)
def like:Fs→Fs→Prop
 | .nil,.nil => True
 | .cons _ y _ s i r,.cons _ y' _ s' i' r' => y=y'∧s=s'∧like i i'∧like r r'
 | _,_ => False
theorem like.len:∀ {f g:Fs},like f g→f.len=g.len
 | .nil,.nil,_ => rfl
 | .cons ..,.cons ..,h => by rw [Fs.len,Fs.len,like.len h.2.2.2]
 | .nil,.cons ..,h => h.elim
 | .cons ..,.nil,h => h.elim
theorem like.count:∀ {f g:Fs},like f g→f.count=g.count
 | .nil,.nil,_ => rfl
 | .cons ..,.cons ..,h => by rw [Fs.count,Fs.count,like.count h.2.2.1,like.count h.2.2.2]
 | .nil,.cons ..,h => h.elim
 | .cons ..,.nil,h => h.elim
theorem FsAt.and {I J:Nat→Prop}:∀ {f:Fs} {b o:Nat},FsAt w I f b o→FsAt w J f b o→FsAt w (fun k => I k∧J k) f b o
 | .nil,_,_,_,_ => trivial
 | .cons t y n s i r,b,o,h,k => by
   obtain ⟨h1,h2,h3,h4,⟨A,c,h5,hc,h6⟩,h7⟩:=h
   obtain ⟨_,_,_,_,⟨A',c',k5,_,k6⟩,k7⟩:=k
   refine ⟨h1,h2,h3,h4,⟨A,c,h5,hc,?_⟩,FsAt.and h7 k7⟩
   rcases h6 with h6 | ⟨b',o',hA,hI,hb,h8⟩
   · exact .inl h6
   · rcases k6 with k6 | ⟨b2,o2,hA2,hJ,_,k8⟩
     · exact .inl k6
     · rw [h5] at k5
       injection k5 with k5
       injection k5 with e1 _ _
       rw [← e1,hA] at hA2
       injection hA2 with hA2
       injection hA2 with e2 e3
       subst e2 e3
       exact .inr ⟨b',o',hA,⟨hI,hJ⟩,hb,FsAt.and h8 k8⟩
end
end Go.PM
namespace Go.Proofs.YtgidfnhfgiehjaaGreatDoor
open Go.RowKit Go.PM
set_option maxRecDepth 100000
set_option maxHeartbeats 4000000
attribute [local go_sem ↓] Go.wp_at_zero Go.wp_at_succ
end Go.Proofs.YtgidfnhfgiehjaaGreatDoor
end

section
namespace Go.Proofs.YtgidfnhfgiehjaaGreatDoor
open Go.RowKit Go.PM
set_option maxRecDepth 100000
set_option maxHeartbeats 4000000
attribute [local go_sem ↓] Go.wp_at_zero Go.wp_at_succ
def OfListEnd (t:Nat) (w:World) (f:Fs) (e:Ending) (w':World):Prop :=
 ∃ (A:Option Addr) (c g0:Nat) (xs:List Value),e=.returned (.agg #[.int .u64 (t:Int),.int .i64 2,.int .u64 0,.string ByteArray.empty,.slice A f.len c])∧w'.ownsRow w.heap.size 47 5 (.slice A f.len c) f.len xs∧Cls w' (fun k => g0 < k∧FB w' 47 k) xs f ∧
  w.heap.size≤g0∧Below w.heap.size w w'
theorem oflist_tch {w w1 w2:World} {f:Fs} {A:Option Addr} {c g0 b:Nat} {xs:List Value} (hown:w1.ownsRow w.heap.size 47 5 (.slice A f.len c) f.len xs) (hcls:Cls w1 (fun k => g0 < k∧FB w1 47 k) xs f)
 (hb:Below w.heap.size w w1) (ht:Tch (fun k => k=b) w1 w2) (hbw:w.heap.size≤b) (hbg:b < g0) (hog:∀ g,(Value.slice A f.len c).ownBlock=some g→g≠b) :
 w2.ownsRow w.heap.size 47 5 (.slice A f.len c) f.len xs∧Cls w2 (fun k => g0 < k∧FB w2 47 k) xs f∧Below w.heap.size w w2:=by
 refine ⟨own_tch hown ht hog,?_,hb.trans (ht.toBelowB hb.size fun g hg e => by omega)⟩
 exact (hcls.tch ht fun k hk e => by omega).imp fun k hk => ⟨hk.1,hk.2.tch ht (by omega)⟩
theorem oflist_any (t:Nat) (v:Value) (f:Fs) (I:Nat→Prop) (w:World) (hr:SlV w I v f) (h60:f.count≤1000000):Calls Tryz.prog 15 #[.int .u64 (t:Int),v] w (OfListEnd t w f):=by
 have HC:Hid (∀ x:World,Below w.heap.size w x→Calls Tryz.prog 49 #[v] x (FCloneEnd x f)):=fun x hx => clone_of v f I x (hr.below hx) h60
 clear hr
 go_enter Tryz.func15,Tryz.ntmps15
 go_wp2_with fail
 refine (HC.out _ (ba b0 _)).mono ?_
 rintro e w1 ⟨A,c,g0,xs,rfl,hc,hown,hcls,hg0,hog,hb⟩
 have hb':Below w.heap.size w w1:=bb (ba b0 _) hb
 have hz:=hb.size
 simp only [World.size_alloc] at hz
 have hbx:=(BlkAt.made w 47 #[.int .u64 0,.int .i64 0,.int .u64 0,.string ByteArray.empty,.slice none 0 0]).below hb (by simp)
 have c0:=hbx.cell 0
 have c1:=hbx.cell 1
 have c2:=hbx.cell 2
 have c3:=hbx.cell 3
 have c4:=hbx.cell 4
 have f0:=hbx.free 0
 have f1:=hbx.free 1
 have f2:=hbx.free 2
 have f3:=hbx.free 3
 have f4:=hbx.free 4
 simp at c0 c1 c2 c3 c4
 have HOG:Hid (w.heap.size < g0∧∀ g,(Value.slice A f.len c).ownBlock=some g→g≠w.heap.size):=by
  rw [World.size_alloc] at hg0
  exact ⟨by omega,fun g hg => by have:=(hog g hg).1;omega⟩
 have HB':=Lib.hid hb'
 have HOWN:=Lib.hid hown
 have HCLS:=Lib.hid hcls
 clear hown hcls hg0 hog hb hb' hbx
 go_wp2_with fail
 refine bodyPost_ret (v:=.agg #[.int .u64 (t:Int),.int .i64 2,.int .u64 0,.string ByteArray.empty,.slice A f.len c]) (by simp [results,Tryz.results15,go_sem,c0,c1,c2,c3,c4];try rfl) rfl ?_
 have hown:w1.ownsRow w.heap.size 47 5 (.slice A f.len c) f.len xs:=by
  refine ⟨HOWN.out.1,HOWN.out.2.imp id ?_⟩
  rintro ⟨g,cap,cur,e1,e2,e3⟩
  rw [World.size_alloc] at e2
  exact ⟨g,cap,cur,e1,by omega,e3⟩
 obtain ⟨k1,k2,k3⟩:=oflist_tch hown HCLS.out HB'.out ((((((Tch.refl (fun k => k=w.heap.size) w1).put (p:=⟨w.heap.size,0,none⟩) (fun _ => rfl) (.int .u64 (t:Int))).put (p:=⟨w.heap.size,1,none⟩) (fun _ => rfl) (.int .i64 2)).put (p:=⟨w.heap.size,2,none⟩) (fun _ => rfl) (.int .u64 0)).put (p:=⟨w.heap.size,3,none⟩) (fun _ => rfl) (.string ⟨#[]⟩)).put (p:=⟨w.heap.size,4,none⟩) (fun _ => rfl) (.slice A f.len c)) (Nat.le_refl _) HOG.out.1 HOG.out.2
 exact ⟨A,c,g0,xs,rfl,k1,k2,Nat.le_of_lt HOG.out.1,k3⟩
end Go.Proofs.YtgidfnhfgiehjaaGreatDoor
end

section
namespace Go.Proofs.YtgidfnhfgiehjaaGreatDoor
open Go.RowKit Go.PM
theorem val_rest (m:Mp) (f:Fs):∀ i,({ m with rest:=f }:Mp).val i=m.val i
 | 0 | 1 | 2 | 3 | 4 | 5 | 6 | 7 | 8 | 9 | 10 | 11 | 12 | 13 | 14 | 15 | 16 | 17 | 18 | 19 | 20 | 21 => rfl
 | _+22 => rfl
def MadeEnd (w:World) (m:Mp) (ol:List One) (e:Ending) (w':World):Prop :=
 ∃ (M:Mp) (dv tv rv:Value),e=.returned (.agg (mvs M dv tv rv))∧Msz M∧M = { m with rest:=M.rest }∧M.rest.count=ol.length∧M.rest.All FOk∧MgV w' (fun _ => True) M dv tv rv∧Below w.heap.size w w'
theorem made_sz {m:Mp} {f:Fs} (hz:RawSz m) (hd:m.d.length≤9223372036854775807) (ht:∀ r ∈ m.t,r.1.length≤9223372036854775807) (htl:m.t.length≤9223372036854775807) (hc:f.count≤60) (hk:f.All FOk):Msz { m with rest:=f } where
 good:=⟨fun i hi => by rw [val_rest];exact hz.good i hi,hk.imp fun _ _ _ _ h => h.kd⟩
 kind:=hz.kind
 nm:=hz.nm
 rg:=hz.rg
 nt:=hz.nt
 d:=hz.d
 dl:=hd
 t:=fun r hr => ⟨hz.t r hr,ht r hr⟩
 tl:=htl
 rest:=by show f.count≤900000;omega
 restL:=by have:=ftx_le hk (by omega);show (ftx f).length≤100000000;omega
theorem made18 {m:Mp} {dv tv:Value} {oA:Option Addr} {oc:Nat} {ol:List One} (H:Nat) (w:World) (hH:H≤w.heap.size) (hv:RawV w m dv tv) (hz:RawSz m) (hfw:RawFew m ol) (hr:OnesRd H w oA ol) (hok:∀ x ∈ ol,x.ok) (hlc:ol.length≤oc) (hcm:oc≤maxLen) :
 Calls Tryz.prog 10 #[.agg (mvs m dv tv (.slice oA ol.length oc))] w (MadeEnd w m ol) :=
 (rawmake H w hH hv hr hok hlc hcm hfw.o).mono fun e w' ⟨f,dv',tv',A,c,he,hc,hk,hmg,hb⟩ => by
   have h60:=(few_ok hfw.o).2
   have hd:=(efew_mil hfw.d).1
   have htl:=hfw.tl
   exact ⟨{ m with rest:=f },dv',tv',_,he,made_sz hz (by omega) (fun r hr => by have:=(hfw.t r hr).1;omega) (by omega) (by omega) hk,rfl,hc,hk,hmg,hb⟩
theorem RvIn.below {w w':World} {r:Rv} (h:RvIn w r) (hb:Below w.heap.size w w'):RvIn w' r:=⟨h.1.below hb,h.2⟩
theorem RawV.below {w w':World} {m:Mp} {dv tv:Value} (h:RawV w m dv tv) (hb:Below w.heap.size w w'):RawV w' m dv tv:=by
 obtain ⟨⟨A,c,h1,h2,h3,h4⟩,l,B,d,k1,k2,k3,k4,k5⟩:=h
 exact ⟨⟨A,c,h1,h2,h3,h4.below hb⟩,l,B,d,k1,k2,k3.below hb,fun r hr => (k4 r hr).below hb,k5⟩
theorem RawV.slices {w:World} {m:Mp} {dv tv:Value} (h:RawV w m dv tv):∃ dA dc tA tc,dv=.slice dA m.d.length dc∧tv=.slice tA m.t.length tc:=by
 obtain ⟨⟨A,c,h1,_⟩,l,B,d,k1,k2,_⟩:=h
 exact ⟨A,c,B,d,h1,by rw [k1,k2,List.length_map]⟩
theorem info_raw (m:Mp) (dv tv rv:Value):(Tryz.prog.info? 31).map (·.size)=some (mvs m dv tv rv).size:=by kernel_rfl
theorem rej_last {F:Fs} (h:fcheckP F 0 0) (hk:F.All FKd) (hn:F.len≠0):∃ y n s i,F.drop (F.len - 1)=.cons (F.last 0) y n s i .nil∧fcheckP (.cons (F.last 0) y n s i .nil) 0 0∧(Fs.cons (F.last 0) y n s i .nil).All FKd∧(Fs.cons (F.last 0) y n s i .nil).count≤F.count ∧
 (ftx (.cons (F.last 0) y n s i .nil)).length≤(ftx F).length:=by
 obtain ⟨y,n,s,i,hd⟩:=last_drop F (F.len - 1) 0 (by omega)
 have h1:=Fs.take_drop F (F.len - 1)
 refine ⟨y,n,s,i,hd,?_,?_,?_,?_⟩
 · have h2:fcheckP ((F.take (F.len - 1)).app (F.drop (F.len - 1))) 0 0:=by rw [h1];exact h
   rw [hd] at h2
   exact fcheckP_mono (Nat.zero_le _) (fcheckP_app.1 h2).2
 · rw [← hd];exact hk.drop _
 · rw [← hd];exact F.drop_count _
 · rw [← hd]
   have h2:=congrArg (fun g => (ftx g).length) h1
   simp only [ftx_app,List.length_append] at h2
   omega
theorem slv_at {w:World} {I:Nat→Prop} {A:Option Addr} {c n:Nat} {f:Fs} (h:SlV w I (.slice A n c) f) (k:Nat) (hk:k < f.len) {t y m s i r} (hd:f.drop k=.cons t y m s i r) :
 ∃ b o Ai ci,A=some ⟨b,o,none⟩∧b < w.heap.size∧w.cell? ⟨b,o+k * 5,none⟩=some (.int .u64 (t:Int))∧w.cell? ⟨b,o+k * 5+1,none⟩=some (.int .i64 y) ∧
  w.cell? ⟨b,o+k * 5+2,none⟩=some (.int .u64 (m:Int))∧w.cell? ⟨b,o+k * 5+3,none⟩=some (.string s)∧w.cell? ⟨b,o+k * 5+4,none⟩=some (.slice Ai i.len ci)∧SlV w I (.slice Ai i.len ci) i:=by
 obtain ⟨A',c',hv,hc,hor⟩:=h
 injection hv with e1 e2 e3
 subst e1 e3
 rcases hor with h0 | ⟨b,o,rfl,hI,hb,hat⟩
 · omega
 · have h1:=hat.drop k
   rw [hd] at h1
   obtain ⟨g0,g1,g2,g3,⟨Ai,ci,g4,g5,g6⟩,_⟩:=h1
   exact ⟨b,o,Ai,ci,rfl,hb,g0,g1,g2,g3,g4,⟨Ai,ci,rfl,g5,g6⟩⟩
def deepI:Nat→Fs
 | 0 => .nil
 | k+1 => deepF k
theorem deepF_eq:∀ k,deepF k=.cons 4294967296 2 0 ByteArray.empty (deepI k) .nil
 | 0 => rfl
 | _+1 => rfl
theorem deep_len (k:Nat):(deepF k).len=1:=by rw [deepF_eq];rfl
theorem deep_count:∀ k,(deepF k).count=k+1
 | 0 => rfl
 | k+1 => by
   show 1+(deepF k).count+0=_
   rw [deep_count k]
   omega
theorem deep_all:∀ k,(deepF k).All FKd
 | 0 => ⟨⟨by unfold In64;decide,by unfold InI64;decide,by unfold In64;decide,by decide⟩,trivial,trivial⟩
 | k+1 => ⟨⟨by unfold In64;decide,by unfold InI64;decide,by unfold In64;decide,by decide⟩,deep_all k,trivial⟩
theorem oflist_sl (t:Nat) (v:Value) (f:Fs) (I:Nat→Prop) (x:World) (hr:SlV x I v f) (h:f.count≤1000000):Calls Tryz.prog 15 #[.int .u64 (t:Int),v] x fun e w' =>
 ∃ A c,e=.returned (.agg #[.int .u64 (t:Int),.int .i64 2,.int .u64 0,.string ByteArray.empty,.slice A f.len c])∧SlV w' (x.heap.size≤·) (.slice A f.len c) f∧Below x.heap.size x w' :=
 (oflist_any t v f I x hr h).mono fun e w' ⟨A,c,g0,xs,he,hown,hcls,hg0,hb⟩ => by
   obtain ⟨A9,c9,hv,hs⟩:=own_slv hown (hcls.imp (J:=fun k => x.heap.size≤k) fun k hk => by omega) (fun k hk => hk)
   injection hv with e1 _ e3
   subst e1 e3
   exact ⟨A,c,he,hs,hb⟩
theorem deep_ftx:(ftx (deepF 8)).length≤1000000000000:=by
 have h:(ftx (deepF 8)).length≤100:=by decide +kernel
 omega
structure Rej (v:Nat) (S T:List UInt8) (k:Nat) (F:Fs):Prop where
 s:S=UInt8.ofNat k :: T
 k1:1≤k
 k8:k≤8
 z:(mdecode (S++[0]) v).2=18
 o:(mdecode (UInt8.ofNat (k+128) :: 0 :: T) v).2=2
 len:F.len≤1000000
 last:F.len≠0→∃ y n s i,F.drop (F.len - 1)=.cons (F.last 0) y n s i .nil∧(Fs.cons (F.last 0) y n s i .nil).All FKd∧(Fs.cons (F.last 0) y n s i .nil).count≤1000000∧(ftx (.cons (F.last 0) y n s i .nil)).length≤60000 ∧
  (fput (.cons (F.last 0) y n s i .nil)).1=ftx (.cons (F.last 0) y n s i .nil)∧((S++ftx (.cons (F.last 0) y n s i .nil)).length≤65536→(mdecode (S++ftx (.cons (F.last 0) y n s i .nil)) v).2=7)
theorem rej_all {m:Mp} {v:Nat} (hz:Msz m) (h:(mencode m v).2=0) (h6:(mencode m v).1.length≤60000):∃ T k,Rej v (mencode m v).1 T k (mfields m v).1∧(mfields m v).2=0:=by
 obtain ⟨r1,r2,r3,r4,r5,r6⟩:=rej_written hz.good h h6
 obtain ⟨_,_,h3,h4,h5,_⟩:=mencode_ok hz.good h
 obtain ⟨g1,g2,g3⟩:=mfields_sz hz h3
 have hl:(ftx (mfields m v).1).length≤60000:=by
  have:=congrArg List.length r2
  rw [List.length_cons] at this
  omega
 refine ⟨_,_,⟨r2,r3,r4,r1,r5,Nat.le_trans (Fs.len_count _) g2,fun hn => ?_⟩,h3⟩
 obtain ⟨y,n,s,i,d1,d2,d3,d4,d5⟩:=rej_last h4 g1 hn
 refine ⟨y,n,s,i,d1,d3,Nat.le_trans d4 g2,Nat.le_trans d5 hl,?_,fun hlen => ?_⟩
 · unfold fput
   rw [(fcheck_iff _ 0 0 d3 (by omega)).2 d2,if_neg (by simp),if_neg (by omega)]
 · have h7:=rej_again (last:=(mfields m v).1.last 0) d2 (Nat.le_refl _)
   rw [r6 _ hlen (by rw [h7];decide),h7]
   rfl
end Go.Proofs.YtgidfnhfgiehjaaGreatDoor
end
