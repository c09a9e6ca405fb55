/-
  Texts of the proof, joined: Pick1 PlainWire FCheckP RefFld RefFld2 RefFld3 FSame FSame2 RefFld4 Varint Cursor. Conditions: as each names.
-/
import Derived.Test.YtgidfnhfgiehjaaGreatDoorXTopRejectsae
import Derived.Test.YtgidfnhfgiehjaaGreatDoorXTopRejectsad
import Derived.Test.YtgidfnhfgiehjaaGreatDoorXTopRejectsaf
import Derived.Test.YtgidfnhfgiehjaaGreatDoorXTopRejectsaa
import Derived.Test.YtgidfnhfgiehjaaGreatDoorProg
import Derived.Test.YtgidfnhfgiehjaaGreatDoorXTopRejectsab
import Derived.WalkSpells
import Derived.WalkLawsBesides
import Derived.Deep.QuietTactic
import Derived.BigQuiet
import Derived.Lib.Hide
import Derived.Deep.OwnRows
import Derived.KernelRfl

section
namespace Go.Proofs.YtgidfnhfgiehjaaGreatDoor
open Go.RowKit Go.PM Go.Sort
set_option maxRecDepth 100000
set_option maxHeartbeats 1000000
attribute [local go_sem ↓] Go.wp_at_zero Go.wp_at_succ
theorem isnan_any (n:Int) (w:World):Calls Tryz.prog 150 #[.int .u64 n] w fun e w' => e=.returned (.bool false)∧w'=w:=by
 go_enter Tryz.func150,Tryz.ntmps150
 go_wp2
 go_ret
 exact ⟨rfl,rfl⟩
def cmpN (x y:Nat):Int:=if x < y then -1 else if y < x then 1 else 0
theorem compare_any (x y:Nat) (w:World):Calls Tryz.prog 93 #[.int .u64 (x:Int),.int .u64 (y:Int)] w fun e w' => e=.returned (.int .i64 (cmpN x y))∧w'=w:=by
 have HN:Hid (∀ (n:Int) (v:World),Calls Tryz.prog 150 #[.int .u64 n] v fun e w' => e=.returned (.bool false)∧w'=v):=isnan_any
 unfold cmpN
 by_cases h1:x < y
 · rw [if_pos h1]
   have i1:decide ((x:Int) < (y:Int))=true:=decide_eq_true (by omega)
   have j1:decide (x < y)=true:=decide_eq_true h1
   go_enter Tryz.func93,Tryz.ntmps93
   go_wp2_with (go_at_call 150;refine (HN.out _ _).mono ?_;rintro e w' ⟨rfl,rfl⟩)
   go_ret
   exact ⟨rfl,rfl⟩
 · rw [if_neg h1]
   have i1:decide ((x:Int) < (y:Int))=false:=decide_eq_false (by omega)
   have j1:decide (x < y)=false:=decide_eq_false h1
   by_cases h2:y < x
   · rw [if_pos h2]
     have i2:decide ((y:Int) < (x:Int))=true:=decide_eq_true (by omega)
     have j2:decide (y < x)=true:=decide_eq_true h2
     go_enter Tryz.func93,Tryz.ntmps93
     go_wp2_with (go_at_call 150;refine (HN.out _ _).mono ?_;rintro e w' ⟨rfl,rfl⟩)
     go_ret
     exact ⟨rfl,rfl⟩
   · rw [if_neg h2]
     have i2:decide ((y:Int) < (x:Int))=false:=decide_eq_false (by omega)
     have j2:decide (y < x)=false:=decide_eq_false h2
     go_enter Tryz.func93,Tryz.ntmps93
     go_wp2_with (go_at_call 150;refine (HN.out _ _).mono ?_;rintro e w' ⟨rfl,rfl⟩)
     go_ret
     exact ⟨rfl,rfl⟩
structure Fv where
 fl:Fl
 A:Option Addr
 c:Nat
instance:Inhabited Fv:=⟨⟨⟨0,0,0,ByteArray.empty,.nil⟩,none,0⟩⟩
def encF (a:Fv):List Value:=[.int .u64 (a.fl.tag:Int),.int .i64 a.fl.ty,.int .u64 (a.fl.num:Int),.string a.fl.text,.slice a.A a.fl.inner.len a.c]
theorem encF_len (a:Fv):(encF a).length=5:=rfl
theorem encF_one (a:Fv):∀ v ∈ encF a,v.oneCell'=true:=by
 intro v hv
 simp only [encF,List.mem_cons,List.not_mem_nil,or_false] at hv
 rcases hv with rfl | rfl | rfl | rfl | rfl <;> rfl
theorem cls_rows {w:World} {I:Nat→Prop}:∀ {xs:List Value} {f:Fs},Cls w I xs f→∃ l:List Fv,xs=l.flatMap encF∧f=ofL (l.map Fv.fl)∧∀ a ∈ l,SlV w I (.slice a.A a.fl.inner.len a.c) a.fl.inner
 | [],.nil,_ => ⟨[],rfl,rfl,by simp⟩
 | a :: b :: c :: d :: v :: xs,.cons t y n s i r,h => by
   obtain ⟨rfl,rfl,rfl,rfl,hs,hr⟩:=h
   obtain ⟨l,h1,h2,h3⟩:=cls_rows hr
   have hs2:=hs
   obtain ⟨A,cp,rfl,_⟩:=hs2
   refine ⟨⟨⟨t,y,n,s,i⟩,A,cp⟩ :: l,by rw [List.flatMap_cons,← h1];rfl,by rw [List.map_cons,ofL,← h2],fun x hx => ?_⟩
   rcases List.mem_cons.1 hx with rfl | hx
   · exact hs
   · exact h3 x hx
 | [],.cons ..,h => h.elim
 | _ :: _,.nil,h => by simp [Cls] at h
 | [_],.cons ..,h => by simp [Cls] at h
 | [_,_],.cons ..,h => by simp [Cls] at h
 | [_,_,_],.cons ..,h => by simp [Cls] at h
 | [_,_,_,_],.cons ..,h => by simp [Cls] at h
theorem rows_cls {w:World} {I:Nat→Prop}:∀ l:List Fv,(∀ a ∈ l,SlV w I (.slice a.A a.fl.inner.len a.c) a.fl.inner)→Cls w I (l.flatMap encF) (ofL (l.map Fv.fl))
 | [],_ => trivial
 | a :: r,h => ⟨rfl,rfl,rfl,rfl,h a (by simp),rows_cls r fun x hx => h x (by simp [hx])⟩
theorem mcmp_any (x y:Fv) (W:World):Calls Tryz.prog 92 #[.agg (encF x).toArray,.agg (encF y).toArray] W fun e w' => e=.returned (.int .i64 (cmpN x.fl.tag y.fl.tag))∧∃ q os',w'=grow (W.drewN q) os':=by
 have HC:Hid (∀ v:World,Calls Tryz.prog 93 #[.int .u64 (x.fl.tag:Int),.int .u64 (y.fl.tag:Int)] v fun e w' => e=.returned (.int .i64 (cmpN x.fl.tag y.fl.tag))∧w'=v):=compare_any _ _
 show Calls _ _ #[.agg #[.int .u64 (x.fl.tag:Int),.int .i64 x.fl.ty,.int .u64 (x.fl.num:Int),.string x.fl.text,.slice x.A x.fl.inner.len x.c],.agg #[.int .u64 (y.fl.tag:Int),.int .i64 y.fl.ty,.int .u64 (y.fl.num:Int),.string y.fl.text,.slice y.A y.fl.inner.len y.c]] W _
 generalize cmpN x.fl.tag y.fl.tag=r at *
 go_enter Tryz.func92,Tryz.ntmps92
 go_wp2_with (go_at_call 93;refine (HC.out _).mono ?_;rintro e w' ⟨rfl,rfl⟩)
 go_ret
 exact ⟨rfl,0,_,by rw [alloc_eq_grow,alloc_eq_grow,grow_grow];rfl⟩
theorem ltOf_tag (x y:Fv):ltOf (fun x y:Fv => cmpN x.fl.tag y.fl.tag) x y=decide (x.fl.tag < y.fl.tag):=by
 unfold ltOf cmpN
 by_cases h1:x.fl.tag < y.fl.tag
 · simp [h1]
 · by_cases h2:y.fl.tag < x.fl.tag <;> simp [h1,h2]
theorem swo_tag:SWO (ltOf fun x y:Fv => cmpN x.fl.tag y.fl.tag) where
 irrefl x:=by rw [ltOf_tag];simp
 trans x y z h1 h2:=by rw [ltOf_tag] at *;simp at *;omega
 ntrans x y z h1 h2:=by rw [ltOf_tag] at *;simp at *;omega
def SortEnd (w:World) (base g cap:Nat) (J:Nat→Prop) (F:Fs) (e:Ending) (w':World):Prop :=
 e=.returned (.tuple #[])∧∃ (l l':List Fl) (xs':List Value),F=ofL l∧l.Perm l'∧l'.Pairwise (fun a b => a.tag≤b.tag)∧w'.ownsRow base 47 5 (.slice (some ⟨g,0,none⟩) F.len cap) F.len xs'∧Cls w' J xs' (ofL l')∧w.grownBy w' (some g)
theorem sort_any {w:World} {base g cap:Nat} {F:Fs} {xs:List Value} {J:Nat→Prop} (hown:w.ownsRow base 47 5 (.slice (some ⟨g,0,none⟩) F.len cap) F.len xs) (hc:Cls w J xs F) (hJ:∀ k,J k→k≠g) (hF:F.len≤1000000) :
 Calls Tryz.prog 91 #[.slice (some ⟨g,0,none⟩) F.len cap,.func (.func 92) #[] #[]] w (SortEnd w base g cap J F):=by
 obtain ⟨l,hx,hf,hs⟩:=cls_rows hc
 have hll:l.length=F.len:=by rw [hf,ofL_len,List.length_map]
 have hdl:l.toArray.size=F.len:=by simpa using hll
 obtain ⟨hH,hg,hbg⟩:=holdsK_own (enc:=encF) (k:=5) encF_len (by decide) l.toArray hdl hown (by simpa using hx)
 have eg:∀ args w,(callFunc 92 args).run Tryz.prog w=.ok (.enter 92 args) w:=enters_of Tryz.func92 (by kernel_rfl) rfl
 have hcon:=AnyQ.slices_SortFunc Tryz.sortFld 5 Tryz.isAgg47 Tryz.sizeOf47 encF encF_len encF_one (fun x y => cmpN x.fl.tag y.fl.tag) swo_tag 92 #[] g 0 cap l.toArray w eg
  (fun _ _ _ _ x y => mcmp_any x y _) hH hg (by omega)
 rw [hdl] at hcon
 change Calls Tryz.prog 91 _ _ _ at hcon
 refine hcon.mono ?_
 rintro e w' ⟨rfl,d',n,os,hp,hso,rfl⟩
 rw [← hdl] at hp
 have hp2:=permIn_all hp
 have hsz:d'.size=F.len:=by rw [hp.1,hdl]
 have hs2:=sortedIn_all hso hsz
 have hgr:=grownBy_sortedK (enc:=encF) (k:=5) (w:=w) (g:=g) (m:=n) (os:=os) d'
 refine ⟨rfl,l.map Fv.fl,d'.toList.map Fv.fl,_,hf,(by simpa using hp2:l.Perm d'.toList).map _,?_,own_sortedK encF_len (by decide) d' hsz hown,?_,hgr⟩
 · rw [List.pairwise_map]
   refine hs2.imp fun h => ?_
   rw [ltOf_tag] at h
   simpa using h
 · refine Cls.tch (S:=fun k => some g=some k) (rows_cls _ fun a ha => ?_) (Tch.grown hgr fun k hk _ => hk) fun k hk e => hJ k hk (by injection e with e;exact e.symm)
   exact hs a ((by simpa using hp2:l.Perm d'.toList).mem_iff.2 ha)
end Go.Proofs.YtgidfnhfgiehjaaGreatDoor
end

section
namespace Go.PM
def ftx:Fs→List UInt8
 | .nil => []
 | .cons t y n s i r => vput (4 * t+y.toNat)++((if y=0 then vput n else if y=1 then vput s.size++s.data.toList else vput (ftx i).length++ftx i)++ftx r)
theorem ftx_app:∀ f g:Fs,ftx (f.app g)=ftx f++ftx g
 | .nil,g => rfl
 | .cons t y n s i r,g => by simp only [Fs.app,ftx,ftx_app r g,List.append_assoc]
def Fs.tag:Fs→Nat
 | .nil => 0
 | .cons t _ _ _ _ _ => t
def Fs.last:Fs→Nat→Nat
 | .nil,l => l
 | .cons t _ _ _ _ r,_ => r.last t
def fcheckP:Fs→Nat→Nat→Prop
 | .nil,_,_ => True
 | .cons t y n s i r,ahead,within => (ahead < t∧0 < t∧t≤4294967296∧In64 n∧(y=0∧s=ByteArray.empty∧i=.nil∨y=1∧n=0∧i=.nil∧s.size≤9223372036854775807∨y=2∧n=0∧s=ByteArray.empty∧within < 8∧fcheckP i 0 (within+1)))∧fcheckP r t within
def fone (rec:List UInt8→Fs × Nat) (s:List UInt8) (deep last:Nat):Fs × Nat × Nat :=
 if (vget s).2.2≠0 then (.nil,0,(vget s).2.2)
 else if (vget s).1 / 4=0∨4294967296 < (vget s).1 / 4 then (.nil,0,18)
 else if (vget s).1 % 4=3 then (.nil,0,8)
 else if (vget s).1 / 4≤last then (.nil,0,7)
 else if (vget (s.drop (vget s).2.1)).2.2≠0 then (.nil,0,(vget (s.drop (vget s).2.1)).2.2)
 else if (vget s).1 % 4=0 then (.cons ((vget s).1 / 4) 0 (vget (s.drop (vget s).2.1)).1 ByteArray.empty .nil .nil,(vget s).2.1+(vget (s.drop (vget s).2.1)).2.1,0)
 else if s.length - ((vget s).2.1+(vget (s.drop (vget s).2.1)).2.1) < (vget (s.drop (vget s).2.1)).1 then (.nil,0,1)
 else if (vget s).1 % 4=1 then (.cons ((vget s).1 / 4) 1 0 (txt ((s.drop ((vget s).2.1+(vget (s.drop (vget s).2.1)).2.1)).take (vget (s.drop (vget s).2.1)).1)) .nil .nil,(vget s).2.1+(vget (s.drop (vget s).2.1)).2.1+(vget (s.drop (vget s).2.1)).1,0)
 else if deep=8 then (.nil,0,9)
 else if (rec ((s.drop ((vget s).2.1+(vget (s.drop (vget s).2.1)).2.1)).take (vget (s.drop (vget s).2.1)).1)).2≠0 then (.nil,0,(rec ((s.drop ((vget s).2.1+(vget (s.drop (vget s).2.1)).2.1)).take (vget (s.drop (vget s).2.1)).1)).2)
 else (.cons ((vget s).1 / 4) 2 0 ByteArray.empty (rec ((s.drop ((vget s).2.1+(vget (s.drop (vget s).2.1)).2.1)).take (vget (s.drop (vget s).2.1)).1)).1 .nil,(vget s).2.1+(vget (s.drop (vget s).2.1)).2.1+(vget (s.drop (vget s).2.1)).1,0)
def fthen (f:Fs) (q:Fs × Nat):Fs × Nat:=if q.2≠0 then (.nil,q.2) else (f.app q.1,0)
theorem fthen_ok {f:Fs} {q:Fs × Nat} (h:(fthen f q).2=0):q.2=0∧fthen f q=(f.app q.1,0):=by
 unfold fthen at h ⊢
 by_cases e:q.2≠0
 · rw [if_pos e] at h;exact absurd h e
 · rw [if_neg e];exact ⟨Classical.not_not.1 e,rfl⟩
theorem fthen_err {f:Fs} {q:Fs × Nat} (h:q.2≠0):fthen f q=(.nil,q.2):=by unfold fthen;rw [if_pos h]
theorem fthen_yes {f:Fs} {q:Fs × Nat} (h:q.2=0):fthen f q=(f.app q.1,0):=by unfold fthen;rw [if_neg (by rw [h];simp)]
def fgetN:Nat→List UInt8→Nat→Nat→Fs × Nat
 | 0,_,_,_ => (.nil,0)
 | N+1,s,deep,last =>
   if s.length=0 then (.nil,0)
   else if (fone (fun t => fgetN N t (deep+1) 0) s deep last).2.2≠0 then (.nil,(fone (fun t => fgetN N t (deep+1) 0) s deep last).2.2)
   else fthen (fone (fun t => fgetN N t (deep+1) 0) s deep last).1 (fgetN N (s.drop (fone (fun t => fgetN N t (deep+1) 0) s deep last).2.1) deep (fone (fun t => fgetN N t (deep+1) 0) s deep last).1.tag)
def fget (s:List UInt8) (deep last:Nat):Fs × Nat:=fgetN s.length s deep last
def ffirst (s:List UInt8) (deep last:Nat):Fs × Nat × Nat:=fone (fun t => fget t (deep+1) 0) s deep last
theorem fone_congr {rec rec':List UInt8→Fs × Nat} {s:List UInt8} (deep last:Nat) (h:∀ t:List UInt8,t.length+2≤s.length→rec t=rec' t):fone rec s deep last=fone rec' s deep last:=by
 unfold fone
 by_cases h1:(vget s).2.2≠0
 · rw [if_pos h1,if_pos h1]
 rw [if_neg h1,if_neg h1]
 have o1:=vget_ok (Classical.not_not.1 h1)
 by_cases h2:(vget s).1 / 4=0∨4294967296 < (vget s).1 / 4
 · rw [if_pos h2,if_pos h2]
 rw [if_neg h2,if_neg h2]
 by_cases h3:(vget s).1 % 4=3
 · rw [if_pos h3,if_pos h3]
 rw [if_neg h3,if_neg h3]
 by_cases h4:(vget s).1 / 4≤last
 · rw [if_pos h4,if_pos h4]
 rw [if_neg h4,if_neg h4]
 by_cases h5:(vget (s.drop (vget s).2.1)).2.2≠0
 · rw [if_pos h5,if_pos h5]
 rw [if_neg h5,if_neg h5]
 have o2:=vget_ok (Classical.not_not.1 h5)
 rw [List.length_drop] at o2
 rw [h ((s.drop ((vget s).2.1+(vget (s.drop (vget s).2.1)).2.1)).take (vget (s.drop (vget s).2.1)).1) (by rw [List.length_take,List.length_drop];omega)]
theorem fone_ok {rec:List UInt8→Fs × Nat} {s:List UInt8} {deep last:Nat} (h:(fone rec s deep last).2.2=0) :
 ∃ (t:Nat) (y:Int) (n:Nat) (x:ByteArray) (i:Fs) (k:Nat),fone rec s deep last=(.cons t y n x i .nil,k,0)∧2≤k∧k≤s.length∧last < t∧0 < t∧t≤4294967296∧In64 n ∧
  (y=0∧x=ByteArray.empty∧i=.nil∧s.take k=vput (4 * t)++vput n ∨
   y=1∧n=0∧i=.nil∧x.size≤s.length∧s.take k=vput (4 * t+1)++(vput x.size++x.data.toList) ∨
   y=2∧n=0∧x=ByteArray.empty∧deep≠8∧∃ u:List UInt8,u.length+2≤s.length∧rec u=(i,0)∧s.take k=vput (4 * t+2)++(vput u.length++u)):=by
 unfold fone at h ⊢
 by_cases h1:(vget s).2.2≠0
 · rw [if_pos h1] at h;exact absurd h h1
 rw [if_neg h1] at h ⊢
 obtain ⟨a1,a2,_,a3,a4⟩:=vget_ok (Classical.not_not.1 h1)
 by_cases h2:(vget s).1 / 4=0∨4294967296 < (vget s).1 / 4
 · rw [if_pos h2] at h;exact absurd h (by simp)
 rw [if_neg h2] at h ⊢
 by_cases h3:(vget s).1 % 4=3
 · rw [if_pos h3] at h;exact absurd h (by simp)
 rw [if_neg h3] at h ⊢
 by_cases h4:(vget s).1 / 4≤last
 · rw [if_pos h4] at h;exact absurd h (by simp)
 rw [if_neg h4] at h ⊢
 by_cases h5:(vget (s.drop (vget s).2.1)).2.2≠0
 · rw [if_pos h5] at h;exact absurd h h5
 rw [if_neg h5] at h ⊢
 obtain ⟨b1,b2,_,b3,b4⟩:=vget_ok (Classical.not_not.1 h5)
 generalize hn:(vget s).1=n at *
 generalize hk:(vget s).2.1=k at *
 generalize hm:(vget (s.drop k)).1=m at *
 generalize hj:(vget (s.drop k)).2.1=j at *
 rw [List.length_drop] at b2
 have htk:∀ e,s.take (k+j+e)=vput n++(vput m++(s.drop (k+j)).take e):=fun e => by
  rw [List.take_add,List.take_add,← a4,← b4,List.append_assoc]
 by_cases h6:n % 4=0
 · rw [if_pos h6] at h ⊢
   refine ⟨_,_,_,_,_,_,rfl,by omega,by omega,by omega,by omega,by omega,b3,.inl ⟨rfl,rfl,rfl,?_⟩⟩
   have:=htk 0
   simp only [Nat.add_zero,List.take_zero,List.append_nil] at this
   rw [this,show 4 * (n / 4)=n by omega]
 rw [if_neg h6] at h ⊢
 by_cases h7:s.length - (k+j) < m
 · rw [if_pos h7] at h;exact absurd h (by simp)
 rw [if_neg h7] at h ⊢
 have htl:((s.drop (k+j)).take m).length=m:=by rw [List.length_take,List.length_drop];omega
 by_cases h8:n % 4=1
 · rw [if_pos h8] at h ⊢
   refine ⟨_,_,_,_,_,_,rfl,by omega,by omega,by omega,by omega,by omega,by unfold In64;omega,.inr (.inl ⟨rfl,rfl,rfl,by rw [txt_size,htl];omega,?_⟩)⟩
   rw [htk m,txt_size,txt_list,htl,show 4 * (n / 4)+1=n by omega]
 rw [if_neg h8] at h ⊢
 by_cases h9:deep=8
 · rw [if_pos h9] at h;exact absurd h (by simp)
 rw [if_neg h9] at h ⊢
 by_cases h10:(rec ((s.drop (k+j)).take m)).2≠0
 · rw [if_pos h10] at h;exact absurd h h10
 rw [if_neg h10] at h ⊢
 refine ⟨_,_,_,_,_,_,rfl,by omega,by omega,by omega,by omega,by omega,by unfold In64;omega,.inr (.inr ⟨rfl,rfl,rfl,h9,(s.drop (k+j)).take m,by rw [htl];omega,?_,?_⟩)⟩
 · exact Prod.ext rfl (Classical.not_not.1 h10)
 · rw [htk m,htl,show 4 * (n / 4)+2=n by omega]
theorem fgetN_more:∀ (N:Nat) (s:List UInt8) (deep last:Nat),s.length≤N→fgetN (N+1) s deep last=fgetN N s deep last
 | 0,s,deep,last,h => by
   have:s.length=0:=by omega
   simp [fgetN,this]
 | N+1,s,deep,last,h => by
   rw [fgetN.eq_def (N+1+1),fgetN.eq_def (N+1)]
   simp only []
   by_cases h0:s.length=0
   · rw [if_pos h0,if_pos h0]
   rw [if_neg h0,if_neg h0]
   have e:fone (fun t => fgetN (N+1) t (deep+1) 0) s deep last=fone (fun t => fgetN N t (deep+1) 0) s deep last:=fone_congr deep last fun t ht => fgetN_more N t _ _ (by omega)
   rw [e]
   by_cases h1:(fone (fun t => fgetN N t (deep+1) 0) s deep last).2.2≠0
   · rw [if_pos h1,if_pos h1]
   rw [if_neg h1,if_neg h1]
   obtain ⟨t,y,n,x,i,k,hf,hk,hks,_⟩:=fone_ok (Classical.not_not.1 h1)
   rw [hf]
   show fthen _ (fgetN (N+1) (s.drop k) deep t)=fthen _ (fgetN N (s.drop k) deep t)
   rw [fgetN_more N (s.drop k) deep t (by rw [List.length_drop];omega)]
theorem fgetN_big {N:Nat} {s:List UInt8} (deep last:Nat) (h:s.length≤N):fgetN N s deep last=fget s deep last:=by
 unfold fget
 obtain ⟨d,rfl⟩:=Nat.le.dest h
 clear h
 induction d with
 | zero => rfl
 | succ d ih => rw [← Nat.add_assoc,fgetN_more _ _ _ _ (by omega),ih]
theorem fget_nil (deep last:Nat):fget [] deep last=(.nil,0):=rfl
theorem fget_err {s:List UInt8} {deep last:Nat} (h:s.length≠0) (h1:(ffirst s deep last).2.2≠0):fget s deep last=(.nil,(ffirst s deep last).2.2):=by
 obtain ⟨N,hN⟩:∃ N,s.length=N+1:=⟨s.length - 1,by omega⟩
 have e:fone (fun t => fgetN N t (deep+1) 0) s deep last=ffirst s deep last:=fone_congr deep last fun t ht => fgetN_big _ _ (by omega)
 unfold fget
 rw [hN,fgetN,if_neg h,e,if_pos h1]
theorem fget_step {s:List UInt8} {deep last:Nat} (h:s.length≠0) (h1:(ffirst s deep last).2.2=0) :
 fget s deep last=fthen (ffirst s deep last).1 (fget (s.drop (ffirst s deep last).2.1) deep (ffirst s deep last).1.tag):=by
 obtain ⟨N,hN⟩:∃ N,s.length=N+1:=⟨s.length - 1,by omega⟩
 have e:fone (fun t => fgetN N t (deep+1) 0) s deep last=ffirst s deep last:=fone_congr deep last fun t ht => fgetN_big _ _ (by omega)
 obtain ⟨t,y,n,x,i,k,hf,hk,hks,_⟩:=fone_ok (show (fone (fun t => fget t (deep+1) 0) s deep last).2.2=0 from h1)
 have hf':ffirst s deep last=(.cons t y n x i .nil,k,0):=hf
 have hu:fget s deep last=fgetN (N+1) s deep last:=by rw [← hN];rfl
 rw [hu,fgetN,if_neg h,e,if_neg (by rw [h1];simp),hf']
 show fthen _ (fgetN N (s.drop k) deep t)=fthen _ (fget (s.drop k) deep t)
 rw [fgetN_big _ _ (by rw [List.length_drop];omega)]
theorem fget_ok:∀ (N:Nat) (s:List UInt8) (deep last:Nat),s.length≤N→deep≤8→s.length≤1000000→(fget s deep last).2=0→ftx (fget s deep last).1=s∧fcheckP (fget s deep last).1 last deep∧(fget s deep last).1.count≤s.length
 | N,s,deep,last,hN,hd,hs,h => by
   by_cases h0:s.length=0
   · obtain rfl:s=[]:=List.eq_nil_of_length_eq_zero h0
     rw [fget_nil]
     exact ⟨rfl,trivial,Nat.le_refl _⟩
   by_cases h1:(ffirst s deep last).2.2≠0
   · rw [fget_err h0 h1] at h;exact absurd h h1
   have h1':=Classical.not_not.1 h1
   rw [fget_step h0 h1'] at h ⊢
   obtain ⟨t,y,n,x,i,k,hf,hk,hks,ht,ht0,ht1,hn,hor⟩:=fone_ok (show (fone (fun t => fget t (deep+1) 0) s deep last).2.2=0 from h1')
   have hf':ffirst s deep last=(.cons t y n x i .nil,k,0):=hf
   rw [hf'] at h ⊢
   have h3:(fthen (.cons t y n x i .nil) (fget (s.drop k) deep t)).2=0:=h
   show ftx (fthen (.cons t y n x i .nil) (fget (s.drop k) deep t)).1=s∧fcheckP (fthen (.cons t y n x i .nil) (fget (s.drop k) deep t)).1 last deep∧(fthen (.cons t y n x i .nil) (fget (s.drop k) deep t)).1.count≤s.length
   obtain ⟨h2,h4⟩:=fthen_ok h3
   rw [h4]
   clear h h3 h4
   match N,hN with
   | 0,hN => omega
   | N+1,hN =>
     obtain ⟨g1,g2,g3⟩:=fget_ok N (s.drop k) deep t (by rw [List.length_drop];omega) hd (by rw [List.length_drop];omega) h2
     generalize (fget (s.drop k) deep t).1=r at *
     rw [List.length_drop] at g3
     have hse:s=s.take k++s.drop k:=(List.take_append_drop k s).symm
     rcases hor with ⟨rfl,rfl,rfl,htk⟩ | ⟨rfl,rfl,rfl,hx,htk⟩ | ⟨rfl,rfl,rfl,hd8,u,hu,hru,htk⟩
     · refine ⟨?_,⟨⟨ht,ht0,ht1,hn,.inl ⟨rfl,rfl,rfl⟩⟩,g2⟩,?_⟩
       · rw [hse,htk,← g1]
         simp [Fs.app,ftx]
       · simp only [Fs.app,Fs.count];omega
     · refine ⟨?_,⟨⟨ht,ht0,ht1,hn,.inr (.inl ⟨rfl,rfl,rfl,by omega⟩)⟩,g2⟩,?_⟩
       · rw [hse,htk,← g1]
         simp [Fs.app,ftx]
       · simp only [Fs.app,Fs.count];omega
     · have hu2:(fget u (deep+1) 0).2=0:=by rw [hru]
       obtain ⟨e1,e2,e3⟩:=fget_ok N u (deep+1) 0 (by omega) (by omega) (by omega) hu2
       rw [hru] at e1 e2 e3
       simp only [] at e1 e2 e3
       have hul:u.length+2≤k:=by
        have:=congrArg List.length htk
        simp only [List.length_take,List.length_append,vput_length] at this
        have:=vsz_pos (4 * t+2)
        have:=vsz_pos u.length
        omega
       refine ⟨?_,⟨⟨ht,ht0,ht1,hn,.inr (.inr ⟨rfl,rfl,rfl,by omega,e2⟩)⟩,g2⟩,?_⟩
       · rw [hse,htk,← g1,← e1]
         simp [Fs.app,ftx]
       · simp only [Fs.app,Fs.count];omega
theorem fget_text (z:List UInt8):∀ (f:Fs) (deep last:Nat),deep≤8→fcheckP f last deep→(ftx f).length≤1000000 →
 fget (ftx f++z) deep last=fthen f (fget z deep (f.last last))
 | .nil,deep,last,hd,_,_ => by
   show fget z deep last=fthen .nil (fget z deep last)
   by_cases h:(fget z deep last).2≠0
   · rw [fthen_err h]
     by_cases h0:z.length=0
     · obtain rfl:z=[]:=List.eq_nil_of_length_eq_zero h0
       exact absurd rfl h
     by_cases h1:(ffirst z deep last).2.2≠0
     · rw [fget_err h0 h1]
     · rw [fget_step h0 (Classical.not_not.1 h1)] at h ⊢
       generalize fget (z.drop (ffirst z deep last).2.1) deep (ffirst z deep last).1.tag=q at *
       by_cases hq:q.2=0
       · rw [fthen_yes hq] at h;exact absurd rfl h
       · rw [fthen_err hq]
   · rw [fthen_yes (Classical.not_not.1 h)]
     exact Prod.ext rfl (Classical.not_not.1 h)
 | .cons t y n x i r,deep,last,hd,hc,hl => by
   obtain ⟨⟨ht,ht0,ht1,hn,hor⟩,hcr⟩:=hc
   have hr:=fget_text z r deep t hd hcr (by rw [ftx] at hl;simp only [List.length_append] at hl;omega)
   have h4:4 * t+y.toNat < 18446744073709551616:=by rcases hor with ⟨rfl,_⟩ | ⟨rfl,_⟩ | ⟨rfl,_⟩ <;> simp <;> omega
   have hsz:=vsz_pos (4 * t+y.toNat)
   generalize hb:(if y=0 then vput n else if y=1 then vput x.size++x.data.toList else vput (ftx i).length++ftx i)=B at *
   have hft:ftx (.cons t y n x i r)++z=vput (4 * t+y.toNat)++(B++(ftx r++z)):=by rw [ftx,hb];simp only [List.append_assoc]
   have hv1:=vget_put (4 * t+y.toNat) h4 (B++(ftx r++z))
   have hlb:(ftx (.cons t y n x i r)).length=vsz (4 * t+y.toNat)+(B.length+(ftx r).length):=by rw [ftx,hb];simp only [List.length_append,vput_length]
   rw [hlb] at hl
   rw [hft]
   have hne:(vput (4 * t+y.toNat)++(B++(ftx r++z))).length≠0:=by simp only [List.length_append,vput_length];omega
   have hdr:(vput (4 * t+y.toNat)++(B++(ftx r++z))).drop (vsz (4 * t+y.toNat))=B++(ftx r++z):=by
    rw [← vput_length,List.drop_left]
   have hdiv:(4 * t+y.toNat) / 4=t∧(4 * t+y.toNat) % 4=y.toNat:=by rcases hor with ⟨rfl,_⟩ | ⟨rfl,_⟩ | ⟨rfl,_⟩ <;> simp <;> omega
   have hone:ffirst (vput (4 * t+y.toNat)++(B++(ftx r++z))) deep last=(.cons t y n x i .nil,vsz (4 * t+y.toNat)+B.length,0):=by
    unfold ffirst fone
    rw [hv1]
    simp only [ne_eq,not_true_eq_false,if_false,hdiv.1,hdiv.2,hdr]
    rw [if_neg (by omega),if_neg (by rcases hor with ⟨rfl,_⟩ | ⟨rfl,_⟩ | ⟨rfl,_⟩ <;> simp),if_neg (by omega)]
    rcases hor with ⟨rfl,rfl,rfl⟩ | ⟨rfl,rfl,rfl,hx⟩ | ⟨rfl,rfl,rfl,hd8,hci⟩
    · have hB:B=vput n:=by rw [← hb];rfl
      have hv2:=vget_put n hn (ftx r++z)
      rw [hB,hv2,if_neg (by simp),vput_length]
      rfl
    · have hB:B=vput x.size++x.data.toList:=by rw [← hb];rfl
      have hx64:x.size < 18446744073709551616:=by omega
      have hv2:=vget_put x.size hx64 (x.data.toList++(ftx r++z))
      rw [hB,List.append_assoc,hv2,if_neg (by simp)]
      have hxl:x.data.toList.length=x.size:=len_list x
      rw [if_neg (by decide),if_neg (by simp only [List.length_append,vput_length,hxl];omega),if_pos (by decide)]
      have e1:(vput (4 * t+Int.toNat 1)++(vput x.size++(x.data.toList++(ftx r++z)))).drop (vsz (4 * t+Int.toNat 1)+vsz x.size)=x.data.toList++(ftx r++z):=by
       rw [← List.append_assoc,← vput_length,← vput_length,← List.length_append,List.drop_left]
      rw [e1]
      have e2:(x.data.toList++(ftx r++z)).take x.size=x.data.toList:=by rw [← hxl,List.take_left]
      rw [e2,txt_of,List.length_append,vput_length,hxl,Nat.add_assoc]
    · have hB:B=vput (ftx i).length++ftx i:=by rw [← hb];rfl
      rw [hB,List.length_append] at hl
      have hx64:(ftx i).length < 18446744073709551616:=by omega
      have hv2:=vget_put (ftx i).length hx64 (ftx i++(ftx r++z))
      rw [hB,List.append_assoc,hv2,if_neg (by simp)]
      rw [if_neg (by decide),if_neg (by simp only [List.length_append,vput_length];omega),if_neg (by decide),if_neg (by omega)]
      have e1:(vput (4 * t+Int.toNat 2)++(vput (ftx i).length++(ftx i++(ftx r++z)))).drop (vsz (4 * t+Int.toNat 2)+vsz (ftx i).length)=ftx i++(ftx r++z):=by
       rw [← List.append_assoc,← vput_length,← vput_length,← List.length_append,List.drop_left]
      rw [e1]
      have e2:(ftx i++(ftx r++z)).take (ftx i).length=ftx i:=by rw [List.take_left]
      have hin:=fget_text [] i (deep+1) 0 (by omega) hci (by omega)
      rw [List.append_nil,fget_nil,fthen_yes rfl,Fs.app_nil] at hin
      rw [e2,hin]
      simp only [not_true_eq_false,if_false]
      rw [List.length_append,vput_length,Nat.add_assoc]
   have hdr2:(vput (4 * t+y.toNat)++(B++(ftx r++z))).drop (vsz (4 * t+y.toNat)+B.length)=ftx r++z:=by
    rw [← List.append_assoc,← vput_length,← List.length_append,List.drop_left]
   rw [fget_step hne (by rw [hone]),hone]
   show fthen (.cons t y n x i .nil) (fget ((vput (4 * t+y.toNat)++(B++(ftx r++z))).drop (vsz (4 * t+y.toNat)+B.length)) deep t)=_
   rw [hdr2,hr]
   show fthen (.cons t y n x i .nil) (fthen r (fget z deep (r.last t)))=fthen (.cons t y n x i r) (fget z deep (r.last t))
   generalize fget z deep (r.last t)=q
   by_cases hz:q.2=0
   · rw [fthen_yes hz,fthen_yes hz,fthen_yes rfl];rfl
   · rw [fthen_err hz,fthen_err hz];exact fthen_err hz
end Go.PM
end

section
namespace Go.Proofs.YtgidfnhfgiehjaaGreatDoor
open Go.RowKit Go.PM
theorem ftyped_iff {y:Int} {n:Nat} {s:ByteArray} {i:Fs}:ftyped y n s i.len=true↔y=0∧s=ByteArray.empty∧i=.nil∨y=1∧n=0∧i=.nil∨y=2∧n=0∧s=ByteArray.empty:=by
 have hs:s.size=0↔s=ByteArray.empty:=⟨fun h => size_zero h,fun h => by rw [h];rfl⟩
 have hi:i.len=0↔i=.nil:=⟨fun h => Fs.len_zero h,fun h => by rw [h];rfl⟩
 unfold ftyped
 by_cases y0:y=0
 · subst y0;simp [hs,hi]
 by_cases y1:y=1
 · subst y1;simp [hi]
 by_cases y2:y=2
 · subst y2;simp [hs]
 · simp [y0,y1,y2]
theorem fcheck_iff:∀ (f:Fs) (a w:Nat),f.All FKd→w≤8→(fcheck f a w=0↔fcheckP f a w)
 | .nil,a,w,_,_ => by simp [fcheck,fcheckP]
 | .cons t y n s i r,a,w,hk,hw => by
   have hr:=fcheck_iff r t w hk.2.2 hw
   rw [fcheck,fcheckP]
   by_cases h1:t=0∨4294967296 < t
   · rw [if_pos h1];constructor
     · intro h;cases h
     · rintro ⟨⟨_,_,_,_⟩,_⟩;omega
   rw [if_neg h1]
   by_cases h2:t≤a
   · rw [if_pos h2];constructor
     · intro h;cases h
     · rintro ⟨⟨_,_,_,_⟩,_⟩;omega
   rw [if_neg h2]
   by_cases h3:ftyped y n s i.len=false
   · rw [if_pos h3];constructor
     · intro h;cases h
     · rintro ⟨⟨_,_,_,_,h⟩,_⟩
       have:ftyped y n s i.len=true:=ftyped_iff.2 (by
        rcases h with ⟨h1,h2,h3⟩ | ⟨h1,h2,h3,_⟩ | ⟨h1,h2,h3,_⟩
        · exact .inl ⟨h1,h2,h3⟩
        · exact .inr (.inl ⟨h1,h2,h3⟩)
        · exact .inr (.inr ⟨h1,h2,h3⟩))
       rw [this] at h3;cases h3
   rw [if_neg h3]
   have h3':=ftyped_iff.1 (by simpa using h3)
   have hbase:a < t∧0 < t∧t≤4294967296∧In64 n:=⟨by omega,by omega,by omega,hk.1.2.2.1⟩
   by_cases h4:y≠2
   · rw [if_pos h4,hr]
     constructor
     · intro h
       refine ⟨⟨hbase.1,hbase.2.1,hbase.2.2.1,hbase.2.2.2,?_⟩,h⟩
       rcases h3' with h | ⟨h1,h2,h3⟩ | h
       · exact .inl h
       · exact .inr (.inl ⟨h1,h2,h3,hk.1.2.2.2⟩)
       · exact absurd h.1 h4
     · exact fun h => h.2
   rw [if_neg h4]
   have hy:y=2:=Classical.not_not.1 h4
   subst hy
   have h5:n=0∧s=ByteArray.empty:=by rcases h3' with ⟨h,_⟩ | ⟨h,_⟩ | ⟨_,h⟩;cases h;cases h;exact h
   by_cases h6:8≤w
   · rw [if_pos h6];constructor
     · intro h;cases h
     · rintro ⟨⟨_,_,_,_,h⟩,_⟩
       rcases h with ⟨h,_⟩ | ⟨h,_⟩ | ⟨_,_,_,h,_⟩
       · cases h
       · cases h
       · omega
   rw [if_neg h6]
   have hi:=fcheck_iff i 0 (w+1) hk.2.1 (by omega)
   by_cases h7:fcheck i 0 (w+1)≠0
   · rw [if_pos h7];constructor
     · intro h;exact absurd h h7
     · rintro ⟨⟨_,_,_,_,h⟩,_⟩
       rcases h with ⟨h,_⟩ | ⟨h,_⟩ | ⟨_,_,_,_,h⟩
       · cases h
       · cases h
       · exact absurd (hi.2 h) h7
   · rw [if_neg h7,hr]
     have h7':=hi.1 (Classical.not_not.1 h7)
     exact ⟨fun h => ⟨⟨hbase.1,hbase.2.1,hbase.2.2.1,hbase.2.2.2,.inr (.inr ⟨rfl,h5.1,h5.2,by omega,h7'⟩)⟩,h⟩,fun h => h.2⟩
end Go.Proofs.YtgidfnhfgiehjaaGreatDoor
namespace Go.PM
theorem fcheckP_mono:∀ {f:Fs} {a a' w:Nat},a'≤a→fcheckP f a w→fcheckP f a' w
 | .nil,_,_,_,_,_ => trivial
 | .cons ..,_,_,_,h,hf => ⟨⟨by have:=hf.1.1;omega,hf.1.2⟩,hf.2⟩
theorem fcheckP_app:∀ {f g:Fs} {a w:Nat},fcheckP (f.app g) a w↔fcheckP f a w∧fcheckP g (f.last a) w
 | .nil,g,a,w => by simp [Fs.app,fcheckP,Fs.last]
 | .cons t y n s i r,g,a,w => by simp only [Fs.app,fcheckP,Fs.last,fcheckP_app (f:=r),and_assoc]
theorem Fs.take_drop:∀ (f:Fs) (k:Nat),(f.take k).app (f.drop k)=f
 | f,0 => by cases f <;> rfl
 | .nil,_+1 => rfl
 | .cons t y n s i r,k+1 => by rw [Fs.take,Fs.drop,Fs.app,Fs.take_drop r k]
theorem Fs.All.take {P:Nat→Int→Nat→ByteArray→Prop}:∀ {f:Fs} (k:Nat),f.All P→(f.take k).All P
 | f,0,_ => by cases f <;> trivial
 | .nil,_+1,_ => trivial
 | .cons ..,k+1,h => ⟨h.1,h.2.1,Fs.All.take k h.2.2⟩
end Go.PM
end

section
namespace Go.Proofs.YtgidfnhfgiehjaaGreatDoor
open Go.RowKit Go.PM
set_option maxRecDepth 100000
set_option maxHeartbeats 1000000
attribute [local go_sem ↓] Go.wp_at_zero Go.wp_at_succ
end Go.Proofs.YtgidfnhfgiehjaaGreatDoor
end

section
namespace Go.Proofs.YtgidfnhfgiehjaaGreatDoor
open Go.RowKit Go.PM
set_option maxRecDepth 100000
set_option maxHeartbeats 8000000
attribute [local go_sem ↓] Go.wp_at_zero Go.wp_at_succ
end Go.Proofs.YtgidfnhfgiehjaaGreatDoor
end

section
namespace Go.PM
end Go.PM
namespace Go.Proofs.YtgidfnhfgiehjaaGreatDoor
open Go.RowKit Go.PM
set_option maxRecDepth 100000
set_option maxHeartbeats 2000000
attribute [local go_sem ↓] Go.wp_at_zero Go.wp_at_succ
end Go.Proofs.YtgidfnhfgiehjaaGreatDoor
end

section
namespace Go.PM
def W2 (w:World) (I:Nat→Prop) (xs:List Value) (L:List (Fs × Fs)):Prop :=
 xs.length=2 * L.length∧∀ (j:Nat) (p:Fs × Fs),L[j]? = some p→∃ x y,xs[2 * j]? = some x∧xs[2 * j+1]? = some y∧SlV w I x p.1∧SlV w I y p.2
theorem W2.nil {w:World} {I:Nat→Prop}:W2 w I [] []:=⟨rfl,fun j p h => by simp at h⟩
theorem W2.push {w:World} {I:Nat→Prop} {xs:List Value} {L:List (Fs × Fs)} {x y:Value} {p:Fs × Fs} (h:W2 w I xs L) (hx:SlV w I x p.1) (hy:SlV w I y p.2):W2 w I (xs++[x,y]) (L++[p]):=by
 refine ⟨by simp [h.1];omega,fun j q hq => ?_⟩
 by_cases hj:j < L.length
 · rw [List.getElem?_append_left hj] at hq
   obtain ⟨a,b,h1,h2,h3⟩:=h.2 j q hq
   exact ⟨a,b,by rw [List.getElem?_append_left (by rw [h.1];omega)];exact h1,by rw [List.getElem?_append_left (by rw [h.1];omega)];exact h2,h3⟩
 · have hj2:j=L.length:=by
    have:=(List.getElem?_eq_some_iff.1 hq).1
    simp at this;omega
   subst hj2
   rw [List.getElem?_append_right (Nat.le_refl _),Nat.sub_self] at hq
   injection hq with hq
   subst hq
   refine ⟨x,y,?_,?_,hx,hy⟩
   · rw [List.getElem?_append_right (by rw [h.1];omega),h.1,Nat.sub_self];rfl
   · rw [List.getElem?_append_right (by rw [h.1];omega),h.1,show 2 * L.length+1 - 2 * L.length=1 by omega];rfl
theorem W2.pop {w:World} {I:Nat→Prop} {xs:List Value} {L:List (Fs × Fs)} {n:Nat} (h:W2 w I xs L) (hn:L.length=n+1) :
 ∃ L' p x y,L=L'++[p]∧L'.length=n∧xs[2 * n]? = some x∧xs[2 * n+1]? = some y∧SlV w I x p.1∧SlV w I y p.2∧W2 w I (xs.take (n * 2)) L':=by
 have hL:n < L.length:=by omega
 obtain ⟨x,y,h1,h2,h3,h4⟩:=h.2 n _ (List.getElem?_eq_getElem hL)
 refine ⟨L.take n,L[n],x,y,?_,by rw [List.length_take];omega,h1,h2,h3,h4,by rw [List.length_take,List.length_take,h.1];omega,fun j q hq => ?_⟩
 · have h1:=List.take_append_getElem hL
   rw [h1,List.take_of_length_le (by omega)]
 · rw [List.getElem?_take] at hq
   by_cases hj:j < n
   · rw [if_pos hj] at hq
     obtain ⟨a,b,h1,h2,h3⟩:=h.2 j q hq
     exact ⟨a,b,by rw [List.getElem?_take,if_pos (by omega)];exact h1,by rw [List.getElem?_take,if_pos (by omega)];exact h2,h3⟩
   · rw [if_neg hj] at hq
     cases hq
end Go.PM
namespace Go.Proofs.YtgidfnhfgiehjaaGreatDoor
open Go.RowKit Go.PM
set_option maxRecDepth 100000
set_option maxHeartbeats 4000000
end Go.Proofs.YtgidfnhfgiehjaaGreatDoor
end

section
namespace Go.Proofs.YtgidfnhfgiehjaaGreatDoor
open Go.RowKit Go.PM
set_option maxRecDepth 100000
set_option maxHeartbeats 4000000
attribute [local go_sem ↓] Go.wp_at_zero Go.wp_at_succ
def PkAt (w:World) (I:Nat→Prop) (v:Value) (L:List (Fs × Fs)) (wr:World):Prop :=
 ∃ (g cap:Nat) (xs:List Value),v=.slice (some ⟨g,0,none⟩) L.length cap∧wr.ownsRow w.heap.size 193 2 v L.length xs∧W2 w I xs L∧Below w.heap.size w wr
def PxAt (w:World) (I:Nat→Prop) (gb:Nat) (va vb v:Value) (L:List (Fs × Fs)) (wr:World):Prop :=
 ∃ (g cap:Nat) (xs:List Value),v=.slice (some ⟨g,0,none⟩) L.length cap∧wr.ownsRow w.heap.size 193 2 v L.length xs∧W2 w I xs L∧Below w.heap.size w wr∧g≠gb∧w.heap.size≤gb∧BlkAt wr gb 193 #[va,vb]
theorem PkAt.step {w wr w3:World} {I:Nat→Prop} {gb g2 g3 cap3 cap2 M2:Nat} {va vb x y:Value} {L2:List (Fs × Fs)} {p:Fs × Fs} {xs2:List Value} (hM:L2.length=M2) (hB2:Below w.heap.size w wr) (hgb:w.heap.size≤gb) (hblk:BlkAt wr gb 193 #[va,vb]) (hne:g2≠gb)
 (hW2:W2 w I xs2 L2) (hx:SlV w I x p.1) (hy:SlV w I y p.2) (hg2:w.heap.size≤g2)
 (hown3:w3.ownsRow w.heap.size 193 2 (.slice (some ⟨g3,0,none⟩) (M2+1) cap3) (M2+1) (xs2++[x,y])) (hg3:wr.grownBy w3 (Value.slice (some ⟨g2,0,none⟩) M2 cap2).ownBlock) (hat:(Value.slice (some ⟨g2,0,none⟩) M2 cap2).ownBlock=some g3∨wr.heap.size≤g3) :
 PxAt w I gb va vb (.slice (some ⟨g3,0,none⟩) (M2+1) cap3) (L2++[p]) w3:=by
 refine ⟨g3,cap3,_,by simp [hM],by simp only [List.length_append,List.length_cons,List.length_nil,hM];exact hown3,hW2.push hx hy,?_,?_,hgb,?_⟩
 · exact hB2.trans (Tch.grown (S:=fun k => some g2=some k) hg3 (fun k hk _ => hk) |>.toBelowB hB2.size fun k hk e => by injection e with e;omega)
 · rcases hat with h | h
   · simp only [Value.ownBlock,Option.some.injEq] at h;omega
   · have:=hblk.lt;omega
 · exact hblk.step hg3 (by intro e;simp only [Value.ownBlock,Option.some.injEq] at e;exact hne e.symm)
end Go.Proofs.YtgidfnhfgiehjaaGreatDoor
end

section
namespace Go.Proofs.YtgidfnhfgiehjaaGreatDoor
open Go.RowKit Go.PM
set_option maxRecDepth 100000
set_option maxHeartbeats 4000000
attribute [local go_sem ↓] Go.wp_at_zero Go.wp_at_succ
end Go.Proofs.YtgidfnhfgiehjaaGreatDoor
end

section
namespace Go.Proofs.YtgidfnhfgiehjaaGreatDoor
open Go.RowKit Go.PM
set_option maxRecDepth 100000
theorem info_u8:(Tryz.prog.info? 5).map (fun i => (i.zero,i.size,i.bytes))=some (some (.int .u8 0),1,1):=by kernel_rfl
theorem size_any (n:Nat) (w:World) (hn:In64 n) :
 Calls Tryz.prog 78 #[.int .u64 (n:Int)] w fun e w' => e=.returned (.int .i64 (vsz n:Int))∧w=w':=by
 go_enter Tryz.func78,Tryz.ntmps78
 have h10:=vsz_le10 hn.out
 have HN:=Lib.hid hn
 clear hn
 go_wp2
 go_loop [0,3] (fun v c => ∃ m k:Nat,v=.int .u64 (m:Int)∧c=.int .i64 (k:Int)∧k+vsz m=vsz n+1∧In64 m) (fun v _ => (intOf v).toNat)
 case atStart => exact ⟨n,1,rfl,rfl,by omega,HN.out⟩
 case round =>
  obtain ⟨m,k,rfl,rfl,hk,hm⟩:=hrel
  have HK:=Lib.hid hk
  have HM:=Lib.hid hm
  clear hm
  have hp:=vsz_pos m
  have hk11:k≤10:=by omega
  clear hk hp
  by_cases h:m < 128
  · go_wp2
    go_ret
    have e:=vsz_small h
    have:=HK.out
    exact ⟨congrArg (fun x:Int => Ending.returned (.int .i64 x)) (by omega),rfl⟩
  · go_wp2
    go_round
    case rel =>
     have hb:=vsz_big (n:=m) (by omega)
     have:=HK.out
     exact ⟨m / 128,k+1,by go_num,by go_num,by omega,Nat.lt_of_le_of_lt (Nat.div_le_self _ _) HM.out⟩
    case measure => simp [intOf];omega
def Lay (n L i m:Nat) (C:Array Value):Prop:=m=n / 128 ^ i∧C.toList=bvals (vraw i n)++List.replicate (L - i) (.int .u8 0)
theorem Lay.start (n L:Nat):Lay n L 0 n (madeCells #[.int .u8 0] L):=⟨by simp,by rw [toList_madeCells_one];simp [vraw,bvals]⟩
theorem Lay.at_ {n L i m:Nat} {C:Array Value} (h:Lay n L i m C) (hi:i < L):C[i]? = some (.int .u8 0):=by
 have:C[i]? = C.toList[i]?:=by simp
 rw [this,h.2,List.getElem?_append_right (by rw [bvals_length,vraw_length];omega),bvals_length,vraw_length,Nat.sub_self,List.getElem?_replicate]
 simp;omega
theorem Lay.step {n L i m:Nat} {C:Array Value} (h:Lay n L i m C) (hi:i < L):Lay n L (i+1) (m / 128) (C.setIfInBounds i (.int .u8 ((m:Int) % 128+128))):=by
 obtain ⟨rfl,hC⟩:=h
 refine ⟨by rw [Nat.div_div_eq_div_mul,Nat.pow_succ],?_⟩
 rw [Array.toList_setIfInBounds,hC,vraw_snoc]
 have e:L - i=(L - (i+1))+1:=by omega
 rw [e,List.replicate_succ,List.set_append_right _ _ (by rw [bvals_length,vraw_length];omega),bvals_length,vraw_length,Nat.sub_self]
 simp only [List.set_cons_zero,bvals,List.map_append,List.map_cons,List.map_nil,List.append_assoc,List.cons_append,List.nil_append]
 congr 3
 rw [toNat_lo (by omega)]
 omega
theorem Lay.done {n i m:Nat} {C:Array Value} (h:Lay n (vsz n) i m C) (hi:i=vsz n) :
 C[vsz n - 1]? = some (.int .u8 ((n / 128 ^ (vsz n - 1):Nat)+128:Int))∧(C.setIfInBounds (vsz n - 1) (.int .u8 (n / 128 ^ (vsz n - 1):Nat))).toList=bvals (vput n):=by
 subst hi
 obtain ⟨_,hC⟩:=h
 have hp:=vsz_pos n
 have ht:=vtop_lt n
 rw [Nat.sub_self,List.replicate_zero,List.append_nil] at hC
 have e:vsz n=(vsz n - 1)+1:=by omega
 rw [e,vraw_snoc] at hC
 rw [Nat.mod_eq_of_lt ht] at hC
 constructor
 · have:C[vsz n - 1]? = C.toList[vsz n - 1]?:=by simp
   rw [this,hC,bvals_at _ _ (by simp [vraw_length])]
   rw [List.getElem_append_right (by rw [vraw_length];omega)]
   simp only [vraw_length,Nat.sub_self,List.getElem_cons_zero]
   rw [toNat_lo (by omega)]
   rfl
 · rw [Array.toList_setIfInBounds,hC,vput_raw]
   unfold bvals
   rw [List.map_append,List.map_append,List.set_append_right _ _ (by simp [vraw_length])]
   simp only [List.length_map,vraw_length,Nat.sub_self,List.map_cons,List.map_nil,List.set_cons_zero]
   rw [toNat_lo (by omega)]
theorem and127 (m:Nat) (h:In64 m):bits .and .u64 (m:Int) 127=(m:Int) % 128:=by
 have:=bits_and_u64_nat m 127 h.out (by omega)
 rw [show (127:Nat)=2 ^ 7 - 1 from rfl,Nat.and_two_pow_sub_one_eq_mod] at this
 simpa using this
theorem or128 (m:Nat):bits .or .u8 ((m:Int) % 128) 128=(m:Int) % 128+128:=by
 have:=u8_or_nat (m % 128) 128 (by omega) (by omega)
 have e:m % 128 ||| 128=m % 128+128:=by
  have:=Nat.two_pow_add_eq_or_of_lt (i:=7) (b:=m % 128) (by omega) 1
  rw [Nat.or_comm]
  have e7:(2:Nat) ^ 7 * 1=128:=rfl
  rw [e7] at this
  omega
 rw [e] at this
 simpa using this
theorem and127b (m:Nat) (h:m < 128):bits .and .u8 ((m:Int)+128) 127=(m:Int):=by
 have:=u8_and_nat (m+128) 127 (by omega) (by omega)
 rw [show (127:Nat)=2 ^ 7 - 1 from rfl,Nat.and_two_pow_sub_one_eq_mod,show (m+128) % 2 ^ 7=m by omega] at this
 simpa using this
theorem put_any (n:Nat) (w:World) (hn:In64 n) :
 Calls Tryz.prog 35 #[.int .u64 (n:Int)] w fun e w' => e=.returned (.string ⟨(vput n).toArray⟩)∧Below w.heap.size w w':=by
 have h10:=vsz_le10 hn
 have hp:=vsz_pos n
 have hmk:=run_make_row' (P:=Tryz.prog) 42 5 (.int .u8 0) 1 Tryz.underlying42 info_u8 rfl .i64 .i64 (vsz n) (by omega) (by omega)
 go_enter Tryz.func35,Tryz.ntmps35
 go_wp2_with (go_at_call 78;refine (size_any n _ hn).mono ?_;rintro e w' ⟨rfl,rfl⟩)
 clear hmk
 have HN:=Lib.hid hn
 clear hn
 go_loopw [0,10] (fun nn k wr => ∃ (i m:Nat) (C:Array Value),i≤vsz n∧k=.int .i64 (i:Int)∧nn=.int .u64 (m:Int)∧wr=w.alloc (.cells C 5)∧Lay n (vsz n) i m C∧In64 m) (fun _ k _ => vsz n - (intOf k).toNat)
 case atStart => exact ⟨0,n,_,Nat.zero_le _,rfl,rfl,rfl,Lay.start _ _,HN.out⟩
 case round =>
  obtain ⟨i,m,C,hi,rfl,rfl,rfl,hl,hm⟩:=hrel
  have HL:=Lib.hid hl
  have HM:=Lib.hid hm
  have e1:=and127 m hm
  have e2:=or128 m
  clear hm hl
  by_cases hlt:i < vsz n
  · have hc:=HL.out.at_ hlt
    go_wp2
    go_roundw
    case rel => exact ⟨i+1,m / 128,_,by omega,by go_num,by go_num,rfl,HL.out.step hlt,Nat.lt_of_le_of_lt (Nat.div_le_self _ _) HM.out⟩
    case measure => simp [intOf];omega
  · have hi':i=vsz n:=by omega
    obtain ⟨d1,d2⟩:=HL.out.done hi'
    have ht:=vtop_lt n
    generalize hq:n / 128 ^ (vsz n - 1)=q at d1 d2 ht
    have e3:=and127b q ht
    have D2:=Lib.hid d2
    have hcv:=run_row_string (P:=Tryz.prog) (w.alloc (.cells (C.setIfInBounds (vsz n - 1) (.int .u8 (q:Int))) 5)) 42 9 5 w.heap.size (vsz n) (vsz n) _ (vput n) Tryz.underlying42 Tryz.underlying5 Tryz.underlying9 (BlkAt.made _ _ _) (vput_length n).symm (by rw [D2.out,← bvals_length,List.take_length])
    clear hi' d2 hq
    go_wp2
    go_ret
    exact ⟨rfl,ba b0 _⟩
def Gt (l:List UInt8) (i acc:Nat):Prop:=In64 acc∧(i < 10→acc < 128 ^ i∧vget l=vgetL i acc (l.drop i))∧(i=10→vget l=(0,0,3))
theorem mask127 (c:UInt8):bits .and .u8 (c.toNat:Int) 127=(c.toNat:Int) % 128:=by
 have:=u8_and_nat c.toNat 127 c.toNat_lt (by omega)
 rw [show (127:Nat)=2 ^ 7 - 1 from rfl,Nat.and_two_pow_sub_one_eq_mod] at this
 simpa using this
theorem drop_at (s:ByteArray) (i:Nat) (hi:i < s.size):s.data.toList.drop i=s[i] :: s.data.toList.drop (i+1):=by
 rw [List.drop_eq_getElem_cons (by simpa using hi)]
 rfl
theorem drop_end (s:ByteArray) (i:Nat) (hi:s.size≤i):s.data.toList.drop i=[]:=by
 apply List.drop_eq_nil_of_le
 simpa using hi
theorem pow128 (i:Nat):128 ^ i=2 ^ (7 * i):=by rw [Nat.pow_mul]
theorem or_any (acc c i:Nat) (ha:In64 acc):∃ X:Nat,bits .or .u64 (acc:Int) (IntKind.u64.wrap ((c:Int) % 128 * 2 ^ (7 * i)))=(X:Int)∧In64 X∧(acc < 128 ^ i→i < 10→(i=9→c % 128≤1)→X=acc+c % 128 * 128 ^ i):=by
 have e1:((c:Int) % 128 * 2 ^ (7 * i))=((c % 128 * 128 ^ i:Nat):Int):=by rw [pow128];push_cast;rfl
 have e2:∀ y:Nat,IntKind.u64.wrap (y:Int)=((y % 18446744073709551616:Nat):Int):=fun y => by rw [IntKind.wrap_u64];omega
 have hlt:c % 128 * 128 ^ i % 18446744073709551616 < 18446744073709551616:=Nat.mod_lt _ (by omega)
 refine ⟨acc ||| (c % 128 * 128 ^ i % 18446744073709551616),?_,?_,?_⟩
 · rw [e1,e2];exact bits_or_u64_nat _ _ ha.out hlt
 · exact Nat.or_lt_two_pow (n:=64) ha.out hlt
 · intro h1 h2 h9
   have hb:c % 128 * 128 ^ i < 18446744073709551616:=by
    by_cases e:i=9
    · subst e
      have:=h9 rfl
      have:c % 128 * 128 ^ 9≤1 * 128 ^ 9:=Nat.mul_le_mul_right _ this
      exact Nat.lt_of_le_of_lt this (by decide)
    · have h3:128 ^ i≤128 ^ 8:=pow_lt (by omega)
      have:c % 128 * 128 ^ i≤127 * 128 ^ 8:=Nat.mul_le_mul (by omega) h3
      exact Nat.lt_of_le_of_lt this (by decide)
   rw [Nat.mod_eq_of_lt hb,Nat.or_comm]
   rw [pow128] at h1 ⊢
   have:=Nat.two_pow_add_eq_or_of_lt h1 (c % 128)
   rw [Nat.mul_comm (c % 128),← this]
   omega
theorem Gt.next {l r:List UInt8} {i acc X:Nat} {c:UInt8} (h:Gt l i acc) (hi:i < 10) (hd:l.drop i=c :: r) (hr:l.drop (i+1)=r) (hc:128≤c.toNat) (hX:In64 X)
 (hv:acc < 128 ^ i→i < 10→(i=9→c.toNat % 128≤1)→X=acc+c.toNat % 128 * 128 ^ i):Gt l (i+1) X:=by
 obtain ⟨h1,h2⟩:=h.2.1 hi
 rw [hd,vgetL,if_neg (by omega),if_pos hc] at h2
 refine ⟨hX,fun h3 => ?_,fun h3 => ?_⟩
 · have e:=hv h1 hi (fun h => by omega)
   rw [hr,e]
   refine ⟨?_,h2⟩
   have:c.toNat % 128 * 128 ^ i≤127 * 128 ^ i:=Nat.mul_le_mul_right _ (by omega)
   rw [Nat.pow_succ];omega
 · rw [h2]
   have:10≤i+1:=by omega
   cases r <;> simp [vgetL,this]
theorem Gt.stop {l r:List UInt8} {i acc:Nat} {c:UInt8} (h:Gt l i acc) (hi:i < 10) (hd:l.drop i=c :: r) (hc:¬ 128≤c.toNat) :
 vget l=if i=9∧1 < c.toNat then (0,0,3) else if 0 < i∧c.toNat=0 then (0,0,2) else (acc+c.toNat * 128 ^ i,i+1,0):=by
 obtain ⟨h1,h2⟩:=h.2.1 hi
 rw [hd,vgetL,if_neg (by omega),if_neg hc] at h2
 exact h2
theorem get_any (s:ByteArray) (w:World) (hs:s.size≤9223372036854775807) :
 Calls Tryz.prog 36 #[.string s] w fun e w' => e=.returned (.tuple #[.int .u64 ((vget s.data.toList).1:Int),.int .i64 ((vget s.data.toList).2.1:Int),.int .i64 ((vget s.data.toList).2.2:Int)])∧Below w.heap.size w w':=by
 generalize hV:vget s.data.toList=V
 have HV:=Lib.hid hV
 clear hV
 go_enter Tryz.func36,Tryz.ntmps36
 go_wp2
 all_goals
  go_loop [5,10] (fun nn k => ∃ i acc:Nat,i≤10∧i≤s.size∧k=.int .i64 (i:Int)∧nn=.int .u64 (acc:Int)∧Gt s.data.toList i acc) (fun _ k => 10 - (intOf k).toNat)
  case atStart => exact ⟨0,0,by omega,by omega,rfl,rfl,by unfold In64;omega,fun _ => ⟨by decide,rfl⟩,fun h => by omega⟩
  case round =>
   obtain ⟨i,acc,hi,his,rfl,rfl,hg⟩:=hrel
   have HG:=Lib.hid hg
   clear hg
   by_cases hlt:i < s.size∧i < 10
   · obtain ⟨hl1,hl2⟩:=hlt
     have em:=mask127 s[i]
     obtain ⟨X,hX,hX64,hXv⟩:=or_any acc s[i].toNat i HG.out.1
     have HX:=Lib.hid (And.intro hX64 hXv)
     have hd:=drop_at s i hl1
     have HD:=Lib.hid hd
     clear hX64 hXv hd
     by_cases h1:128≤s[i].toNat
     · have hn:=HG.out.next hl2 HD.out rfl h1 HX.out.1 HX.out.2
       have HNx:=Lib.hid hn
       clear hn
       go_wp2
       go_round
       case rel => exact ⟨i+1,X,by omega,by omega,by go_num,rfl,HNx.out⟩
       case measure => simp [intOf];omega
     · have hst:=HG.out.stop hl2 HD.out h1
       rw [HV.out] at hst
       by_cases h2:i=9∧1 < s[i].toNat
       · rw [if_pos h2] at hst
         obtain ⟨h2a,h2b⟩:=h2
         have HS:=Lib.hid hst
         clear hst
         have t9:((i:Int) == 9)=true:=by rw [beq_iff_eq];omega
         have h2c:(1:Int) < (s[i].toNat:Int):=by omega
         clear h2a
         go_wp2
         go_ret3
         rw [HS.out]
         exact ⟨rfl,Below.refl _ _⟩
       · rw [if_neg h2] at hst
         by_cases h3:0 < i∧s[i].toNat=0
         · rw [if_pos h3] at hst
           obtain ⟨h3a,h3b⟩:=h3
           have HS:=Lib.hid hst
           have t0:((s[i].toNat:Int) == 0)=true:=by rw [beq_iff_eq];omega
           have t1:¬ (1:Int) < (s[i].toNat:Int):=by omega
           have p0:(0:Int) < (i:Int):=by omega
           have H3:=Lib.hid h3b
           clear hst h3b h2
           by_cases h9:i=9
           · have t9:((i:Int) == 9)=true:=by rw [beq_iff_eq];omega
             clear h9
             go_wp2
             go_ret3
             rw [HS.out]
             exact ⟨rfl,Below.refl _ _⟩
           · have t9:((i:Int) == 9)=false:=by rw [beq_eq_false_iff_ne];omega
             go_wp2
             go_ret3
             rw [HS.out]
             exact ⟨rfl,Below.refl _ _⟩
         · rw [if_neg h3] at hst
           have hX2:X=acc+s[i].toNat * 128 ^ i:=by
            have:=HX.out.2 (HG.out.2.1 hl2).1 hl2 (fun h => by omega)
            rw [this,Nat.mod_eq_of_lt (by omega)]
           rw [← hX2] at hst
           have HS:=Lib.hid hst
           have H2:=Lib.hid h2
           have H3:=Lib.hid h3
           clear hst hX2 h2 h3
           by_cases h9:i=9
           · have t9:((i:Int) == 9)=true:=by rw [beq_iff_eq];omega
             have t1:¬ (1:Int) < (s[i].toNat:Int):=by have:=H2.out;omega
             have t0:((s[i].toNat:Int) == 0)=false:=by rw [beq_eq_false_iff_ne];have:=H3.out;omega
             have p0:(0:Int) < (i:Int):=by omega
             clear h9
             go_wp2
             go_ret3
             rw [HS.out]
             exact ⟨rfl,Below.refl _ _⟩
           · have t9:((i:Int) == 9)=false:=by rw [beq_eq_false_iff_ne];omega
             by_cases p0:0 < i
             · have t0:((s[i].toNat:Int) == 0)=false:=by rw [beq_eq_false_iff_ne];have:=H3.out;omega
               go_wp2
               go_ret3
               rw [HS.out]
               exact ⟨rfl,Below.refl _ _⟩
             · go_wp2
               go_ret3
               rw [HS.out]
               exact ⟨rfl,Below.refl _ _⟩
   · by_cases h10:i=10
     · have hst:=HG.out.2.2 h10
       rw [HV.out] at hst
       have HS:=Lib.hid hst
       clear hst
       subst h10
       go_wp2
       go_ret3
       rw [HS.out]
       exact ⟨rfl,Below.refl _ _⟩
     · have hst:=(HG.out.2.1 (by omega)).2
       rw [HV.out,drop_end s i (by omega),vgetL,if_neg (by omega)] at hst
       have HS:=Lib.hid hst
       clear hst
       first
        | (exfalso;omega)
        | (go_wp2
           go_ret3
           rw [HS.out]
           exact ⟨rfl,Below.refl _ _⟩)
end Go.Proofs.YtgidfnhfgiehjaaGreatDoor
end

section
namespace Go.Proofs.YtgidfnhfgiehjaaGreatDoor
open Go.RowKit Go.PM
def Cur (w:World) (b:Nat) (s:ByteArray) (k:Nat):Prop:=BlkAt w b 228 #[.string s,.int .i64 (k:Int)]∧k≤s.size∧s.size≤9223372036854775807
theorem cur_over (s:ByteArray) (w:World) :
 Calls Tryz.prog 80 #[.string s] w fun e w' => e=.returned (.pointer (some ⟨w.heap.size,0,none⟩))∧w'=w.alloc (.cells #[.string s,.int .i64 0] 228):=by
 go_enter Tryz.func80,Tryz.ntmps80
 go_wp2
 go_ret
 exact ⟨rfl,rfl⟩
theorem cur_left (b:Nat) (s:ByteArray) (k:Nat) (w:World) (h:Cur w b s k) :
 Calls Tryz.prog 135 #[.pointer (some ⟨b,0,none⟩)] w fun e w' => e=.returned (.int .i64 ((s.size:Int) - (k:Int)))∧Below w.heap.size w w':=by
 obtain ⟨hb,hk,hs⟩:=h
 have c0:w.cell? ⟨b,0,none⟩=some (.string s):=hb.cell 0
 have c1:w.cell? ⟨b,1,none⟩=some (.int .i64 (k:Int)):=hb.cell 1
 clear hb
 go_enter Tryz.func135,Tryz.ntmps135
 go_wp2
 go_quiet (fail)
 go_wp2
 go_ret
 exact ⟨rfl,below_drewN (Below.refl _ _) _⟩
theorem cur_rest (b:Nat) (s:ByteArray) (k:Nat) (w:World) (h:Cur w b s k) :
 Calls Tryz.prog 213 #[.pointer (some ⟨b,0,none⟩)] w fun e w' => e=.returned (.string (s.extract k s.size))∧Below w.heap.size w w':=by
 obtain ⟨hb,hk,hs⟩:=h
 have c0:w.cell? ⟨b,0,none⟩=some (.string s):=hb.cell 0
 have c1:w.cell? ⟨b,1,none⟩=some (.int .i64 (k:Int)):=hb.cell 1
 clear hb
 go_enter Tryz.func213,Tryz.ntmps213
 go_wp2
 go_quiet (fail)
 go_wp2
 go_ret
 exact ⟨rfl,below_drewN (Below.refl _ _) _⟩
theorem cur_take_no (b:Nat) (s:ByteArray) (k:Nat) (n:Int) (w:World) (h:Cur w b s k) (h0:(s.size:Int) - k < n) (h1:n < 18446744073709551616) :
 Calls Tryz.prog 214 #[.pointer (some ⟨b,0,none⟩),.int .u64 n] w fun e w' => e=.returned (.tuple #[.string ByteArray.empty,.bool false])∧Below w.heap.size w w':=by
 have H:=Lib.hid h
 obtain ⟨hb,hk,hs⟩:=h
 clear hb
 go_enter Tryz.func214,Tryz.ntmps214
 go_wp2_with (go_at_call 135;refine (cur_left b s k _ H.out).mono ?_;rintro e w1 ⟨rfl,hb1⟩)
 go_ret2
 exact ⟨rfl,hb1⟩
theorem cur_take_yes (b:Nat) (s:ByteArray) (k:Nat) (n:Int) (w:World) (h:Cur w b s k) (h0:0≤n) (h1:n≤(s.size:Int) - k) :
 Calls Tryz.prog 214 #[.pointer (some ⟨b,0,none⟩),.int .u64 n] w fun e w' =>
  e=.returned (.tuple #[.string (s.extract k (k+n.toNat)),.bool true])∧Cur w' b s (k+n.toNat)∧w.grownBy w' (some b):=by
 have H:=Lib.hid h
 obtain ⟨hb,hk,hs⟩:=h
 have HB:=Lib.hid hb
 obtain ⟨m,rfl⟩:=Int.eq_ofNat_of_zero_le h0
 rw [Int.toNat_natCast]
 clear hb
 go_enter Tryz.func214,Tryz.ntmps214
 go_wp2_with (go_at_call 135;refine (cur_left b s k _ H.out).mono ?_;rintro e w1 ⟨rfl,hb1⟩;have c0:w1.cell? ⟨b,0,none⟩=some (.string s):=(HB.out.below hb1 HB.out.lt).cell 0;have c1:w1.cell? ⟨b,1,none⟩=some (.int .i64 (k:Int)):=(HB.out.below hb1 HB.out.lt).cell 1;have f1:w1.frozen? ⟨b,1,none⟩=false:=(HB.out.below hb1 HB.out.lt).free 1)
 go_quiet (fail)
 go_wp2
 go_ret2
 refine ⟨rfl,⟨?_,by omega,hs⟩,grown_put (grown_drn (grown_of_below hb1 _) _) _ _⟩
 have:=((HB.out.below hb1 HB.out.lt).drn nq).put 1 (.int .i64 ((k:Int)+(m:Int)))
 simpa using this
theorem cur_byte_no (b:Nat) (s:ByteArray) (k:Nat) (w:World) (h:Cur w b s k) (h0:s.size=k) :
 Calls Tryz.prog 331 #[.pointer (some ⟨b,0,none⟩)] w fun e w' => e=.returned (.tuple #[.int .u8 0,.bool false])∧Below w.heap.size w w':=by
 have H:=Lib.hid h
 have H0:=Lib.hid h0
 clear h h0
 go_enter Tryz.func331,Tryz.ntmps331
 go_wp2_with (go_at_call 214;refine (cur_take_no b s k 1 _ H.out (by have:=H0.out;omega) (by omega)).mono ?_;rintro e w1 ⟨rfl,hb1⟩)
 go_ret2
 exact ⟨rfl,hb1⟩
theorem cur_byte_yes (b:Nat) (s:ByteArray) (k:Nat) (w:World) (h:Cur w b s k) (h0:k < s.size) :
 Calls Tryz.prog 331 #[.pointer (some ⟨b,0,none⟩)] w fun e w' =>
  e=.returned (.tuple #[.int .u8 (s[k].toNat:Int),.bool true])∧Cur w' b s (k+1)∧w.grownBy w' (some b):=by
 have H:=Lib.hid h
 clear h
 go_enter Tryz.func331,Tryz.ntmps331
 go_wp2_with (go_at_call 214;refine (cur_take_yes b s k 1 _ H.out (by omega) (by omega)).mono ?_;rintro e w1 ⟨rfl,hc1,hg1⟩)
 go_ret2
 refine ⟨?_,hc1,hg1⟩
 have e:(s.extract k (k+1))[0]'(by simp;omega)=s[k]:=by simp [ByteArray.getElem_extract]
 rw [← e]
 rfl
theorem cur_sub_no (b:Nat) (s:ByteArray) (k:Nat) (n:Int) (w:World) (h:Cur w b s k) (h0:(s.size:Int) - k < n) (h1:n < 18446744073709551616) :
 Calls Tryz.prog 215 #[.pointer (some ⟨b,0,none⟩),.int .u64 n] w fun e w' => e=.returned (.tuple #[.pointer none,.bool false])∧Below w.heap.size w w':=by
 have H:=Lib.hid h
 clear h
 go_enter Tryz.func215,Tryz.ntmps215
 go_wp2_with (go_at_call 214;refine (cur_take_no b s k n _ H.out h0 h1).mono ?_;rintro e w1 ⟨rfl,hb1⟩)
 go_ret2
 exact ⟨rfl,hb1⟩
theorem cur_sub_yes (b:Nat) (s:ByteArray) (k:Nat) (n:Int) (w:World) (h:Cur w b s k) (h0:0≤n) (h1:n≤(s.size:Int) - k) :
 Calls Tryz.prog 215 #[.pointer (some ⟨b,0,none⟩),.int .u64 n] w fun e w' =>
  ∃ g,e=.returned (.tuple #[.pointer (some ⟨g,0,none⟩),.bool true])∧w.heap.size≤g∧Cur w' g (s.extract k (k+n.toNat)) 0∧Cur w' b s (k+n.toNat)∧w.grownBy w' (some b):=by
 have H:=Lib.hid h
 have hs:=h.2.2
 clear h
 go_enter Tryz.func215,Tryz.ntmps215
 go_wp2_with (first
  | (go_at_call 214;refine (cur_take_yes b s k n _ H.out h0 h1).mono ?_;rintro e w1 ⟨rfl,hc1,hg1⟩)
  | (go_at_call 80;refine (cur_over _ _).mono ?_;rintro e w2 ⟨rfl,rfl⟩))
 go_ret2
 refine ⟨_,rfl,hg1.size,⟨BlkAt.made _ _ _,Nat.zero_le _,?_⟩,⟨hc1.1.more _,hc1.2⟩,grown_more hg1 _⟩
 simp;omega
/-! ### A nil cursor -/
end Go.Proofs.YtgidfnhfgiehjaaGreatDoor
end
