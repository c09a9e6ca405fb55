/-
  Texts of the proof, joined: PlainMsg PlainMsg2 Descr7 Descr8. Conditions: as each names.
-/
import Derived.Test.YtgidfnhfgiehjaaGreatDoorXTopRejectsac
import Derived.Test.YtgidfnhfgiehjaaGreatDoorXTopRejectsak
import Derived.Test.YtgidfnhfgiehjaaGreatDoorXTopRejectsal
import Derived.Test.YtgidfnhfgiehjaaGreatDoorXTopRejectsan
import Derived.Test.YtgidfnhfgiehjaaGreatDoorXTopRejectsah
import Derived.Test.YtgidfnhfgiehjaaGreatDoorXTopRejectsam
import Derived.Laws.MakeOwn

section
namespace Go.Proofs.YtgidfnhfgiehjaaGreatDoor
open Go.RowKit Go.PM
open Go.Lib (compareBytes)
def Mv.nothing:Mv→Bool
 | .num n => decide (n=0)
 | .flag b => !b
 | .sgn z => decide (z=0)
 | .word s => decide (s=[])
 | .of d => decide (d=[])
 | .rows t => decide (t=[])
def Mv.field:Mv→Nat × List UInt8
 | .num n => (n,[])
 | .flag b => (if b then 1 else 0,[])
 | .sgn z => (zmap z,[])
 | .word s => (0,s)
 | .of d => (0,if d=[] then [] else dkey d)
 | .rows t => (0,if t=[] then [] else (pkput echk t).1)
def Mv.may:Mv→Int
 | .word s => uchk s 0 256
 | .of d => if d=[] then 0 else dchk echk d
 | .rows t => tchk echk t
 | _ => 0
theorem nothing_val (m:Mp):∀ i,i < 22→(m.val i).nothing=true→m.val i=m0.val i:=by
 refine cases22 ?_ ?_ ?_ ?_ ?_ ?_ ?_ ?_ ?_ ?_ ?_ ?_ ?_ ?_ ?_ ?_ ?_ ?_ ?_ ?_ ?_ ?_ <;> (intro h;simp only [Mp.val,Mv.nothing,decide_eq_true_eq,Bool.not_eq_true'] at h;simp only [Mp.val];rw [h];rfl)
def setc (use:Nat) (ty:Int) (n:Nat) (s:List UInt8):Mv × Int :=
 if use≤2 then
  if ty≠0 then (.num 0,8) else if n=0 then (.num 0,17) else if use=0 then (.num n,0) else if use=1 then (if n≠1 then (.num 0,18) else (.flag true,0)) else (.sgn (zback n),0)
 else if ty≠1 then (.num 0,8) else if s=[] then (.num 0,17)
 else if use=3 then (if uchk s 0 256≠0 then (.num 0,uchk s 0 256) else (.word s,0))
 else if use=4 then (if (dparse echk s).2≠0 then (.num 0,(dparse echk s).2) else (.of (dparse echk s).1,0))
 else if (pkget echk s).2≠0 then (.num 0,(pkget echk s).2) else if (pkget echk s).1=[] then (.num 0,17) else (.rows (pkget echk s).1,0)
theorem zmap_back {n:Nat}:zmap (zback n)=n:=by unfold zmap zback;split <;> split <;> omega
theorem zback_map {z:Int}:zback (zmap z)=z:=by unfold zmap zback;split <;> split <;> omega
theorem zmap_zero {z:Int}:zmap z=0↔z=0:=by unfold zmap;split <;> omega
theorem vput_ne (n:Nat):vput n≠[]:=fun h => by have:=vput_length n;rw [h] at this;have:=vsz_pos n;simp at *;omega
theorem dkey_ne (d:List Ent):dkey d≠[]:=fun h => vput_ne _ (List.append_eq_nil_iff.1 h).1
theorem pktext_ne (t:List Rw):pktext t≠[]:=fun h => vput_ne _ (List.append_eq_nil_iff.1 h).1
theorem pkput_yes {t:List Rw} (h:tchk echk t=0):pkput echk t=(pktext t,0):=by unfold pkput;rw [if_neg (by simpa using h)]
theorem setc_ok {use:Nat} {ty:Int} {n:Nat} {s:List UInt8} (hu:use≤5) (h:(setc use ty n s).2=0) :
 (setc use ty n s).1.use=use∧(setc use ty n s).1.nothing=false∧(setc use ty n s).1.may=0∧ty=(if use≤2 then 0 else 1)∧(use≤2→(setc use ty n s).1.field=(n,[]))∧(3≤use→(setc use ty n s).1.field=(0,s)):=by
 unfold setc at h ⊢
 by_cases h2:use≤2
 · simp only [if_pos h2] at h ⊢
   by_cases ht:ty≠0
   · simp only [if_pos ht] at h;exact absurd h (by decide)
   simp only [if_neg ht] at h ⊢
   by_cases hn:n=0
   · simp only [if_pos hn] at h;exact absurd h (by decide)
   simp only [if_neg hn] at h ⊢
   by_cases h0:use=0
   · simp only [if_pos h0]
     exact ⟨h0.symm,by simp [Mv.nothing,hn],rfl,by simpa using ht,fun _ => rfl,fun h => absurd h (by omega)⟩
   simp only [if_neg h0] at h ⊢
   by_cases h1:use=1
   · simp only [if_pos h1] at h ⊢
     by_cases hn1:n≠1
     · simp only [if_pos hn1] at h;exact absurd h (by decide)
     simp only [if_neg hn1]
     have:n=1:=by omega
     subst this
     exact ⟨h1.symm,rfl,rfl,by simpa using ht,fun _ => rfl,fun h => absurd h (by omega)⟩
   simp only [if_neg h1]
   refine ⟨by show 2=use;omega,?_,rfl,by simpa using ht,fun _ => by show (zmap (zback n),_)=_;rw [zmap_back],fun h => absurd h (by omega)⟩
   have:zback n≠0:=fun e => hn (by rw [← zmap_back (n:=n),e];rfl)
   simp [Mv.nothing,this]
 · simp only [if_neg h2] at h ⊢
   by_cases ht:ty≠1
   · simp only [if_pos ht] at h;exact absurd h (by decide)
   simp only [if_neg ht] at h ⊢
   have ht':ty=1:=by simpa using ht
   by_cases hs:s=[]
   · simp only [if_pos hs] at h;exact absurd h (by decide)
   simp only [if_neg hs] at h ⊢
   by_cases h3:use=3
   · simp only [if_pos h3] at h ⊢
     by_cases hu:uchk s 0 256≠0
     · simp only [if_pos hu] at h;exact absurd h hu
     simp only [if_neg hu]
     exact ⟨h3.symm,by simp [Mv.nothing,hs],by simpa [Mv.may] using hu,ht',fun h => absurd h (by omega),fun _ => rfl⟩
   simp only [if_neg h3] at h ⊢
   by_cases h4:use=4
   · simp only [if_pos h4] at h ⊢
     by_cases hd:(dparse echk s).2≠0
     · simp only [if_pos hd] at h;exact absurd h hd
     simp only [if_neg hd]
     obtain ⟨e1,e2⟩:=dparse_ok (s:=s) (by simpa using hd)
     have hne:=(dchk_mil e2).2.2
     exact ⟨h4.symm,by simp [Mv.nothing,hne],by simp [Mv.may,hne,e2],ht',fun h => absurd h (by omega),fun _ => by simp only [Mv.field];rw [if_neg hne,← e1]⟩
   simp only [if_neg h4] at h ⊢
   by_cases hd:(pkget echk s).2≠0
   · simp only [if_pos hd] at h;exact absurd h hd
   simp only [if_neg hd] at h ⊢
   by_cases he:(pkget echk s).1=[]
   · simp only [if_pos he] at h;exact absurd h (by decide)
   simp only [if_neg he]
   obtain ⟨e1,e2⟩:=pkget_ok (s:=s) (by simpa using hd)
   exact ⟨by show 5=use;omega,by simp [Mv.nothing,he],by simp [Mv.may,e2],ht',fun h => absurd h (by omega),fun _ => by simp only [Mv.field];rw [if_neg he,pkput_yes e2,← e1]⟩
theorem uchk_len {l:List UInt8} {a:Int} (h:uchk l a 256=0):l.length≤256:=by
 unfold uchk at h
 split at h
 · exact absurd h (by decide)
 · omega
theorem dchk_ents {d:List Ent} (h:dchk echk d=0):∀ e ∈ d,e.1.length≤64∧e.2.length≤256:=by
 have h1:dchk1 echk none d=0:=by
  unfold dchk at h
  split at h
  · rename_i k;exact absurd h k
  · exact h
 intro e he
 have h2:=(dall_iff d).1 (dchk1_all h1) e he
 unfold echk at h2
 split at h2
 · rename_i k;exact absurd h2 k
 · rename_i k
   simp only [ne_eq,Decidable.not_not] at k
   refine ⟨?_,uchk_len h2⟩
   unfold uchk at k
   split at k
   · exact absurd k (by decide)
   · omega
theorem dkeyL_len2 (d:List Ent) (h:∀ e ∈ d,e.1.length≤64∧e.2.length≤256):(dkeyL d).length≤340 * d.length:=by
 induction d with
 | nil => simp [dkeyL]
 | cons e r ih =>
   have h1:=ih fun x hx => h x (List.mem_cons_of_mem _ hx)
   have h2:=h e List.mem_cons_self
   have e1:dkeyL (e :: r)=eput e.1 e.2++dkeyL r:=by simp [dkeyL]
   rw [e1,List.length_append,eput_length,vput_length,vput_length,List.length_cons]
   have:=vsz_le10 (n:=e.1.length) (by omega)
   have:=vsz_le10 (n:=e.2.length) (by omega)
   omega
theorem dkey_len2 {d:List Ent} (h:dchk echk d=0):(dkey d).length≤6000:=by
 have h1:=dkeyL_len2 d (dchk_ents h)
 have h2:=(dchk_mil h).2.1
 rw [dkey,List.length_append,vput_length]
 have:=vsz_le10 (n:=d.length) (by omega)
 omega
theorem tchk_rows {l:List Rw}:∀ {o:Option (List UInt8)},tchk1 echk o l=0→∀ x ∈ l,rwchk echk x=0:=by
 induction l with
 | nil => intro o _ x hx;cases hx
 | cons r m ih =>
   intro o h x hx
   unfold tchk1 at h
   by_cases h1:rwchk echk r≠0
   · rw [if_pos h1] at h;exact absurd h h1
   rw [if_neg h1] at h
   by_cases h2:dbehO o (dkey r.1)≠0
   · rw [if_pos h2] at h;exact absurd h h2
   rw [if_neg h2] at h
   rcases List.mem_cons.1 hx with rfl | hx
   · simpa using h1
   · exact ih h x hx
theorem rwchk_d {r:Rw} (h:rwchk echk r=0):dchk echk r.1=0:=by
 unfold rwchk at h
 by_cases hd:dchk echk r.1≠0
 · rw [if_pos hd] at h;exact absurd h hd
 · simpa using hd
theorem pkget_put2 {t:List Rw} (h:tchk echk t=0) (hn:∀ x ∈ t,x.2 < 18446744073709551616):pkget echk (pktext t)=(t,0):=by
 refine pkget_put h fun x hx => ?_
 have h1:=rwchk_d (tchk_rows (tchk_len h).2 x hx)
 have h2:=dchk_ents h1
 have h3:=dkey_len2 h1
 exact ⟨hn x hx,by omega,fun e he => by have:=h2 e he;omega⟩
theorem dparse_put2 {d:List Ent} (h:dchk echk d=0):dparse echk (dkey d)=(d,0):=dparse_put h fun e he => by have:=dchk_ents h e he;omega
theorem field_zero {v:Mv} (hm:v.may=0):(v.field=(0,[])↔v.nothing=true):=by
 cases v with
 | num n => simp [Mv.field,Mv.nothing]
 | flag b => cases b <;> simp [Mv.field,Mv.nothing]
 | sgn z => simp [Mv.field,Mv.nothing,zmap_zero]
 | word s => simp [Mv.field,Mv.nothing]
 | of d =>
   by_cases h:d=[]
   · simp [Mv.field,Mv.nothing,h]
   · simp [Mv.field,Mv.nothing,h,dkey_ne]
 | rows t =>
   by_cases h:t=[]
   · simp [Mv.field,Mv.nothing,h]
   · simp only [Mv.may] at hm
     simp [Mv.field,Mv.nothing,h,pkput_yes hm,pktext_ne]
theorem setc_field {v:Mv} (hm:v.may=0) (hn:v.nothing=false) (hg:v.good):setc v.use (if v.use≤2 then 0 else 1) v.field.1 v.field.2=(v,0):=by
 cases v with
 | num n =>
   have:n≠0:=by simpa [Mv.nothing] using hn
   simp [setc,Mv.use,Mv.field,this]
 | flag b =>
   have:b=true:=by simpa [Mv.nothing] using hn
   subst this
   rfl
 | sgn z =>
   have:z≠0:=by simpa [Mv.nothing] using hn
   simp [setc,Mv.use,Mv.field,zmap_zero,this,zback_map]
 | word s =>
   have:s≠[]:=by simpa [Mv.nothing] using hn
   simp only [Mv.may] at hm
   simp [setc,Mv.use,Mv.field,this,hm]
 | of d =>
   have:d≠[]:=by simpa [Mv.nothing] using hn
   simp only [Mv.may,if_neg this] at hm
   simp [setc,Mv.use,Mv.field,this,dkey_ne,dparse_put2 hm]
 | rows t =>
   have:t≠[]:=by simpa [Mv.nothing] using hn
   simp only [Mv.may] at hm
   simp [setc,Mv.use,Mv.field,this,pkput_yes hm,pktext_ne,pkget_put2 hm hg]
end Go.Proofs.YtgidfnhfgiehjaaGreatDoor
end

section
namespace Go.Proofs.YtgidfnhfgiehjaaGreatDoor
open Go.RowKit Go.PM
def nmIx (s:List UInt8):Nat:=mnames.findIdx fun x => decide (x=s)
def six (s:Sp):Nat:=nmIx s.nm
def SpOk (l:List Sp):Prop:=l.Pairwise (fun a b => a.tag < b.tag∧six a≠six b)∧∀ s ∈ l,six s < 22∧s.use=nmUse (six s)∧s.use≤5∧0 < s.tag∧s.tag≤5∧s.nm=nmAt (six s)∧1≤s.from_∧s.from_≤3
theorem specs_ok:∀ k,SpOk (kspecs k)
 | 1 => ⟨by decide,by decide⟩
 | 2 => ⟨by decide,by decide⟩
 | 3 => ⟨by decide,by decide⟩
 | 4 => ⟨by decide,by decide⟩
 | 5 => ⟨by decide,by decide⟩
 | 6 => ⟨by decide,by decide⟩
 | 7 => ⟨by decide,by decide⟩
 | 8 => ⟨by decide,by decide⟩
 | 0 => ⟨by decide,by decide⟩
 | n+9 => by
   have:kspecs (n+9)=[]:=rfl
   rw [this]
   exact ⟨List.Pairwise.nil,fun s hs => by cases hs⟩
theorem known_ok (k v:Nat):SpOk (kknown k v):=⟨(specs_ok k).1.filter _,fun s hs => (specs_ok k).2 s (List.mem_filter.1 hs).1⟩
theorem six_inj {l:List Sp} (h:SpOk l):∀ a ∈ l,∀ b ∈ l,(six a=six b∨a.tag=b.tag)→a=b:=by
 have h1:=h.1
 clear h
 induction l with
 | nil => intro a ha;cases ha
 | cons x r ih =>
   rw [List.pairwise_cons] at h1
   intro a ha b hb hab
   rcases List.mem_cons.1 ha with rfl | ha
   · rcases List.mem_cons.1 hb with rfl | hb
     · rfl
     · have:=h1.1 b hb
       rcases hab with h | h
       · exact absurd h this.2
       · omega
   · rcases List.mem_cons.1 hb with rfl | hb
     · have:=h1.1 a ‹a ∈ r›
       rcases hab with h | h
       · exact absurd h.symm this.2
       · omega
     · exact ih h1.2 a ha b hb hab
def ktix (l:List Sp) (t:Nat):Nat:=match l.find? fun s => decide (s.tag=t) with | some s => six s | none => 22
theorem ktix_of {l:List Sp} (h:SpOk l) {s:Sp} (hs:s ∈ l):ktix l s.tag=six s:=by
 unfold ktix
 split
 · rename_i a ha
   have h1:=List.find?_some ha
   have h2:=List.mem_of_find?_eq_some ha
   rw [six_inj h a h2 s hs (.inr (by simpa using h1))]
 · rename_i ha
   exact absurd (List.find?_eq_none.1 ha s hs) (by simp)
theorem ktags_iff {k v t:Nat}:t ∈ ktags k v↔∃ s ∈ kknown k v,s.tag=t:=by unfold ktags;exact List.mem_map
def sfl (m:Mp) (s:Sp):Option Fl:=if (m.val (six s)).field.1=0∧(m.val (six s)).field.2=[] then none else some ⟨s.tag,if s.use≤2 then 0 else 1,(m.val (six s)).field.1,txt (m.val (six s)).field.2,.nil⟩
def mknown (m:Mp) (l:List Sp):Fs:=ofL (l.filterMap (sfl m))
def Mp.bounds (m:Mp):Int :=
 if m.kind=1 then (if m.min_ < 1∨m.max_ < m.min_∨255 < m.max_ then 18 else 0)
 else if m.kind=2 then (if m.chosen < 1∨255 < m.chosen then 18 else 0)
 else if m.kind=3 then (if m.d=[] then 12 else 0)
 else if m.kind=5 then (if m.epoch < 1 then 18 else 0)
 else if m.kind=6 then (if m.base < 1 then 18 else if m.epoch≤m.base then 20 else 0)
 else 0
def mmay (m:Mp):List Sp→Int
 | [] => 0
 | s :: r => if (m.val (six s)).may≠0 then (m.val (six s)).may else mmay m r
def mstray (m:Mp) (l:List Sp):Bool:=(List.range 22).any fun i => !(l.any fun s => decide (s.nm=nmAt i)) && !(m.val i).nothing
def mcheck (m:Mp) (v:Nat):Int :=
 if kfrom (knat m.kind)=0∨v < kfrom (knat m.kind) then 15
 else if mstray m (kknown (knat m.kind) v) then 26
 else if mmay m (kknown (knat m.kind) v)≠0 then mmay m (kknown (knat m.kind) v)
 else if m.bounds≠0 then m.bounds
 else if fcheck m.rest 0 0≠0 then (fcheck m.rest 0 0:Int)
 else if m.rest.toL.any (fun f => decide (f.tag ∈ ktags (knat m.kind) v)) then 14 else 0
def mfields (m:Mp) (v:Nat):Fs × Int:=if mcheck m v≠0 then (.nil,mcheck m v) else ((fmerge [mknown m (kknown (knat m.kind) v),m.rest]).1,((fmerge [mknown m (kknown (knat m.kind) v),m.rest]).2:Int))
def mencode (m:Mp) (v:Nat):List UInt8 × Int :=
 if (mfields m v).2≠0 then ([],(mfields m v).2) else if (fput (mfields m v).1).2≠0 then ([],((fput (mfields m v).1).2:Int))
 else if 65536 < (vput (knat m.kind)++(fput (mfields m v).1).1).length then ([],4) else (vput (knat m.kind)++(fput (mfields m v).1).1,0)
def mwiths (l:List Sp):Mp→List Fl→Mp × Int
 | m,[] => (m,0)
 | m,f :: r => if (setc (nmUse (ktix l f.tag)) f.ty f.num f.text.data.toList).2≠0 then (m0,(setc (nmUse (ktix l f.tag)) f.ty f.num f.text.data.toList).2)
   else mwiths l (m.put (ktix l f.tag) (setc (nmUse (ktix l f.tag)) f.ty f.num f.text.data.toList).1) r
def kind8 (n:Nat):Nat:=if n≤8 then n else 0
def mread (k:Nat) (l:Fs) (v:Nat):Mp × Int :=
 if (mwiths (kknown k v) { m0 with kind:=(k:Int) } (fpick (ktags k v) true l).toL).2≠0 then (m0,(mwiths (kknown k v) { m0 with kind:=(k:Int) } (fpick (ktags k v) true l).toL).2)
 else if mcheck { (mwiths (kknown k v) { m0 with kind:=(k:Int) } (fpick (ktags k v) true l).toL).1 with rest:=fpick (ktags k v) false l } v≠0 then
  (m0,mcheck { (mwiths (kknown k v) { m0 with kind:=(k:Int) } (fpick (ktags k v) true l).toL).1 with rest:=fpick (ktags k v) false l } v)
 else ({ (mwiths (kknown k v) { m0 with kind:=(k:Int) } (fpick (ktags k v) true l).toL).1 with rest:=fpick (ktags k v) false l },0)
def mdecode (s:List UInt8) (v:Nat):Mp × Int :=
 if 65536 < s.length then (m0,4) else if (vget s).2.2≠0 then (m0,((vget s).2.2:Int))
 else if kfrom (kind8 (vget s).1)=0∨v < kfrom (kind8 (vget s).1) then (m0,15)
 else if (fgets (s.drop (vget s).2.1)).2≠0 then (m0,((fgets (s.drop (vget s).2.1)).2:Int)) else mread (kind8 (vget s).1) (fgets (s.drop (vget s).2.1)).1 v
theorem kfrom_knat {k:Nat} (h:kfrom k≠0):1≤k∧k≤8∧knat (k:Int)=k:=by
 unfold kfrom at h
 have:1≤k∧k≤8:=by
  split at h
  · omega
  · split at h
    · assumption
    · exact absurd rfl h
 refine ⟨this.1,this.2,?_⟩
 unfold knat
 rw [if_pos (by omega)]
 omega
theorem rise_ext {l m:List Fl} (hl:l.Pairwise fun a b => a.tag < b.tag) (hm:m.Pairwise fun a b => a.tag < b.tag) (h:∀ x,x ∈ l↔x ∈ m):l=m:=by
 refine krise_one Fl.tag l m ?_ hl hm
 have nd:∀ {q:List Fl},q.Pairwise (fun a b => a.tag < b.tag)→q.Nodup:=fun hq => hq.imp fun {a b} h e => by rw [e] at h;omega
 exact (List.perm_ext_iff_of_nodup (nd hl) (nd hm)).2 h
theorem known_rise (m:Mp) {l:List Sp} (h:SpOk l):(l.filterMap (sfl m)).Pairwise fun a b => a.tag < b.tag:=by
 refine List.Pairwise.filterMap (sfl m) (fun a a' h b hb b' hb' => ?_) h.1
 unfold sfl at hb hb'
 split at hb
 · cases hb
 · split at hb'
   · cases hb'
   · injection hb with hb
     injection hb' with hb'
     rw [← hb,← hb']
     exact h.1
theorem mwiths_ok {l:List Sp} (h:SpOk l):∀ (F:List Fl) (m:Mp),F.Pairwise (fun a b => a.tag < b.tag)→(∀ f ∈ F,∃ s ∈ l,s.tag=f.tag)→(mwiths l m F).2=0 →
 (mwiths l m F).1.kind=m.kind∧(mwiths l m F).1.rest=m.rest∧(∀ i,i < 22→(∀ f ∈ F,ktix l f.tag≠i)→(mwiths l m F).1.val i=m.val i) ∧
 ∀ f ∈ F,(mwiths l m F).1.val (ktix l f.tag)=(setc (nmUse (ktix l f.tag)) f.ty f.num f.text.data.toList).1∧(setc (nmUse (ktix l f.tag)) f.ty f.num f.text.data.toList).2=0
 | [],m,_,_,_ => ⟨rfl,rfl,fun _ _ _ => rfl,fun f hf => by cases hf⟩
 | f :: r,m,hp,ht,h0 => by
   rw [mwiths] at h0 ⊢
   by_cases hc:(setc (nmUse (ktix l f.tag)) f.ty f.num f.text.data.toList).2≠0
   · rw [if_pos hc] at h0;exact absurd h0 hc
   rw [if_neg hc] at h0 ⊢
   rw [List.pairwise_cons] at hp
   obtain ⟨s,hs,hst⟩:=ht f List.mem_cons_self
   have hix:ktix l f.tag=six s:=by rw [← hst];exact ktix_of h hs
   obtain ⟨s1,s2,s3,_⟩:=h.2 s hs
   have hcu:=(setc_ok (use:=nmUse (six s)) (ty:=f.ty) (n:=f.num) (s:=f.text.data.toList) (by rw [← s2];exact s3) (by rw [← hix];simpa using hc)).1
   obtain ⟨g1,g2,g3,g4⟩:=mwiths_ok h r _ hp.2 (fun x hx => ht x (List.mem_cons_of_mem _ hx)) h0
   have hput:=Mp.val_put m (setc (nmUse (ktix l f.tag)) f.ty f.num f.text.data.toList).1 (ktix l f.tag) (by rw [hix];exact s1) (by rw [hix];exact hcu)
   obtain ⟨k1,k2⟩:=Mp.put_kind m (ktix l f.tag) (setc (nmUse (ktix l f.tag)) f.ty f.num f.text.data.toList).1
   have hother:∀ x ∈ r,ktix l x.tag≠ktix l f.tag:=fun x hx e => by
    obtain ⟨s',hs',hst'⟩:=ht x (List.mem_cons_of_mem _ hx)
    have e1:ktix l x.tag=six s':=by rw [← hst'];exact ktix_of h hs'
    have e2:=six_inj h s' hs' s hs (.inl (by rw [← e1,← hix];exact e))
    have:=hp.1 x hx
    rw [← hst,← hst',e2] at this
    omega
   refine ⟨g1.trans k1,g2.trans k2,fun i hi hn => ?_,fun x hx => ?_⟩
   · rw [g3 i hi fun x hx => hn x (List.mem_cons_of_mem _ hx),hput i hi,if_neg fun e => hn f List.mem_cons_self e.symm]
   · rcases List.mem_cons.1 hx with rfl | hx
     · refine ⟨?_,by simpa using hc⟩
       rw [g3 _ (by rw [hix];exact s1) hother,hput _ (by rw [hix];exact s1),if_pos rfl]
     · exact g4 x hx
theorem mwiths_zero {l:List Sp}:∀ (F:List Fl) (m:Mp),(∀ f ∈ F,(setc (nmUse (ktix l f.tag)) f.ty f.num f.text.data.toList).2=0)→(mwiths l m F).2=0
 | [],_,_ => rfl
 | f :: r,m,h => by
   rw [mwiths,if_neg (by simpa using h f List.mem_cons_self)]
   exact mwiths_zero r _ fun x hx => h x (List.mem_cons_of_mem _ hx)
theorem mmay_zero {m:Mp}:∀ {l:List Sp},mmay m l=0→∀ s ∈ l,(m.val (six s)).may=0
 | [],_,s,hs => by cases hs
 | a :: r,h,s,hs => by
   rw [mmay] at h
   by_cases h1:(m.val (six a)).may≠0
   · rw [if_pos h1] at h;exact absurd h h1
   rw [if_neg h1] at h
   rcases List.mem_cons.1 hs with rfl | hs
   · simpa using h1
   · exact mmay_zero h s hs
theorem mcheck_ok {m:Mp} {v:Nat} (h:mcheck m v=0):kfrom (knat m.kind)≠0∧kfrom (knat m.kind)≤v∧mstray m (kknown (knat m.kind) v)=false∧mmay m (kknown (knat m.kind) v)=0∧m.bounds=0∧fcheck m.rest 0 0=0 ∧
 ∀ f ∈ m.rest.toL,f.tag ∉ ktags (knat m.kind) v:=by
 unfold mcheck at h
 by_cases h1:kfrom (knat m.kind)=0∨v < kfrom (knat m.kind)
 · rw [if_pos h1] at h;exact absurd h (by decide)
 rw [if_neg h1] at h
 by_cases h2:mstray m (kknown (knat m.kind) v)=true
 · rw [if_pos h2] at h;exact absurd h (by decide)
 rw [if_neg h2] at h
 by_cases h3:mmay m (kknown (knat m.kind) v)≠0
 · rw [if_pos h3] at h;exact absurd h h3
 rw [if_neg h3] at h
 by_cases h4:m.bounds≠0
 · rw [if_pos h4] at h;exact absurd h h4
 rw [if_neg h4] at h
 by_cases h5:fcheck m.rest 0 0≠0
 · rw [if_pos h5] at h;omega
 rw [if_neg h5] at h
 by_cases h6:m.rest.toL.any (fun f => decide (f.tag ∈ ktags (knat m.kind) v))=true
 · rw [if_pos h6] at h;exact absurd h (by decide)
 refine ⟨by omega,by omega,by simpa using h2,by simpa using h3,by simpa using h4,by omega,fun f hf e => h6 (List.any_eq_true.2 ⟨f,hf,by simpa using e⟩)⟩
theorem mstray_no {m:Mp} {l:List Sp} (hl:SpOk l) (h:mstray m l=false) {i:Nat} (hi:i < 22) (hn:∀ s ∈ l,six s≠i):(m.val i).nothing=true:=by
 unfold mstray at h
 have h1:=List.any_eq_false.1 h i (List.mem_range.2 hi)
 simp only [Bool.and_eq_true,Bool.not_eq_true',not_and,Bool.not_eq_false] at h1
 refine h1 (List.any_eq_false.2 fun s hs => ?_)
 simp only [decide_eq_true_eq]
 intro e
 have h2:=(hl.2 s hs).2.2.2.2.2.1
 have h3:∀ a,a < 22→nmIx (nmAt a)=a:=by refine cases22 ?_ ?_ ?_ ?_ ?_ ?_ ?_ ?_ ?_ ?_ ?_ ?_ ?_ ?_ ?_ ?_ ?_ ?_ ?_ ?_ ?_ ?_ <;> decide
 exact hn s hs (by unfold six;rw [e];exact h3 i hi)
def Mp.good (m:Mp):Prop:=(∀ i,i < 22→(m.val i).good)∧m.rest.All FKd
theorem sfl_some {m:Mp} {s:Sp} {f:Fl} (h:sfl m s=some f):¬ ((m.val (six s)).field.1=0∧(m.val (six s)).field.2=[])∧f=⟨s.tag,if s.use≤2 then 0 else 1,(m.val (six s)).field.1,txt (m.val (six s)).field.2,.nil⟩:=by
 unfold sfl at h
 split at h
 · cases h
 · rename_i hn
   injection h with h
   exact ⟨hn,h.symm⟩
theorem field_pair {v:Mv}:(v.field.1=0∧v.field.2=[])↔v.field=(0,[]):=by
 constructor
 · intro h;exact Prod.ext h.1 h.2
 · intro h;rw [h];exact ⟨rfl,rfl⟩
theorem mread_of {m:Mp} {v:Nat} (hc:mcheck m v=0) (hg:m.good) {l:Fs} (hl:fcheckP l 0 0) (hp:((mknown m (kknown (knat m.kind) v)).app m.rest).toL.Perm l.toL):mread (knat m.kind) l v=(m,0):=by
 obtain ⟨c1,c2,c3,c4,c5,c6,c7⟩:=mcheck_ok hc
 have hko:=known_ok (knat m.kind) v
 have hkn:((knat m.kind:Nat):Int)=m.kind:=by
  have h1:1≤m.kind∧m.kind≤8:=by
   refine Classical.byContradiction fun h => c1 ?_
   unfold knat
   rw [if_neg h]
   rfl
  unfold knat
  rw [if_pos h1]
  omega
 have hr:=(check_rise hl).1
 have htrue:(fpick (ktags (knat m.kind) v) true l).toL=(kknown (knat m.kind) v).filterMap (sfl m):=by
  refine rise_ext (by rw [fpick_toL];exact hr.filter _) (known_rise m hko) fun x => ?_
  rw [fpick_toL,List.mem_filter,← hp.mem_iff,toL_app,List.mem_append,mknown,toL_ofL]
  simp only [beq_true,decide_eq_true_eq]
  constructor
  · rintro ⟨h | h,ht⟩
    · exact h
    · exact absurd ht (c7 x h)
  · intro h
    refine ⟨.inl h,?_⟩
    obtain ⟨s,hs,hf⟩:=List.mem_filterMap.1 h
    exact ktags_iff.2 ⟨s,hs,by rw [(sfl_some hf).2]⟩
 have hfalse:fpick (ktags (knat m.kind) v) false l=m.rest:=by
  rw [← ofL_toL m.rest,← ofL_toL (fpick (ktags (knat m.kind) v) false l)]
  refine congrArg ofL (rise_ext (by rw [fpick_toL];exact hr.filter _) (check_rise ((fcheck_iff m.rest 0 0 hg.2 (by omega)).1 c6)).1 fun x => ?_)
  rw [fpick_toL,List.mem_filter,← hp.mem_iff,toL_app,List.mem_append,mknown,toL_ofL]
  simp only [beq_false,Bool.not_eq_true',decide_eq_false_iff_not]
  constructor
  · rintro ⟨h | h,ht⟩
    · obtain ⟨s,hs,hf⟩:=List.mem_filterMap.1 h
      exact absurd (ktags_iff.2 ⟨s,hs,by rw [(sfl_some hf).2]⟩) ht
    · exact h
  · intro h
    exact ⟨.inr h,c7 x h⟩
 have hcode:∀ f ∈ (kknown (knat m.kind) v).filterMap (sfl m),∃ s ∈ kknown (knat m.kind) v,s.tag=f.tag∧(setc (nmUse (ktix (kknown (knat m.kind) v) f.tag)) f.ty f.num f.text.data.toList)=(m.val (six s),0):=fun f hf => by
  obtain ⟨s,hs,hsf⟩:=List.mem_filterMap.1 hf
  obtain ⟨hn,rfl⟩:=sfl_some hsf
  obtain ⟨s1,s2,s3,_⟩:=hko.2 s hs
  refine ⟨s,hs,rfl,?_⟩
  rw [ktix_of hko hs]
  have hm:=mmay_zero c4 s hs
  have hnn:(m.val (six s)).nothing=false:=by
   cases e:(m.val (six s)).nothing with
   | false => rfl
   | true => exact absurd (field_pair.2 ((field_zero hm).2 e)) hn
  have:=setc_field hm hnn (hg.1 _ s1)
  rw [m.val_use,← s2] at this
  rw [← s2]
  exact this
 have hw0:=mwiths_zero (l:=kknown (knat m.kind) v) ((kknown (knat m.kind) v).filterMap (sfl m)) { m0 with kind:=(knat m.kind:Int) } fun f hf => by
  obtain ⟨s,_,_,e⟩:=hcode f hf
  rw [e]
 obtain ⟨g1,g2,g3,g4⟩:=mwiths_ok hko _ { m0 with kind:=(knat m.kind:Int) } (known_rise m hko) (fun f hf => by
  obtain ⟨s,hs,e,_⟩:=hcode f hf
  exact ⟨s,hs,e⟩) hw0
 have hM:{ (mwiths (kknown (knat m.kind) v) { m0 with kind:=(knat m.kind:Int) } ((kknown (knat m.kind) v).filterMap (sfl m))).1 with rest:=m.rest }=m:=by
  refine Mp.ext_val (g1.trans hkn) rfl fun i hi => ?_
  show (mwiths (kknown (knat m.kind) v) { m0 with kind:=(knat m.kind:Int) } ((kknown (knat m.kind) v).filterMap (sfl m))).1.val i=m.val i
  by_cases he:∃ f ∈ (kknown (knat m.kind) v).filterMap (sfl m),ktix (kknown (knat m.kind) v) f.tag=i
  · obtain ⟨f,hf,e⟩:=he
    obtain ⟨s,hs,e1,e2⟩:=hcode f hf
    have:=(g4 f hf).1
    rw [e2] at this
    rw [← e,this,← e1,ktix_of hko hs]
  · rw [g3 i hi fun f hf e => he ⟨f,hf,e⟩]
    show m0.val i=m.val i
    refine (nothing_val m i hi ?_).symm
    by_cases hk:∃ s ∈ kknown (knat m.kind) v,six s=i
    · obtain ⟨s,hs,e⟩:=hk
      rw [← e]
      refine (field_zero (mmay_zero c4 s hs)).1 (field_pair.1 (Classical.byContradiction fun hn => he ⟨⟨s.tag,if s.use≤2 then 0 else 1,(m.val (six s)).field.1,txt (m.val (six s)).field.2,.nil⟩,List.mem_filterMap.2 ⟨s,hs,?_⟩,?_⟩))
      · unfold sfl;rw [if_neg hn]
      · rw [← e];exact ktix_of hko hs
    · exact mstray_no hko c3 hi fun s hs e => hk ⟨s,hs,e⟩
 unfold mread
 rw [htrue,hfalse,if_neg (by simpa using hw0)]
 rw [hM,if_neg (by simpa using hc)]
theorem pkrows_len2 {l:List Rw}:∀ {a:List UInt8},a.length≤6000→(∀ x ∈ l,rwchk echk x=0∧x.2 < 18446744073709551616)→(pkrows a l).length≤6030 * l.length:=by
 induction l with
 | nil => intro a _ _;simp [pkrows]
 | cons r m ih =>
   intro a ha h
   obtain ⟨h1,h2⟩:=h r List.mem_cons_self
   have h3:=dkey_len2 (rwchk_d h1)
   have h4:=ih (a:=dkey r.1) h3 fun x hx => h x (List.mem_cons_of_mem _ hx)
   have h5:=(pcom_le a (dkey r.1)).2
   rw [pkrows,List.length_append,List.length_append,List.length_cons,pone,List.length_append,List.length_append,List.length_drop,vput_length,vput_length,vput_length]
   have:=vsz_le10 (n:=pcom a (dkey r.1)) (by omega)
   have:=vsz_le10 (n:=(dkey r.1).length - pcom a (dkey r.1)) (by omega)
   have:=vsz_le10 h2
   omega
theorem field_len {v:Mv} (hm:v.may=0) (hg:v.good):v.field.1 < 18446744073709551616∧v.field.2.length≤2000000:=by
 cases v with
 | num n => exact ⟨hg,by simp [Mv.field]⟩
 | flag b => cases b <;> simp [Mv.field]
 | sgn z => exact ⟨zmap_64 hg,by simp [Mv.field]⟩
 | word s =>
   have:=uchk_len (l:=s) hm
   exact ⟨by simp [Mv.field],by simp only [Mv.field];omega⟩
 | of d =>
   by_cases h:d=[]
   · simp [Mv.field,h]
   · simp only [Mv.may,if_neg h] at hm
     have:=dkey_len2 hm
     exact ⟨by simp [Mv.field],by simp only [Mv.field,if_neg h];omega⟩
 | rows t =>
   by_cases h:t=[]
   · simp [Mv.field,h]
   · simp only [Mv.may] at hm
     obtain ⟨h1,h2⟩:=tchk_len hm
     have h3:=pkrows_len2 (l:=t) (a:=[]) (by simp) fun x hx => ⟨tchk_rows h2 x hx,hg x hx⟩
     refine ⟨by simp [Mv.field],?_⟩
     simp only [Mv.field,if_neg h,pkput_yes hm,pktext,List.length_append,vput_length]
     have:=vsz_le10 (n:=t.length) (by omega)
     omega
theorem known_all {m:Mp} {k v:Nat} (hm:mmay m (kknown k v)=0) (hg:m.good):(mknown m (kknown k v)).All FKd:=by
 rw [mknown,ofL_all]
 intro x hx
 obtain ⟨s,hs,hf⟩:=List.mem_filterMap.1 hx
 obtain ⟨_,rfl⟩:=sfl_some hf
 obtain ⟨s1,_,_,_,s5,_⟩:=(known_ok k v).2 s hs
 obtain ⟨h1,h2⟩:=field_len (mmay_zero hm s hs) (hg.1 _ s1)
 refine ⟨⟨by unfold In64;show s.tag < _;omega,?_,h1,?_⟩,trivial⟩
 · show InI64 (if s.use≤2 then 0 else 1)
   unfold InI64
   split <;> omega
 · show (txt _).size≤_
   rw [txt_size]
   omega
theorem mfields_ok {m:Mp} {v:Nat} (h:(mfields m v).2=0):mcheck m v=0∧((mknown m (kknown (knat m.kind) v)).app m.rest).toL.Perm (mfields m v).1.toL∧fcheck (mknown m (kknown (knat m.kind) v)) 0 0=0:=by
 unfold mfields at h ⊢
 by_cases hc:mcheck m v≠0
 · rw [if_pos hc] at h;exact absurd h hc
 rw [if_neg hc] at h ⊢
 simp only at h ⊢
 have hc0:mcheck m v=0:=by simpa using hc
 have hcr:=(mcheck_ok hc0).2.2.2.2.2.1
 have hk0:fcheck (mknown m (kknown (knat m.kind) v)) 0 0=0:=by
  refine Classical.byContradiction fun hn => ?_
  unfold fmerge at h
  rw [fbad,if_pos hn,if_pos hn] at h
  omega
 refine ⟨hc0,?_,hk0⟩
 rw [fmerge_two hk0 hcr] at h ⊢
 unfold fmrg at h ⊢
 split at h
 · rename_i hn
   rw [if_pos hn]
   simp only [toL_ofL]
   exact (ksort_perm Fl.tag _).symm
 · exact absurd h (by decide)
theorem mencode_ok {m:Mp} {v:Nat} (hg:m.good) (h:(mencode m v).2=0):mcheck m v=0∧(mencode m v).1.length≤65536∧(mfields m v).2=0∧fcheckP (mfields m v).1 0 0∧(mencode m v).1=vput (knat m.kind)++ftx (mfields m v).1∧mread (knat m.kind) (mfields m v).1 v=(m,0)∧mdecode (mencode m v).1 v=(m,0):=by
 unfold mencode at h ⊢
 by_cases h1:(mfields m v).2≠0
 · rw [if_pos h1] at h;exact absurd h h1
 rw [if_neg h1] at h ⊢
 by_cases h2:(fput (mfields m v).1).2≠0
 · rw [if_pos h2] at h;omega
 rw [if_neg h2] at h ⊢
 by_cases h3:65536 < (vput (knat m.kind)++(fput (mfields m v).1).1).length
 · rw [if_pos h3] at h;exact absurd h (by decide)
 rw [if_neg h3]
 obtain ⟨f1,f2,f3⟩:=mfields_ok (by simpa using h1)
 obtain ⟨c1,c2,c3,c4,c5,c6,c7⟩:=mcheck_ok f1
 have hall:(mfields m v).1.All FKd:=by
  rw [← ofL_toL (mfields m v).1]
  refine (ofL_all_perm f2).1 ?_
  rw [ofL_all]
  intro x hx
  rw [toL_app,List.mem_append] at hx
  rcases hx with hx | hx
  · refine (ofL_all _).1 ?_ x hx
    rw [ofL_toL]
    exact known_all c4 hg
  · refine (ofL_all _).1 ?_ x hx
    rw [ofL_toL]
    exact hg.2
 have hput:fcheck (mfields m v).1 0 0=0∧(ftx (mfields m v).1).length≤65536∧fput (mfields m v).1=(ftx (mfields m v).1,0):=by
  unfold fput at h2 ⊢
  by_cases e1:fcheck (mfields m v).1 0 0≠0
  · rw [if_pos e1] at h2;exact absurd e1 h2
  rw [if_neg e1] at h2 ⊢
  by_cases e2:65536 < (ftx (mfields m v).1).length
  · rw [if_pos e2] at h2;simp at h2
  rw [if_neg e2]
  exact ⟨by omega,by omega,rfl⟩
 obtain ⟨p1,p2,p3⟩:=hput
 have hP:=(fcheck_iff _ 0 0 hall (by omega)).1 p1
 have hread:=mread_of f1 hg hP f2
 rw [p3] at h3 ⊢
 simp only at h3 ⊢
 obtain ⟨k1,k2,k3⟩:=kfrom_knat c1
 refine ⟨f1,by omega,by simpa using h1,hP,trivial,hread,?_⟩
 unfold mdecode
 rw [if_neg h3,vget_put _ (by omega)]
 have hk8:kind8 (knat m.kind)=knat m.kind:=by unfold kind8;rw [if_pos k2]
 simp only [hk8]
 rw [if_neg (by simp),if_neg (by omega),← vput_length,List.drop_left,fgets_text hall p1 p2]
 simp only
 rw [if_neg (by simp),hread]
end Go.Proofs.YtgidfnhfgiehjaaGreatDoor
end

section
namespace Go.Proofs.YtgidfnhfgiehjaaGreatDoor
open Go.RowKit Go.PM
set_option maxRecDepth 100000
set_option maxHeartbeats 4000000
attribute [local go_sem ↓] Go.wp_at_zero Go.wp_at_succ
def dcat (L:List Ent) (a:Nat) (R:List Ent × Nat × Int):List Ent × Nat × Int:=if R.2.2≠0 then ([],0,R.2.2) else (L++R.1,a+R.2.1,0)
theorem dloop_err:∀ (n:Nat) (p:Option (List UInt8)) (s:List UInt8),(dloop echk n p s).2.2≠0→dloop echk n p s=([],0,(dloop echk n p s).2.2)
 | 0,p,s,h => absurd rfl h
 | n+1,p,s,h => by
   rw [dloop] at h ⊢
   split
   · rfl
   · split
     · rfl
     · split
       · rfl
       · rename_i h1 h2 h3
         rw [if_neg h1,if_neg h2,if_neg h3] at h
         exact absurd rfl h
theorem dcat_nil (n:Nat) (p:Option (List UInt8)) (s:List UInt8):dloop echk n p s=dcat [] 0 (dloop echk n p s):=by
 unfold dcat
 by_cases h:(dloop echk n p s).2.2≠0
 · rw [if_pos h]
   exact dloop_err n p s h
 · rw [if_neg h,List.nil_append,Nat.zero_add]
   have h2:(dloop echk n p s).2.2=0:=by omega
   rw [← h2]
theorem dcat_err (L:List Ent) (a:Nat) (E:Int) (h:E≠0):dcat L a ([],0,E)=([],0,E):=by
 unfold dcat
 rw [if_pos h]
theorem dcat_end (L:List Ent) (a:Nat):dcat L a ([],0,0)=(L,a,0):=by
 unfold dcat
 rw [if_neg (by simp),List.append_nil,Nat.add_zero]
theorem dcat_two (L M:List Ent) (a m:Nat) (R:List Ent × Nat × Int):dcat L a (dcat M m R)=dcat (L++M) (a+m) R:=by
 unfold dcat
 by_cases h:R.2.2≠0
 · rw [if_pos h,if_pos h,if_pos h]
 · rw [if_neg h,if_neg h,if_neg (by simp),List.append_assoc,Nat.add_assoc]
theorem dloop_step (n:Nat) (p:Option (List UInt8)) (s:List UInt8):dloop echk (n+1) p s=if (enx echk s).2.2≠0 then ([],0,(enx echk s).2.2) else if dbehO p (enx echk s).1.1≠0 then ([],0,dbehO p (enx echk s).1.1)
 else dcat [(enx echk s).1] (enx echk s).2.1 (dloop echk n (some (enx echk s).1.1) (s.drop (enx echk s).2.1)):=by
 rw [dloop]
 rfl
theorem pk_app (L:List Ent) (e:Ent):pk (L++[e]) (L.length+1)=some e.1:=by
 rw [pk_succ _ _ (by simp)]
 simp
def SlN (B:Nat) (w:World) (v:Value) (l:List Ent):Prop:=∃ A c,v=.slice A l.length c∧Rd w A (ents l)∧l.length≤c∧∀ b off,A=some ⟨b,off,none⟩→B≤b
def DNextEnd (w:World) (b:Nat) (s:ByteArray) (k:Nat) (e:Ending) (w':World):Prop :=
 ∃ (k':Nat) (v:Value),e=.returned (.tuple #[v,.int .i64 (dnext echk (s.data.toList.drop k)).2.2])∧SlN w.heap.size w' v (dnext echk (s.data.toList.drop k)).1∧Cur w' b s k'∧((dnext echk (s.data.toList.drop k)).2.2=0→k'=k+(dnext echk (s.data.toList.drop k)).2.1)∧w.grownBy w' (some b)
theorem sln_nil (B:Nat) (w:World):SlN B w (.slice none 0 0) []:=⟨none,0,rfl,.inl rfl,Nat.le_refl _,fun _ _ e => by cases e⟩
def DnAt (wM:World) (b:Nat) (s:ByteArray) (k1 n:Nat) (D:List Ent × Nat × Int) (i:Nat) (out:Value) (wr:World):Prop :=
 ∃ (L:List Ent) (a:Nat),L.length=i∧wr.ownsRow wM.heap.size 132 2 out i (ents L)∧Cur wr b s (k1+a)∧D=dcat L a (dloop echk (n - i) (pk L i) (s.data.toList.drop (k1+a)))∧wM.grownBy wr (some b)
theorem dnext_any (W0:World) (hT:Tabs W0) (b:Nat) (s:ByteArray) (k:Nat) (w:World) (h0:Below W0.heap.size W0 w) (hWb:W0.heap.size≤b) (h:Cur w b s k) :
 Calls Tryz.prog 179 #[.pointer (some ⟨b,0,none⟩)] w (DNextEnd w b s k):=by
 have hbl:=h.1.lt
 have HN:=Lib.hid (next_any b s k w h)
 have HT:=Lib.hid hT
 have H0:=Lib.hid h0
 obtain ⟨i0,hi0,hz0,hz1,hz2⟩:=info_parts info_ent
 clear h h0 hT
 obtain ⟨X,hX⟩:∃ X,X=dnext echk (s.data.toList.drop k):=⟨_,rfl⟩
 have HEND:Hid (∀ (k':Nat) (v:Value) (w':World),SlN w.heap.size w' v X.1→Cur w' b s k'→(X.2.2=0→k'=k+X.2.1)→w.grownBy w' (some b)→DNextEnd w b s k (.returned (.tuple #[v,.int .i64 X.2.2])) w'):=fun k' v w' h1 h2 h3 h4 => by
  unfold DNextEnd
  rw [← hX]
  exact ⟨k',v,rfl,h1,h2,h3,h4⟩
 unfold dnext at hX
 by_cases hv:(vget (s.data.toList.drop k)).2.2=0
 · rw [if_neg (by rw [hv];simp)] at hX
   obtain ⟨v1,v2,v3,v4,v5⟩:=vget_ok hv
   have HN2:Hid (Calls Tryz.prog 174 #[.pointer (some ⟨b,0,none⟩)] w fun e w' => e=.returned (.tuple #[.int .u64 ((vget (s.data.toList.drop k)).1:Int),.int .i64 0])∧Cur w' b s (k+(vget (s.data.toList.drop k)).2.1)∧w.grownBy w' (some b)):=by
    have:=HN.out
    rw [hv] at this
    exact this
   have hdd:∀ m:Nat,((s.data.toList.drop k).drop m)=s.data.toList.drop (k+m):=fun m => by rw [List.drop_drop]
   rw [hdd] at hX
   have hn64:(vget (s.data.toList.drop k)).1 < 18446744073709551616:=by omega
   clear HN hv v5 v1 v2 v3 v4 hdd
   generalize (vget (s.data.toList.drop k)).1=n at *
   generalize hmm:(vget (s.data.toList.drop k)).2.1=m at *
   clear hmm
   have HM:=Lib.hid (fun x:World => many_any n x)
   by_cases hm:dmany n=0
   · rw [if_neg (by rw [hm];simp)] at hX
     rw [hm] at HM
     have hn16:n≤16:=by
      unfold dmany at hm
      by_cases h0:n=0
      · omega
      by_cases h1:16 < n
      · rw [if_neg h0,if_pos h1] at hm;exact absurd hm (by decide)
      omega
     clear hm hn64
     generalize hD:dloop echk n none (s.data.toList.drop (k+m))=D at hX
     have HEN2:Hid (∀ (L:List Ent) (a:Nat) (v:Value) (w':World),D=(L,a,0)→SlN w.heap.size w' v L→Cur w' b s (k+m+a)→w.grownBy w' (some b)→DNextEnd w b s k (.returned (.tuple #[v,.int .i64 0])) w'):=fun L a v w' hd hs hc hg => by
      rw [hd,if_neg (by simp)] at hX
      have:=HEND.out (k+m+a) v w' (by rw [hX];exact hs) hc (fun _ => by rw [hX];simp only;omega) hg
      rw [hX] at this
      exact this
     have HEN3:Hid (∀ (E:Int) (k':Nat) (w':World),E≠0→D=([],0,E)→Cur w' b s k'→w.grownBy w' (some b)→DNextEnd w b s k (.returned (.tuple #[.slice none 0 0,.int .i64 E])) w'):=fun E k' w' hE hd hc hg => by
      rw [hd,if_pos hE] at hX
      have:=HEND.out k' (.slice none 0 0) w' (by rw [hX];exact sln_nil _ w') hc (fun h => by rw [hX] at h;exact absurd h hE) hg
      rw [hX] at this
      exact this
     clear hX HEND
     have HD:Hid (D=dcat [] 0 (dloop echk (n - 0) (pk [] 0) (s.data.toList.drop (k+m+0)))):=by
      show _=_
      rw [← hD]
      exact dcat_nil n none _
     clear hD
     have wn:IntKind.i64.wrap (n:Int)=(n:Int):=by rw [IntKind.wrap_i64];omega
     go_enter Tryz.func179,Tryz.ntmps179
     go_wp2_with fail
     refine HN2.out.mono ?_
     rintro e w1 ⟨rfl,hc1,hg1⟩
     have HC1:=Lib.hid hc1
     have HG1:=Lib.hid hg1
     clear hc1 hg1 HN2
     go_wp2_with fail
     refine (HM.out w1).mono ?_
     rintro e w2 ⟨rfl,rfl⟩
     obtain ⟨wM,hmk,hown,hgM⟩:=run_make_own (P:=Tryz.prog) w2 w2.heap.size 24 132 i0 zent 2 Tryz.underlying24 hi0 hz0 hz1 .i64 .u64 n (by rw [hz2];omega) (by unfold maxLen;omega) (Nat.le_refl _)
     have hbw2:b < w2.heap.size:=HC1.out.1.lt
     have hS0:DnAt w2 b s (k+m) n D 0 (.slice (some ⟨w2.heap.size,0,none⟩) 0 n) wM :=
      ⟨[],0,rfl,hown,⟨HC1.out.1.step hgM (by simp),HC1.out.2⟩,HD.out,grown_of_below (below_of_grown hgM) _⟩
     have HS0:=Lib.hid hS0
     clear hown hgM hS0 HM
     go_wp2_with fail
     clear hmk
     go_loopg [7,29] n (fun gk out vi wr => ∃ i:Nat,i≤n∧n - i≤gk∧vi=.int .i64 (i:Int)∧Hid (DnAt w2 b s (k+m) n D i out wr))
     case atStart => exact ⟨0,Nat.zero_le _,by omega,rfl,HS0⟩
     case round =>
      obtain ⟨i,hi,hgk,rfl,HS⟩:=hrel
      obtain ⟨L,a,hLi,hown,hcur,hd,hg⟩:=HS.out
      have hbase:=(below_of_row (B:=W0.heap.size) HG1.out hWb (H0.out.size))
      have hW0r:Below W0.heap.size W0 wr:=(H0.out.trans hbase).trans (below_of_row hg hWb (Nat.le_trans H0.out.size HG1.out.size))
      have hgw:w.grownBy wr (some b):=grown_trans HG1.out hg fun x e _ => e
      obtain ⟨A1,c1,hA1,hrd,hlc,hfr⟩:=Rd.own hown
      by_cases hlt:i < n
      · obtain ⟨r,hr⟩:∃ r,n - i=r+1:=⟨n - i - 1,by omega⟩
        rw [hr,dloop_step] at hd
        have HEX:=Lib.hid (enext_any W0 HT.out b s (k+m+a) wr hW0r hWb hcur)
        have hsz0:=hg.size
        unfold ENextEnd at HEX
        have hdd:∀ q:Nat,((s.data.toList.drop (k+m+a)).drop q)=s.data.toList.drop (k+m+(a+q)):=fun q => by rw [List.drop_drop,Nat.add_assoc]
        rw [hdd] at hd
        generalize enx echk (s.data.toList.drop (k+m+a))=X2 at *
        obtain ⟨⟨x0,x1⟩,q,E⟩:=X2
        simp only at hd HEX
        subst hA1
        have HD2:=Lib.hid hd
        have HOWN:=Lib.hid hown
        have HRD:=Lib.hid hrd
        have HG:=Lib.hid hg
        have HGW:=Lib.hid hgw
        clear hd hown hrd hg hgw hcur hW0r hbase HS HS0 HD hdd hfr
        by_cases hE:E=0
        · subst hE
          have hd:=HD2.out
          rw [if_neg (by simp)] at hd
          have HD3:=Lib.hid hd
          clear hd HD2
          go_wp2_with fail
          refine HEX.out.mono ?_
          rintro e w3 ⟨k3,rfl,hc3,hk3,hg3⟩
          have hk3':k3=k+m+(a+q):=by have:=hk3 trivial;omega
          subst hk3'
          have hx3:=BlkAt.made w3 132 #[.string (txt x0),.string (txt x1)]
          have hbo:=ba (a:=w3) b0 (.cells #[.string (txt x0),.string (txt x1)] 132)
          have hown4:=own_below (own_far HOWN.out hg3 hbw2) hbo
          have hc4:Cur (w3.alloc (.cells #[.string (txt x0),.string (txt x1)] 132)) b s (k+m+(a+q)):=⟨hc3.1.more _,hc3.2⟩
          have hg4:w2.grownBy (w3.alloc (.cells #[.string (txt x0),.string (txt x1)] 132)) (some b):=grown_more (grown_trans HG.out hg3 fun x e _ => e) _
          have hgw4:w.grownBy (w3.alloc (.cells #[.string (txt x0),.string (txt x1)] 132)) (some b):=grown_more (grown_trans HGW.out hg3 fun x e _ => e) _
          have hsz4:=hg4.size
          have HX3:=Lib.hid hx3
          have HOWN4:=Lib.hid hown4
          have HC4:=Lib.hid hc4
          have HG4:=Lib.hid hg4
          have HGW4:=Lib.hid hgw4
          have e0:=hx3.cell 0
          have e1:=hx3.cell 1
          simp at e0 e1
          have hlw3:=hx3.lt
          clear hx3 hbo hown4 hc4 hg4 hgw4 hc3 hg3 hk3 HEX HOWN HRD HG HGW
          have HAPP:Hid (∀ (w5:World),Below (w3.alloc (.cells #[.string (txt x0),.string (txt x1)] 132)).heap.size (w3.alloc (.cells #[.string (txt x0),.string (txt x1)] 132)) w5→dbehO (pk L i) x0=0→∃ (c':Nat) (A':Option Addr) (w':World),(Builtin.append_ #[24,24] 24 #[.slice A1 i c1,.slice (some ⟨w5.heap.size,0,none⟩) 1 1]).run Tryz.prog (w5.alloc (.cells #[.string (txt x0),.string (txt x1)] 132))=.ok (.slice A' (i+1) c') w'∧DnAt w2 b s (k+m) n D (i+1) (.slice A' (i+1) c') w'):=fun w5 hb5 hbh => by
           have hbo:=ba hb5 (.cells #[.string (txt x0),.string (txt x1)] 132)
           have hy:=World.news_of_block (cs:=#[.string (txt x0),.string (txt x1)]) (t:=132) (fr:=(0,0)) (heap_alloc_new w5 (.cells #[.string (txt x0),.string (txt x1)] 132))
           have hrdn:Rd (w5.alloc (.cells #[.string (txt x0),.string (txt x1)] 132)) (some ⟨w5.heap.size,0,none⟩) (ents [(x0,x1)]):=by
            refine .inr ⟨_,_,rfl,by simp,fun j u hj => ?_⟩
            have:=hy j u hj
            rwa [add_at,← Nat.zero_add j] at this
           have hown5:=own_below HOWN4.out hbo
           have hszb:=hbo.size
           subst hLi
           obtain ⟨A2,c2,w6,hrun,hown6,hgr,hat⟩:=eapp_run 24 24 132 i0 Tryz.underlying24 hi0 hz0 hz1 hz2 (d:=1) hown5 hrdn (by simp only [List.length_singleton];omega) (by omega)
           have hfar:∀ g,(Value.slice A1 L.length c1).ownBlock=some g→w2.heap.size≤g:=fun g h => (hown5.lt g h).1
           have hgg:w2.grownBy w6 (some b):=by
            have h1:w2.grownBy (w5.alloc (.cells #[.string (txt x0),.string (txt x1)] 132)) (some b):=grown_trans HG4.out (grown_of_below hbo (some b)) fun x e _ => e
            exact grown_trans h1 hgr fun x e hx => by have:=hfar x e;omega
           refine ⟨c2,A2,w6,hrun,L++[(x0,x1)],a+q,by simp,hown6,⟨(HC4.out.1.below hbo HC4.out.1.lt).step hgr ?_,HC4.out.2⟩,?_,hgg⟩
           · intro e
             have:=hfar b e.symm
             omega
           · have hd:=HD3.out
             rw [if_neg (by rw [hbh];simp),dcat_two] at hd
             rw [hd,pk_app,show n - (L.length+1)=r by omega]
          have hgen5:∀ (w5:World),Below (w3.alloc (.cells #[.string (txt x0),.string (txt x1)] 132)).heap.size (w3.alloc (.cells #[.string (txt x0),.string (txt x1)] 132)) w5→Cur w5 b s (k+m+(a+q))∧w.grownBy w5 (some b):=fun w5 hb => ⟨⟨HC4.out.1.below hb HC4.out.1.lt,HC4.out.2⟩,grown_trans HGW4.out (grown_of_below hb (some b)) fun x e _ => e⟩
          have HGEN:=Lib.hid hgen5
          clear hgen5
          by_cases hi0:i=0
          · have hni:decide ((0:Int) < (i:Int))=false:=decide_eq_false (by omega)
            have hni2:decide (0 < i)=false:=decide_eq_false (by omega)
            obtain ⟨c',A',w',hrun,hN⟩:=HAPP.out _ b0 (by rw [hi0,pk_zero];rfl)
            simp only [World.size_alloc] at hrun
            have HRUN:=Lib.hid hrun
            have HNX:=Lib.hid hN
            clear hrun hN HAPP HD3 hi0
            go_wp2_with (at_builtin;(refine wpList_append_run rfl _ _ _ _ rfl _ _ _ rfl rfl HRUN.out ?_))
            go_roundg (n - (i+1))
            case measure => omega
            case rel => exact ⟨i+1,by omega,Nat.le_refl _,by go_num,HNX⟩
          · obtain ⟨j,rfl⟩:∃ j,i=j+1:=⟨i - 1,by omega⟩
            have hji:((j+1:Nat):Int) - 1=(j:Int):=by omega
            have hjl:j < L.length:=by omega
            have hj1:(j:Int) < ((j+1:Nat):Int):=by omega
            have hj2:(0:Int) < ((j+1:Nat):Int):=by omega
            go_wp2_with fail
            generalize hw4:w3.alloc (.cells #[.string (txt x0),.string (txt x1)] 132)=w4 at *
            generalize hp4:w3.heap.size=p4 at *
            clear hw4 hp4
            have hrd5:=Rd.own HOWN4.out
            obtain ⟨A9,c9,hv9,hrd9,_,_⟩:=hrd5
            injection hv9 with f1 f2 f3
            subst f1 f3
            obtain ⟨g,off,hAg,hgl,d0,_⟩:=hrd9.ent hjl
            subst hAg
            have hpk:pk L (j+1)=some (L[j]).1:=pk_succ L j hjl
            rw [hpk] at HD3 HAPP
            generalize L[j]=y at *
            obtain ⟨y0,y1⟩:=y
            simp only at d0 HD3 HAPP
            obtain ⟨B,hBd⟩:∃ B,B=dbeh y0 x0:=⟨_,rfl⟩
            have HBH:Hid (∀ n:BelW w4,Calls Tryz.prog 183 #[.string (txt y0),.string (txt x0)] n.wld fun e w' => e=.returned (.int .i64 B)∧Below n.wld.heap.size n.wld w'):=fun n => (behind_any (txt y0) (txt x0) n.wld).mono fun e w' ⟨h1,h2⟩ => ⟨by rw [h1,hBd];rfl,by rw [h2];exact b0⟩
            have n0:∀ n:BelW w4,n.wld.cell? ⟨g,off+j * 2,none⟩=some (.string (txt y0)):=fun n => (World.cell?_of_block (a:=⟨g,off+j * 2,none⟩) (n.bel.block g hgl)).trans d0
            have n1:∀ n:BelW w4,n.wld.cell? ⟨p4,0,none⟩=some (.string (txt x0)):=fun n => (HX3.out.below n.bel HX3.out.lt).cell 0
            have HAP2:Hid (B=0→∀ (w5:World),Below w4.heap.size w4 w5→_):=fun hB w5 hb5 => HAPP.out w5 hb5 (by rw [← hB,hBd];rfl)
            have HER:Hid (B≠0→D=([],0,B)):=fun hB => by
             have hd:=HD3.out
             change D=dcat L a (if dbeh y0 x0≠0 then ([],0,dbeh y0 x0) else _) at hd
             rw [← hBd,if_pos hB,dcat_err L a B hB] at hd
             exact hd
            clear d0 hpk hrd9 HD3 HAPP hBd
            by_cases hB:B=0
            · have HAP3:=Lib.hid (HAP2.out hB)
              subst hB
              clear HAP2 HER
              refine wp_region_below_lit (by kernel_rfl) (by kernel_rfl) ?_
              repeat (first | go_big_quiet_skip | (go_big_quiet_want;go_big_quiet_op;first | go_big_quiet_on | (apply Exists.intro;refine ⟨fun nq => ?_,?_⟩;(go_at_call 183;exact below_of (HBH.out _));go_big_quiet_on)))
              refine wpQuiet_nil ?_
              intro wq hnq
              obtain ⟨nq,rfl⟩:=hnq
              have hq:=nq.bel
              generalize nq.wld=wq at hq ⊢
              clear nq
              obtain ⟨c',A',w',hrun,hN⟩:=HAP3.out _ hq
              have HRUN:=Lib.hid hrun
              have HNX:=Lib.hid hN
              have u0:=(HX3.out.below hq HX3.out.lt).cell 0
              have u1:=(HX3.out.below hq HX3.out.lt).cell 1
              simp at u0 u1
              clear hrun hN HAP3 n0 n1 HBH hq
              go_wp2_with (at_builtin;(refine wpList_append_run rfl _ _ _ _ rfl _ _ _ rfl rfl HRUN.out ?_))
              go_roundg (n - (j+1+1))
              case measure => omega
              case rel => exact ⟨j+1+1,by omega,Nat.le_refl _,by go_num,HNX⟩
            · have hBi:(B != 0)=true:=by rw [bne_iff_ne];exact hB
              have HE:Hid (∀ w',Below w4.heap.size w4 w'→DNextEnd w b s k (.returned (.tuple #[.slice none 0 0,.int .i64 B])) w'):=fun w' hb => HEN3.out B _ w' hB (HER.out hB) (HGEN.out w' hb).1 (HGEN.out w' hb).2
              clear HAP2 HER hB
              refine wp_region_below_lit (by kernel_rfl) (by kernel_rfl) ?_
              repeat (first | go_big_quiet_skip | (go_big_quiet_want;go_big_quiet_op;first | go_big_quiet_on | (apply Exists.intro;refine ⟨fun nq => ?_,?_⟩;(go_at_call 183;exact below_of (HBH.out _));go_big_quiet_on)))
              refine wpQuiet_nil ?_
              intro wq hnq
              obtain ⟨nq,rfl⟩:=hnq
              have hq:=nq.bel
              generalize nq.wld=wq at hq ⊢
              clear nq
              have HE2:=Lib.hid (HE.out _ hq)
              clear hq n0 n1 HBH HE
              go_wp2_with fail
              go_ret2
              exact HE2.out
        · have hEi:(E != 0)=true:=by rw [bne_iff_ne];exact hE
          have hd:=HD2.out
          rw [if_pos hE,dcat_err L a E hE] at hd
          have HE:Hid (∀ k' w',Cur w' b s k'→w.grownBy w' (some b)→DNextEnd w b s k (.returned (.tuple #[.slice none 0 0,.int .i64 E])) w'):=fun k' w' hc hg => HEN3.out E k' w' hE hd hc hg
          clear hd HD2 hE
          go_wp2_with fail
          refine HEX.out.mono ?_
          rintro e w3 ⟨k3,rfl,hc3,hk3,hg3⟩
          have HE2:=Lib.hid (HE.out k3 _ ⟨hc3.1.more (.cells #[.string (txt x0),.string (txt x1)] 132),hc3.2⟩ (grown_more (grown_trans HGW.out hg3 fun x e _ => e) _))
          clear hc3 hk3 hg3 HEX HE
          go_wp2_with fail
          go_ret2
          exact HE2.out
      · obtain rfl:i=n:=by omega
        rw [Nat.sub_self,dloop,dcat_end] at hd
        subst hA1
        have hL2:SlN w.heap.size wr (.slice A1 i c1) L:=⟨A1,c1,by rw [hLi],hrd,by rw [hLi];exact hlc,fun b' off' e => Nat.le_trans HG1.out.size (hfr b' off' e).2⟩
        have HE:=Lib.hid (HEN2.out L a (.slice A1 i c1) wr hd hL2 hcur hgw)
        clear hd hown hrd hL2 hg hgw hcur hW0r hbase HS HS0 HD HEN2 HEN3 hLi hfr
        go_wp2_with fail
        go_ret2
        exact HE.out
   · rw [if_pos hm] at hX
     have hmi:(dmany n != 0)=true:=by rw [bne_iff_ne];exact hm
     have HE:Hid (∀ k' w',Cur w' b s k'→w.grownBy w' (some b)→DNextEnd w b s k (.returned (.tuple #[.slice none 0 0,.int .i64 (dmany n)])) w'):=fun k' w' hc hg => by
      have:=HEND.out k' (.slice none 0 0) w' (by rw [hX];exact sln_nil _ w') hc (fun h => by rw [hX] at h;exact absurd h hm) hg
      rw [hX] at this
      exact this
     generalize dmany n=E at *
     clear hm hX HEND
     go_enter Tryz.func179,Tryz.ntmps179
     go_wp2_with fail
     refine HN2.out.mono ?_
     rintro e w1 ⟨rfl,hc1,hg1⟩
     have HE1:=Lib.hid (HE.out _ w1 hc1 hg1)
     clear hc1 hg1
     go_wp2_with fail
     refine (HM.out _).mono ?_
     rintro e w2 ⟨rfl,rfl⟩
     go_wp2_with fail
     go_ret2
     exact HE1.out
 · have hve:=vget_err hv
   rw [if_pos hv] at hX
   have hvi:(((vget (s.data.toList.drop k)).2.2:Int) != 0)=true:=by rw [bne_iff_ne];omega
   have HE:Hid (∀ k' w',Cur w' b s k'→w.grownBy w' (some b)→DNextEnd w b s k (.returned (.tuple #[.slice none 0 0,.int .i64 ((vget (s.data.toList.drop k)).2.2:Int)])) w'):=fun k' w' hc hg => by
    have:=HEND.out k' (.slice none 0 0) w' (by rw [hX];exact sln_nil _ w') hc (fun h => by rw [hX] at h;simp only at h;omega) hg
    rw [hX] at this
    exact this
   generalize (vget (s.data.toList.drop k)).2.2=G at *
   clear hve hv hX HEND
   go_enter Tryz.func179,Tryz.ntmps179
   go_wp2_with fail
   refine HN.out.mono ?_
   rintro e w1 ⟨rfl,hc1,hg1⟩
   have HE1:=Lib.hid (HE.out _ w1 hc1 hg1)
   clear hc1 hg1
   go_wp2_with fail
   go_ret2
   exact HE1.out
end Go.Proofs.YtgidfnhfgiehjaaGreatDoor
end

section
namespace Go.Proofs.YtgidfnhfgiehjaaGreatDoor
open Go.RowKit Go.PM
set_option maxRecDepth 100000
set_option maxHeartbeats 2000000
attribute [local go_sem ↓] Go.wp_at_zero Go.wp_at_succ
def DParseEnd (w:World) (s:ByteArray) (e:Ending) (w':World):Prop:=∃ v,e=.returned (.tuple #[v,.int .i64 (dparse echk s.data.toList).2])∧SlN w.heap.size w' v (dparse echk s.data.toList).1∧Below w.heap.size w w'
theorem dparse_any (s:ByteArray) (w:World) (hT:Tabs w) (hs:s.size≤9223372036854775807):Calls Tryz.prog 142 #[.string s] w (DParseEnd w s):=by
 have hb1:=ba (a:=w) b0 (.cells #[.string s,.int .i64 0] 228)
 have HN:=Lib.hid (dnext_any w hT w.heap.size s 0 (w.alloc (.cells #[.string s,.int .i64 0] 228)) hb1 (Nat.le_refl _) ⟨BlkAt.made w 228 #[.string s,.int .i64 0],Nat.zero_le _,hs⟩)
 unfold DNextEnd at HN
 rw [List.drop_zero] at HN
 have HB1:=Lib.hid hb1
 obtain ⟨Z,hZ⟩:∃ Z,Z=dparse echk s.data.toList:=⟨_,rfl⟩
 have HEND:Hid (∀ v w',SlN w.heap.size w' v Z.1→Below w.heap.size w w'→DParseEnd w s (.returned (.tuple #[v,.int .i64 Z.2])) w'):=fun v w' h1 h2 => by
  unfold DParseEnd
  rw [← hZ]
  exact ⟨v,rfl,h1,h2⟩
 unfold dparse at hZ
 rw [len_list] at hZ
 have hok:(dnext echk s.data.toList).2.2=0→(dnext echk s.data.toList).2.1≤s.size:=fun h => by have:=(dnext_ok h).1;rwa [len_list] at this
 clear hb1 hT
 generalize dnext echk s.data.toList=X at *
 obtain ⟨L,m,E⟩:=X
 simp only at HN hZ hok
 go_enter Tryz.func142,Tryz.ntmps142
 go_wp2_with fail
 refine (cur_over s w).mono ?_
 rintro e w1 ⟨rfl,rfl⟩
 by_cases hE:E=0
 · subst hE
   rw [if_neg (by simp)] at hZ
   have hm:=hok rfl
   go_wp2_with fail
   refine HN.out.mono ?_
   rintro e w2 ⟨k',v,rfl,hsl,hc,hk,hg⟩
   have hk2:k'=m:=by have:=hk trivial;omega
   subst hk2
   have HB2:=Lib.hid (bg HB1.out hg (Nat.le_refl _))
   have HSL:=Lib.hid hsl
   have HL:=Lib.hid (cur_left w.heap.size s k' w2 hc)
   clear hsl hc hk hg HN HB1 hok
   obtain ⟨A,c,rfl,_,_⟩:=HSL.out
   by_cases hlt:k' < s.size
   · rw [if_pos hlt] at hZ
     have HE:Hid (∀ w',Below w.heap.size w w'→DParseEnd w s (.returned (.tuple #[.slice none 0 0,.int .i64 10])) w'):=fun w' hb => by
      have:=HEND.out (.slice none 0 0) w' (by rw [hZ];exact sln_nil _ w') hb
      rw [hZ] at this
      exact this
     have hgt:(0:Int) < (s.size:Int) - (k':Int):=by omega
     clear hZ HEND
     go_wp2_with fail
     refine HL.out.mono ?_
     rintro e w3 ⟨rfl,hb3⟩
     have HE2:=Lib.hid (HE.out _ (bb HB2.out hb3))
     clear hb3 HE
     go_wp2_with fail
     go_ret2
     exact HE2.out
   · rw [if_neg hlt] at hZ
     have HE:Hid (∀ w',Below w2.heap.size w2 w'→DParseEnd w s (.returned (.tuple #[.slice A L.length c,.int .i64 0])) w'):=fun w' hb => by
      obtain ⟨A',c',h1,h2,h3,h4⟩:=HSL.out
      have:=HEND.out (.slice A L.length c) w' (by rw [hZ];exact ⟨A',c',h1,h2.below hb,h3,fun b off e => by have:=h4 b off e;rw [World.size_alloc] at this;omega⟩) (bb HB2.out hb)
      rw [hZ] at this
      exact this
     have hgt:¬ (0:Int) < (s.size:Int) - (k':Int):=by omega
     clear hZ HEND
     go_wp2_with fail
     refine HL.out.mono ?_
     rintro e w3 ⟨rfl,hb3⟩
     have HE2:=Lib.hid (HE.out _ hb3)
     clear hb3 HE
     go_wp2_with fail
     go_ret2
     exact HE2.out
 · rw [if_pos hE] at hZ
   have hEi:(E != 0)=true:=by rw [bne_iff_ne];exact hE
   have HE:Hid (∀ w',Below w.heap.size w w'→DParseEnd w s (.returned (.tuple #[.slice none 0 0,.int .i64 E])) w'):=fun w' hb => by
    have:=HEND.out (.slice none 0 0) w' (by rw [hZ];exact sln_nil _ w') hb
    rw [hZ] at this
    exact this
   clear hZ HEND hE hok
   go_wp2_with fail
   refine HN.out.mono ?_
   rintro e w2 ⟨k',v,rfl,hsl,hc,hk,hg⟩
   have HB2:=Lib.hid (HE.out _ (bg HB1.out hg (Nat.le_refl _)))
   obtain ⟨A,c,rfl,_,_⟩:=hsl
   clear hc hk hg HN HB1 HE
   go_wp2_with fail
   go_ret2
   exact HB2.out
end Go.Proofs.YtgidfnhfgiehjaaGreatDoor
end
