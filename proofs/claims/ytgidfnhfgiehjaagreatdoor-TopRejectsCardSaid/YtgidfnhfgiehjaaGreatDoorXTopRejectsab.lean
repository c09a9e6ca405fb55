/-
  Texts of the proof, joined: PlainPack PlainKinds Mem Sl Row Buf Fld. Conditions: as each names.
-/
import Derived.Test.YtgidfnhfgiehjaaGreatDoorXTopRejectsaa
import Derived.WalkKit
import Derived.Laws.OwnMore
import Derived.Deep.Draws
import Derived.Laws.AppendOwn
import Derived.OwnWalk
import Derived.Laws.IdiomStrings
import Derived.Deep.AppendSrc
import Derived.Lib.FrozenHead
import Derived.Lib.AppendStr
import Derived.Laws.BytesArg

section
namespace Go.PM
open Go.Lib (compareBytes)
abbrev Rw:=List Ent × Nat
section
variable (chk:List UInt8→List UInt8→Int)
def rwchk (r:Rw):Int:=if dchk chk r.1≠0 then dchk chk r.1 else if r.2=0 then 18 else 0
def tchk1:Option (List UInt8)→List Rw→Int
 | _,[] => 0
 | p,r :: m => if rwchk chk r≠0 then rwchk chk r else if dbehO p (dkey r.1)≠0 then dbehO p (dkey r.1) else tchk1 (some (dkey r.1)) m
def tchk (l:List Rw):Int:=if 256 < l.length then 13 else tchk1 chk none l
def pkrows:List UInt8→List Rw→List UInt8
 | _,[] => []
 | a,r :: m => pone a (dkey r.1)++(vput r.2++pkrows (dkey r.1) m)
def pktext (l:List Rw):List UInt8:=vput l.length++pkrows [] l
def pkput (l:List Rw):List UInt8 × Int:=if tchk chk l≠0 then ([],tchk chk l) else (pktext l,0)
def pkrow (key s:List UInt8):Rw × Nat × Int :=
 if (dparse chk key).2≠0 then (([],0),0,(dparse chk key).2) else if (vget s).2.2≠0 then (([],0),0,((vget s).2.2:Int))
 else if (vget s).1=0 then (([],0),0,17) else (((dparse chk key).1,(vget s).1),(vget s).2.1,0)
def pkloop:Nat→Option (List UInt8)→List UInt8→List Rw × Nat × Int
 | 0,_,_ => ([],0,0)
 | n+1,o,s =>
   if (pnx o s).2.2≠0 then ([],0,(pnx o s).2.2) else if (pkrow chk (pnx o s).1 (s.drop (pnx o s).2.1)).2.2≠0 then ([],0,(pkrow chk (pnx o s).1 (s.drop (pnx o s).2.1)).2.2)
   else if (pkloop n (some (pnx o s).1) (s.drop ((pnx o s).2.1+(pkrow chk (pnx o s).1 (s.drop (pnx o s).2.1)).2.1))).2.2≠0 then ([],0,(pkloop n (some (pnx o s).1) (s.drop ((pnx o s).2.1+(pkrow chk (pnx o s).1 (s.drop (pnx o s).2.1)).2.1))).2.2)
   else ((pkrow chk (pnx o s).1 (s.drop (pnx o s).2.1)).1 :: (pkloop n (some (pnx o s).1) (s.drop ((pnx o s).2.1+(pkrow chk (pnx o s).1 (s.drop (pnx o s).2.1)).2.1))).1,
    (pnx o s).2.1+(pkrow chk (pnx o s).1 (s.drop (pnx o s).2.1)).2.1+(pkloop n (some (pnx o s).1) (s.drop ((pnx o s).2.1+(pkrow chk (pnx o s).1 (s.drop (pnx o s).2.1)).2.1))).2.1,0)
def pknext (s:List UInt8):List Rw × Nat × Int :=
 if (vget s).2.2≠0 then ([],0,((vget s).2.2:Int)) else if 256 < (vget s).1 then ([],0,13)
 else if (pkloop chk (vget s).1 none (s.drop (vget s).2.1)).2.2≠0 then ([],0,(pkloop chk (vget s).1 none (s.drop (vget s).2.1)).2.2)
 else ((pkloop chk (vget s).1 none (s.drop (vget s).2.1)).1,(vget s).2.1+(pkloop chk (vget s).1 none (s.drop (vget s).2.1)).2.1,0)
def pkget (s:List UInt8):List Rw × Int:=if (pknext chk s).2.2≠0 then ([],(pknext chk s).2.2) else if (pknext chk s).2.1 < s.length then ([],10) else ((pknext chk s).1,0)
variable {chk}
theorem pkrow_ok {key s:List UInt8} (h:(pkrow chk key s).2.2=0):(pkrow chk key s).2.1≤s.length∧dkey (pkrow chk key s).1.1=key∧s.take (pkrow chk key s).2.1=vput (pkrow chk key s).1.2∧rwchk chk (pkrow chk key s).1=0∧(pkrow chk key s).1.2 < 18446744073709551616:=by
 unfold pkrow at *
 split at h
 · rename_i k;exact absurd h k
 rename_i k1
 rw [if_neg k1]
 split at h
 · rename_i k;simp at h;exact absurd h k
 rename_i k2
 rw [if_neg k2]
 split at h
 · exact absurd h (by decide)
 rename_i k3
 rw [if_neg k3]
 obtain ⟨a1,a2,a3,a4,a5⟩:=vget_ok (s:=s) (by omega)
 obtain ⟨d1,d2⟩:=dparse_ok (chk:=chk) (s:=key) (by omega)
 simp only
 refine ⟨by omega,d1.symm,a5.symm,?_,by omega⟩
 unfold rwchk
 rw [if_neg (by rw [d2];simp),if_neg k3]
theorem pkloop_ok:∀ (n:Nat) (o:Option (List UInt8)) (s:List UInt8),(pkloop chk n o s).2.2=0 →
 (pkloop chk n o s).2.1≤s.length∧s.take (pkloop chk n o s).2.1=pkrows (o.getD []) (pkloop chk n o s).1∧(pkloop chk n o s).1.length=n∧tchk1 chk o (pkloop chk n o s).1=0
 | 0,o,s,_ => by simp [pkloop,pkrows,tchk1]
 | n+1,o,s,h => by
   rw [pkloop] at h ⊢
   split at h
   · rename_i k;exact absurd h k
   rename_i k1
   rw [if_neg k1]
   split at h
   · rename_i k;exact absurd h k
   rename_i k2
   rw [if_neg k2]
   split at h
   · rename_i k;exact absurd h k
   rename_i k3
   rw [if_neg k3]
   obtain ⟨a1,a2,a3⟩:=pnx_ok (o:=o) (s:=s) (by omega)
   obtain ⟨b1,b2,b3,b4,b5⟩:=pkrow_ok (chk:=chk) (key:=(pnx o s).1) (s:=s.drop (pnx o s).2.1) (by omega)
   obtain ⟨c1,c2,c3,c4⟩:=pkloop_ok n (some (pnx o s).1) (s.drop ((pnx o s).2.1+(pkrow chk (pnx o s).1 (s.drop (pnx o s).2.1)).2.1)) (by omega)
   rw [List.length_drop] at b1 c1
   simp only
   refine ⟨by omega,?_,by rw [List.length_cons,c3],?_⟩
   · rw [pkrows,List.take_add,List.take_add,a2,b3,b2,c2]
     simp
   · rw [tchk1,if_neg (by omega),b2]
     have hb:dbehO o (pnx o s).1=0:=by
      cases o with
      | none => rfl
      | some a => exact dbeh_of (a3 a rfl)
     rw [if_neg (by omega)]
     exact c4
theorem pkloop_put (r:List UInt8):∀ (l:List Rw) (o:Option (List UInt8)),tchk1 chk o l=0→(∀ x ∈ l,x.2 < 18446744073709551616∧(dkey x.1).length < 18446744073709551616∧∀ e ∈ x.1,e.1.length < 18446744073709551616∧e.2.length < 18446744073709551616) →
 (∀ a,o=some a→a.length < 18446744073709551616)→pkloop chk l.length o (pkrows (o.getD []) l++r)=(l,(pkrows (o.getD []) l).length,0)
 | [],o,_,_,_ => by simp [pkloop,pkrows]
 | x :: m,o,h,hl,ho => by
   rw [tchk1] at h
   split at h
   · rename_i k;exact absurd h k
   rename_i k1
   split at h
   · rename_i k;exact absurd h k
   rename_i k2
   obtain ⟨hx1,hx2,hx3⟩:=hl x (by simp)
   have hr1:dchk chk x.1=0∧x.2≠0:=by
    unfold rwchk at k1
    by_cases hd:dchk chk x.1≠0
    · rw [if_pos hd] at k1;exact absurd hd k1
    · rw [if_neg hd] at k1
      by_cases h0:x.2=0
      · rw [if_pos h0] at k1;exact absurd (by decide) k1
      · exact ⟨by omega,h0⟩
   have e1:pkrows (o.getD []) (x :: m)++r=pone (o.getD []) (dkey x.1)++(vput x.2++(pkrows (dkey x.1) m++r)):=by simp [pkrows]
   have e2:=pnx_put o (dkey x.1) (vput x.2++(pkrows (dkey x.1) m++r)) (fun a ha => ⟨by
    subst ha
    exact dbeh_lt (by have:dbehO (some a) (dkey x.1)=dbeh a (dkey x.1):=rfl;omega),ho a ha⟩) hx2
   have e3:pkrow chk (dkey x.1) (vput x.2++(pkrows (dkey x.1) m++r))=(x,(vput x.2).length,0):=by
    have g1:=dparse_put (chk:=chk) hr1.1 hx3
    have g2:=vget_put x.2 hx1 (pkrows (dkey x.1) m++r)
    unfold pkrow
    rw [g1,g2]
    simp only
    rw [if_neg (by simp),if_neg (by simp),if_neg hr1.2,vput_length]
   have ih:=pkloop_put r m (some (dkey x.1)) h (fun y hy => hl y (by simp [hy])) (fun a ha => by injection ha with ha;rw [← ha];exact hx2)
   rw [Option.getD_some] at ih
   rw [List.length_cons,pkloop,e1,e2]
   simp only
   rw [if_neg (by simp),List.drop_left,e3]
   simp only
   rw [if_neg (by simp),← List.drop_drop,List.drop_left,List.drop_left,ih]
   simp [pkrows,Nat.add_assoc]
theorem tchk_len {l:List Rw} (h:tchk chk l=0):l.length≤256∧tchk1 chk none l=0:=by
 unfold tchk at h
 split at h
 · exact absurd h (by decide)
 · exact ⟨by omega,h⟩
theorem pknext_put (l:List Rw) (r:List UInt8) (h:tchk chk l=0) (hl:∀ x ∈ l,x.2 < 18446744073709551616∧(dkey x.1).length < 18446744073709551616∧∀ e ∈ x.1,e.1.length < 18446744073709551616∧e.2.length < 18446744073709551616) :
 pknext chk (pktext l++r)=(l,(pktext l).length,0):=by
 obtain ⟨h1,h2⟩:=tchk_len h
 have e1:pktext l++r=vput l.length++(pkrows [] l++r):=by simp [pktext]
 have e2:=vget_put l.length (by omega) (pkrows [] l++r)
 have e3:=pkloop_put r l none h2 hl (fun a ha => by cases ha)
 rw [Option.getD_none] at e3
 unfold pknext
 rw [e1,e2]
 simp only
 rw [if_neg (by simp),if_neg (by omega),← vput_length,List.drop_left,e3]
 simp [pktext]
theorem pkget_put {l:List Rw} (h:tchk chk l=0) (hl:∀ x ∈ l,x.2 < 18446744073709551616∧(dkey x.1).length < 18446744073709551616∧∀ e ∈ x.1,e.1.length < 18446744073709551616∧e.2.length < 18446744073709551616):pkget chk (pktext l)=(l,0):=by
 have:=pknext_put l [] h hl
 rw [List.append_nil] at this
 unfold pkget
 rw [this]
 simp
theorem pknext_ok {s:List UInt8} (h:(pknext chk s).2.2=0):(pknext chk s).2.1≤s.length∧s.take (pknext chk s).2.1=pktext (pknext chk s).1∧tchk chk (pknext chk s).1=0:=by
 unfold pknext at *
 split at h
 · rename_i k;simp at h;exact absurd h k
 rename_i k1
 rw [if_neg k1]
 split at h
 · exact absurd h (by decide)
 rename_i k2
 rw [if_neg k2]
 split at h
 · rename_i k;exact absurd h k
 rename_i k3
 rw [if_neg k3]
 obtain ⟨a1,a2,a3,a4,a5⟩:=vget_ok (s:=s) (by omega)
 obtain ⟨b1,b2,b3,b4⟩:=pkloop_ok (chk:=chk) (vget s).1 none (s.drop (vget s).2.1) (by omega)
 rw [List.length_drop] at b1
 rw [Option.getD_none] at b2
 simp only
 refine ⟨by omega,?_,?_⟩
 · rw [List.take_add,b2,← a5]
   unfold pktext
   rw [b3]
 · unfold tchk
   rw [b3,if_neg k2]
   exact b4
theorem pkget_ok {s:List UInt8} (h:(pkget chk s).2=0):s=pktext (pkget chk s).1∧tchk chk (pkget chk s).1=0:=by
 unfold pkget at *
 split at h
 · rename_i k;exact absurd h k
 rename_i k1
 rw [if_neg k1]
 split at h
 · exact absurd h (by decide)
 rename_i k2
 rw [if_neg k2]
 obtain ⟨a1,a2,a3⟩:=pknext_ok (chk:=chk) (s:=s) (by omega)
 simp only
 refine ⟨?_,a3⟩
 rw [← a2,List.take_of_length_le (by omega)]
end
end Go.PM
end

section
namespace Go.PM
structure Sp where
 tag:Nat
 use:Nat
 from_:Nat
 nm:List UInt8
 deriving DecidableEq
def nmAt:Nat→List UInt8
 | 0 => [97,108,108,111,119,101,100]
 | 1 => [98,97,115,101]
 | 2 => [99,104,111,115,101,110]
 | 3 => [99,111,100,101]
 | 4 => [99,111,115,116]
 | 5 => [100,101,97,100,108,105,110,101]
 | 6 => [100,101,115,99,114]
 | 7 => [100,105,103,101,115,116]
 | 8 => [101,112,111,99,104]
 | 9 => [102,108,97,103,115]
 | 10 => [105,100]
 | 11 => [108,97,103]
 | 12 => [109,97,120]
 | 13 => [109,105,110]
 | 14 => [110,97,109,101]
 | 15 => [110,111,116,101]
 | 16 => [112,114,105,111,114,105,116,121]
 | 17 => [114,101,103,105,111,110]
 | 18 => [114,101,109,97,105,110,105,110,103]
 | 19 => [114,101,116,114,121]
 | 20 => [116,97,98,108,101]
 | 21 => [119,97,110,116]
 | _ => []
def mnames:List (List UInt8):=(List.range 22).map nmAt
def kspecs:Nat→List Sp
 | 1 => [⟨1,0,1,nmAt 13⟩,⟨2,0,1,nmAt 12⟩,⟨3,3,1,nmAt 14⟩,⟨4,3,2,nmAt 17⟩,⟨5,0,3,nmAt 9⟩]
 | 2 => [⟨1,0,1,nmAt 2⟩,⟨2,3,1,nmAt 14⟩,⟨3,3,2,nmAt 17⟩]
 | 3 => [⟨1,0,1,nmAt 10⟩,⟨2,4,1,nmAt 6⟩,⟨3,0,1,nmAt 4⟩,⟨4,0,2,nmAt 16⟩,⟨5,0,3,nmAt 5⟩]
 | 4 => [⟨1,0,1,nmAt 10⟩,⟨2,1,1,nmAt 0⟩,⟨3,2,1,nmAt 18⟩,⟨4,0,2,nmAt 19⟩,⟨5,3,3,nmAt 15⟩]
 | 5 => [⟨1,0,1,nmAt 8⟩,⟨2,5,1,nmAt 20⟩,⟨3,3,2,nmAt 17⟩,⟨4,0,3,nmAt 7⟩]
 | 6 => [⟨1,0,2,nmAt 1⟩,⟨2,0,2,nmAt 8⟩,⟨3,5,2,nmAt 20⟩,⟨4,3,2,nmAt 17⟩,⟨5,0,3,nmAt 7⟩]
 | 7 => [⟨1,0,1,nmAt 8⟩,⟨2,0,3,nmAt 11⟩]
 | 8 => [⟨1,0,1,nmAt 8⟩,⟨2,0,1,nmAt 3⟩,⟨3,0,2,nmAt 21⟩,⟨4,3,3,nmAt 15⟩]
 | _ => []
def kname:Nat→List UInt8
 | 1 => [72,101,108,108,111]
 | 2 => [72,101,108,108,111,65,99,107]
 | 3 => [67,104,101,99,107,82,101,113,117,101,115,116]
 | 4 => [67,104,101,99,107,82,101,115,112,111,110,115,101]
 | 5 => [70,117,108,108,83,110,97,112,115,104,111,116]
 | 6 => [68,101,108,116,97,83,110,97,112,115,104,111,116]
 | 7 => [65,99,107]
 | 8 => [82,101,106,101,99,116]
 | _ => []
def kfrom (k:Nat):Nat:=if k=6 then 2 else if 1≤k∧k≤8 then 1 else 0
def kknown (k v:Nat):List Sp:=(kspecs k).filter fun s => decide (s.from_≤v)
def ktags (k v:Nat):List Nat:=(kknown k v).map Sp.tag
def knat (k:Int):Nat:=if 1≤k∧k≤8 then k.toNat else 0
theorem knat_of {k:Nat} (h1:1≤k) (h8:k≤8):knat (k:Int)=k:=by
 unfold knat
 rw [if_pos (by omega)]
 omega
end Go.PM
end

section
namespace Go.PM
open Go.RowKit
def In64 (n:Nat):Prop:=n < 18446744073709551616
def In63 (n:Nat):Prop:=n < 9223372036854775808
def InI64 (n:Int):Prop:=-9223372036854775808≤n∧n≤9223372036854775807
theorem In64.out {n:Nat} (h:In64 n):n < 18446744073709551616:=h
theorem In63.out {n:Nat} (h:In63 n):n < 9223372036854775808:=h
/-! ### A block known whole -/
def BlkAt (w:World) (g:Nat) (t:TypeId) (cs:Array Value):Prop:=w.heap[g]? = some (.cells cs t (0,0))
section
variable {w w':World} {g:Nat} {t:TypeId} {cs:Array Value}
theorem BlkAt.lt (h:BlkAt w g t cs):g < w.heap.size:=by
 rcases Nat.lt_or_ge g w.heap.size with hl | hl
 · exact hl
 · unfold BlkAt at h
   rw [Array.getElem?_eq_none hl] at h
   cases h
theorem BlkAt.cell (h:BlkAt w g t cs) (i:Nat):w.cell? ⟨g,i,none⟩=cs[i]?:=cell_of_row w g i cs t (0,0) h
theorem BlkAt.free (h:BlkAt w g t cs) (i:Nat):w.frozen? ⟨g,i,none⟩=false:=by
 unfold BlkAt at h
 simp [World.frozen?,h]
theorem BlkAt.made (w:World) (t:TypeId) (cs:Array Value):BlkAt (w.alloc (.cells cs t)) w.heap.size t cs:=heap_alloc_new w _
theorem BlkAt.step (h:BlkAt w g t cs) {row:Option Nat} (hb:w.grownBy w' row) (hg:some g≠row):BlkAt w' g t cs:=(hb.block g h.lt hg).trans h
theorem BlkAt.below {B:Nat} (h:BlkAt w g t cs) (hb:Below B w w') (hg:g < B):BlkAt w' g t cs:=(hb.block g hg).trans h
theorem BlkAt.drn (h:BlkAt w g t cs) (n:Nat):BlkAt (w.drewN n) g t cs:=h
theorem BlkAt.dr (h:BlkAt w g t cs):BlkAt w.drew g t cs:=h
theorem BlkAt.more (h:BlkAt w g t cs) (o:Obj):BlkAt (w.alloc o) g t cs:=(Below.heap_alloc w o g h.lt).trans h
theorem BlkAt.put (h:BlkAt w g t cs) (i:Nat) (u:Value):BlkAt (w.setCell ⟨g,i,none⟩ u) g t (cs.setIfInBounds i u):=by
 unfold BlkAt at h ⊢
 simp [World.setCell,Array.getElem?_modify,h]
theorem BlkAt.far (h:BlkAt w g t cs) {p:Addr} (hp:g≠p.block) (u:Value):BlkAt (w.setCell p u) g t cs:=(Below.heap_setCell w p u g hp).trans h
theorem BlkAt.same {cs':Array Value} (h:BlkAt w g t cs) (h':BlkAt w g t cs'):cs=cs':=by
 unfold BlkAt at h h'
 rw [h] at h'
 injection h' with h'
 injection h'
theorem BlkAt.apart {g':Nat} {t':TypeId} {cs':Array Value} (h:BlkAt w g t cs) (h':BlkAt w g' t' cs') (ht:t≠t'):g≠g':=by
 rintro rfl
 unfold BlkAt at h h'
 rw [h] at h'
 injection h' with h'
 injection h' with _ e
 exact ht e
end
/-! ### What may have turned -/
theorem grown_refl (w:World) (row:Option Nat):w.grownBy w row:=⟨rfl,rfl,rfl,Nat.le_refl _,fun _ _ _ => rfl⟩
theorem grown_of_below {w w':World} (h:Below w.heap.size w w') (row:Option Nat):w.grownBy w' row :=
 ⟨h.os,h.tape,h.output,h.size,fun k hk _ => h.block k hk⟩
theorem below_of_grown {w w':World} (h:w.grownBy w' none):Below w.heap.size w w' :=
 ⟨h.os,h.tape,h.output,h.size,fun k hk => h.block k hk (by simp)⟩
theorem below_of_row {B b:Nat} {w w':World} (h:w.grownBy w' (some b)) (hB:B≤b) (hs:B≤w.heap.size):Below B w w' :=
 ⟨h.os,h.tape,h.output,h.size,fun k hk => h.block k (by omega) (by intro e;injection e with e;omega)⟩
theorem grown_trans {a b c:World} {row row':Option Nat} (h:a.grownBy b row) (k:b.grownBy c row') (hr:∀ x,row'=some x→x < a.heap.size→row=some x):a.grownBy c row :=
 ⟨k.os.trans h.os,k.tape.trans h.tape,k.output.trans h.output,Nat.le_trans h.size k.size,
   fun i hi hne => (k.block i (Nat.lt_of_lt_of_le hi h.size) (fun e => hne (hr i e.symm hi).symm)).trans (h.block i hi hne)⟩
theorem grown_put {a w:World} {b:Nat} (h:a.grownBy w (some b)) (i:Nat) (u:Value):a.grownBy (w.setCell ⟨b,i,none⟩ u) (some b) :=
 ⟨h.os,h.tape,h.output,by simpa [World.setCell] using h.size,fun k hk hne => (Below.heap_setCell w ⟨b,i,none⟩ u k (by rintro rfl;exact hne rfl)).trans (h.block k hk hne)⟩
theorem grown_drn {a w:World} {row:Option Nat} (h:a.grownBy w row) (n:Nat):a.grownBy (w.drewN n) row:=⟨h.os,h.tape,h.output,h.size,h.block⟩
theorem grown_more {a w:World} {row:Option Nat} (h:a.grownBy w row) (o:Obj):a.grownBy (w.alloc o) row :=
 ⟨h.os,h.tape,h.output,Nat.le_trans h.size (by simp),fun k hk hne => (Below.heap_alloc w o k (Nat.lt_of_lt_of_le hk h.size)).trans (h.block k hk hne)⟩
theorem below_drewN {B:Nat} {a w:World} (h:Below B a w) (n:Nat):Below B a (w.drewN n):=⟨h.os,h.tape,h.output,h.size,h.block⟩
def bvals (l:List UInt8):List Value:=l.map fun b => .int .u8 (b.toNat:Int)
theorem bvals_at (l:List UInt8) (j:Nat) (hj:j < l.length):(bvals l)[j]? = some (.int .u8 (l[j].toNat:Int)):=by
 simp [bvals,List.getElem?_eq_getElem hj]
theorem bvals_length (l:List UInt8):(bvals l).length=l.length:=by simp [bvals]
theorem add_at (g j:Nat):(⟨g,0,none⟩:Addr).add j=⟨g,j,none⟩:=by unfold Addr.add;split <;> simp_all
theorem run_row_string {P:Program} (w:World) (src dst e g n cap:Nat) (cs:Array Value) (l:List UInt8) (hs:P.underlying src=some (.slice e)) (he:P.underlying e=some (.int .u8)) (hd:P.underlying dst=some .string)
 (hg:BlkAt w g e cs) (hn:n=l.length) (hc:cs.toList.take l.length=bvals l) :
 (convert src dst (.slice (some ⟨g,0,none⟩) n cap)).run P w=.ok (.string ⟨l.toArray⟩) w:=by
 subst hn
 refine run_convert_bytes_back w src dst e ⟨g,0,none⟩ cap l hs he hd fun j hj => ?_
 rw [add_at,hg.cell j]
 have h1:=bvals_at l j hj
 rw [← hc,List.getElem?_take,if_pos hj] at h1
 simpa using h1
theorem ext_list (s:ByteArray) (i j:Nat):(s.extract i j).data.toList=(s.data.toList.drop i).take (j - i):=by
 simp [ByteArray.data_extract,List.extract_eq_take_drop]
/-! ### Steps of 'below all that was there when it began nothing has turned' -/
section
variable {a w w':World}
theorem b0:Below a.heap.size a a:=Below.refl _ _
theorem bb (h:Below a.heap.size a w) (k:Below w.heap.size w w'):Below a.heap.size a w':=h.trans (k.mono h.size)
theorem ba (h:Below a.heap.size a w) (o:Obj):Below a.heap.size a (w.alloc o):=h.alloc h.size o
theorem bg {b:Nat} (h:Below a.heap.size a w) (k:w.grownBy w' (some b)) (hb:a.heap.size≤b):Below a.heap.size a w':=h.trans (below_of_row k hb h.size)
theorem bs {p:Addr} (h:Below a.heap.size a w) (hb:a.heap.size≤p.block) (u:Value):Below a.heap.size a (w.setCell p u):=h.setCell hb u
theorem bn (h:Below a.heap.size a w) (n:Nat):Below a.heap.size a (w.drewN n):=⟨h.os,h.tape,h.output,h.size,h.block⟩
theorem bd (h:Below a.heap.size a w):Below a.heap.size a w.drew:=h.drew
end
end Go.PM
end

section
namespace Go.PM
open Go.RowKit
def Rd (w:World) (A:Option Addr) (xs:List Value):Prop :=
 xs=[]∨∃ b off,A=some ⟨b,off,none⟩∧b < w.heap.size∧∀ j u,xs[j]? = some u→w.cell? ⟨b,off+j,none⟩=some u
section
variable {w w':World} {A:Option Addr} {xs:List Value}
theorem Rd.nil (w:World) (A:Option Addr):Rd w A []:=.inl rfl
theorem Rd.at_ (h:Rd w A xs) {k:Nat} (hk:k < xs.length):∃ b off,A=some ⟨b,off,none⟩∧b < w.heap.size∧w.cell? ⟨b,off+k,none⟩=some xs[k]:=by
 rcases h with rfl | ⟨b,off,e,hb,hc⟩
 · simp at hk
 · exact ⟨b,off,e,hb,hc k _ (List.getElem?_eq_getElem hk)⟩
theorem Rd.keep (h:Rd w A xs) (hs:w.heap.size≤w'.heap.size) (hk:∀ b off,A=some ⟨b,off,none⟩→b < w.heap.size→w'.heap[b]? = w.heap[b]?):Rd w' A xs:=by
 rcases h with rfl | ⟨b,off,e,hb,hc⟩
 · exact .inl rfl
 · refine .inr ⟨b,off,e,by omega,fun j u hj => ?_⟩
   rw [World.cell?_of_block (w:=w) (hk b off e hb)]
   exact hc j u hj
theorem Rd.below (h:Rd w A xs) (hb:Below w.heap.size w w'):Rd w' A xs:=h.keep hb.size fun b _ _ hl => hb.block b hl
theorem Rd.grown (h:Rd w A xs) {row:Option Nat} (hg:w.grownBy w' row) (hne:∀ b off,A=some ⟨b,off,none⟩→row≠some b):Rd w' A xs :=
 h.keep hg.size fun b off e hl => hg.block b hl (fun e' => hne b off e e'.symm)
theorem Rd.own {base e n size:Nat} {v:Value} (h:w.ownsRow base e size v n xs):∃ A c,v=.slice A n c∧Rd w A xs∧n≤c∧(∀ b off,A=some ⟨b,off,none⟩→v.ownBlock=some b∧base≤b):=by
 rcases h.2 with ⟨rfl,rfl⟩ | ⟨g,cap,cur,rfl,hb,hg,hn,_⟩
 · refine ⟨none,0,rfl,?_,Nat.le_refl _,fun _ _ e => by cases e⟩
   left
   have:=h.1
   simpa using this
 · refine ⟨some ⟨g,0,none⟩,cap,rfl,.inr ⟨g,0,rfl,(Array.getElem?_eq_some_iff.1 hg).1,fun j u hj => ?_⟩,hn,fun b off e => ?_⟩
   · have:=h.cells (g:=g) rfl j u hj
     rwa [add_at,← Nat.zero_add j] at this
   · injection e with e
     injection e with e1 e2
     subst e1
     exact ⟨rfl,hb⟩
end
theorem own_below {w w':World} {base e size n:Nat} {v:Value} {xs:List Value} (h:w.ownsRow base e size v n xs) (hb:Below w.heap.size w w'):w'.ownsRow base e size v n xs :=
 h.kept (grown_of_below hb none) (by cases v.ownBlock <;> simp)
theorem own_far {w w':World} {base e size n b:Nat} {v:Value} {xs:List Value} (h:w.ownsRow base e size v n xs) (hg:w.grownBy w' (some b)) (hb:b < base):w'.ownsRow base e size v n xs :=
 h.kept hg (by
  cases hv:v.ownBlock with
  | none => exact .inl rfl
  | some k => right;intro e;have:=(h.lt k hv).1;injection e with e;omega)
theorem below_append {a w w':World} {e size n:Nat} {v:Value} {xs:List Value} (h:Below a.heap.size a w) (ho:w.ownsRow a.heap.size e size v n xs) (hg:w.grownBy w' v.ownBlock):Below a.heap.size a w' :=
 h.grown hg h.size (fun k hk => (ho.lt k hk).1)
theorem one_new (w:World) (u:Value) (t:TypeId):∀ j x,([u]:List Value)[j]? = some x→(w.alloc (.cells #[u] t)).cell? ((⟨w.heap.size,0,none⟩:Addr).add j)=some x:=by
 intro j x hj
 match j,hj with
 | 0,hj =>
   rw [add_at,(BlkAt.made w t #[u]).cell]
   simpa using hj
theorem one_cell_int (k:IntKind) (n:Int):∀ u ∈ ([.int k n]:List Value),u.oneCell'=true:=by
 intro u hu
 simp at hu
 subst hu
 rfl
theorem one_cell_str (s:ByteArray):∀ u ∈ ([.string s]:List Value),u.oneCell'=true:=by
 intro u hu
 simp at hu
 subst hu
 rfl
def u64s (l:List Nat):List Value:=l.map fun n:Nat => .int .u64 (n:Int)
def strs (l:List ByteArray):List Value:=l.map .string
theorem u64s_length (l:List Nat):(u64s l).length=l.length:=by simp [u64s]
theorem strs_length (l:List ByteArray):(strs l).length=l.length:=by simp [strs]
theorem u64s_at (l:List Nat) (k:Nat) (hk:k < l.length) (h:k < (u64s l).length):(u64s l)[k]=.int .u64 (l[k]:Int):=by simp [u64s]
theorem strs_at (l:List ByteArray) (k:Nat) (hk:k < l.length) (h:k < (strs l).length):(strs l)[k]=.string l[k]:=by simp [strs]
def strLen:Value→Nat | .string s => s.size | _ => 0
def txt (l:List UInt8):ByteArray:=⟨l.toArray⟩
theorem txt_list (l:List UInt8):(txt l).data.toList=l:=rfl
theorem txt_size (l:List UInt8):(txt l).size=l.length:=rfl
theorem txt_of (s:ByteArray):txt s.data.toList=s:=rfl
theorem txt_eq {s:ByteArray} {l:List UInt8} (h:s.data.toList=l):s=txt l:=by rw [← h];rfl
theorem len_list (s:ByteArray):s.data.toList.length=s.size:=by simp
theorem ext_rest (s:ByteArray) (k:Nat):(s.extract k s.size).data.toList=s.data.toList.drop k:=by
 rw [ext_list,List.take_of_length_le]
 rw [List.length_drop,len_list]
 omega
end Go.PM
end

section
namespace Go.PM
open Go.RowKit
def RowAt (w:World) (g:Nat) (l:List UInt8):Prop :=
 g < w.heap.size∧∀ j (h:j < l.length),w.cell? ⟨g,j,none⟩=some (.int .u8 (l[j].toNat:Int))∧w.frozen? ⟨g,j,none⟩=false
section
variable {w w':World} {g:Nat} {l:List UInt8}
theorem RowAt.made (w:World) (e:TypeId) (s:ByteArray) (cap:Nat) :
 RowAt (w.drew.alloc (.cells (bytesRow s cap) e ((bytesRow s cap).size,(bytesRow s cap).size+1))) w.heap.size s.data.toList:=by
 have hh:(w.drew.alloc (.cells (bytesRow s cap) e ((bytesRow s cap).size,(bytesRow s cap).size+1))).heap[w.heap.size]? = some (.cells (bytesRow s cap) e ((bytesRow s cap).size,(bytesRow s cap).size+1)):=heap_alloc_new w.drew _
 refine ⟨by simp,fun j hj => ?_⟩
 have hjs:j < s.data.size:=by simpa using hj
 refine ⟨?_,?_⟩
 · rw [cell_of_row _ _ _ _ _ _ hh,bytesRow_at s cap j hjs]
   simp
 · have hn:s.data.size≤(bytesRow s cap).size:=by simp [bytesRow]
   unfold World.frozen?
   rw [hh]
   simp
   omega
theorem RowAt.set (h:RowAt w g l) {j:Nat} (hj:j < l.length) (b:UInt8):RowAt (w.setCell ⟨g,j,none⟩ (.int .u8 (b.toNat:Int))) g (l.set j b):=by
 refine ⟨by simpa [World.setCell] using h.1,fun k hk => ?_⟩
 have hk':k < l.length:=by simpa using hk
 refine ⟨?_,?_⟩
 · by_cases e:j=k
   · subst e
     rw [World.cell?_setCell_same _ _ _ (h.2 j hj).1]
     simp
   · rw [World.cell?_setCell_other _ _ _ _ (by intro e';injection e' with _ e';exact e e'),(h.2 k hk').1]
     simp [e]
 · rw [World.frozen?_setCell]
   exact (h.2 k hk').2
theorem RowAt.below {B:Nat} (h:RowAt w g l) (hb:Below B w w') (hg:g < B):RowAt w' g l:=by
 have e:=hb.block g hg
 refine ⟨Nat.lt_of_lt_of_le h.1 hb.size,fun j hj => ⟨?_,?_⟩⟩
 · rw [← (h.2 j hj).1]
   exact hb.cell (p:=⟨g,j,none⟩) hg
 · rw [← (h.2 j hj).2]
   unfold World.frozen?
   rw [e]
theorem RowAt.at_ (h:RowAt w g l) {j:Nat} (hj:j < l.length):w.cell? ⟨g,j,none⟩=some (.int .u8 ((l.getD j 0).toNat:Int))∧w.frozen? ⟨g,j,none⟩=false:=by
 have:=h.2 j hj
 rw [List.getD_eq_getElem?_getD,List.getElem?_eq_getElem hj]
 exact this
theorem RowAt.drn (h:RowAt w g l) (n:Nat):RowAt (w.drewN n) g l:=h
theorem RowAt.back {P:Program} (h:RowAt w g l) (src dst e i n cap:Nat) (hs:P.underlying src=some (.slice e)) (he:P.underlying e=some (.int .u8)) (hd:P.underlying dst=some .string) (hn:i+n≤l.length) :
 (convert src dst (.slice (some ⟨g,i,none⟩) n cap)).run P w=.ok (.string (txt ((l.drop i).take n))) w:=by
 have hl:((l.drop i).take n).length=n:=by simp;omega
 have:=run_convert_bytes_back (P:=P) w src dst e ⟨g,i,none⟩ cap ((l.drop i).take n) hs he hd fun j hj => by
  have ha:(⟨g,i,none⟩:Addr).add j=⟨g,i+j,none⟩:=by unfold Addr.add;split <;> simp_all
  rw [ha,(h.2 (i+j) (by omega)).1]
  simp
 rw [hl] at this
 exact this
end
end Go.PM
end

section
namespace Go.PM
open Go.RowKit
/-! ### Worlds of which some blocks may have turned -/
structure Tch (S:Nat→Prop) (w w':World):Prop where
 os:w'.os=w.os
 tape:w'.tape=w.tape
 output:w'.output=w.output
 size:w.heap.size≤w'.heap.size
 block:∀ k,k < w.heap.size→¬ S k→w'.heap[k]? = w.heap[k]?
section
variable {a w w':World} {S S':Nat→Prop}
theorem Tch.refl (S:Nat→Prop) (w:World):Tch S w w:=⟨rfl,rfl,rfl,Nat.le_refl _,fun _ _ _ => rfl⟩
theorem Tch.below (h:Below w.heap.size w w'):Tch S w w':=⟨h.os,h.tape,h.output,h.size,fun k hk _ => h.block k hk⟩
theorem Tch.grown {row:Option Nat} (h:w.grownBy w' row) (hr:∀ g,row=some g→g < w.heap.size→S g):Tch S w w' :=
 ⟨h.os,h.tape,h.output,h.size,fun k hk hn => h.block k hk (fun e => hn (hr k e.symm hk))⟩
theorem Tch.trans (h:Tch S a w) (k:Tch S' w w') (hs:∀ g,g < a.heap.size→S' g→S g):Tch S a w' :=
 ⟨k.os.trans h.os,k.tape.trans h.tape,k.output.trans h.output,Nat.le_trans h.size k.size,
   fun i hi hne => (k.block i (Nat.lt_of_lt_of_le hi h.size) (fun e => hne (hs i hi e))).trans (h.block i hi hne)⟩
theorem Tch.bel (h:Tch S a w) (k:Below w.heap.size w w'):Tch S a w':=h.trans (S':=S) (Tch.below k) fun _ _ e => e
theorem Tch.toBelowB {B:Nat} (h:Tch S w w') (hb:B≤w.heap.size) (hs:∀ g,g < B→¬ S g):Below B w w':=⟨h.os,h.tape,h.output,h.size,fun k hk => h.block k (by omega) (hs k hk)⟩
theorem Tch.put (h:Tch S a w) {p:Addr} (hp:p.block < a.heap.size→S p.block) (u:Value):Tch S a (w.setCell p u) :=
 ⟨h.os,h.tape,h.output,by simpa [World.setCell] using h.size,fun k hk hne => (Below.heap_setCell w p u k (by rintro rfl;exact hne (hp hk))).trans (h.block k hk hne)⟩
theorem Tch.more (h:Tch S a w) (o:Obj):Tch S a (w.alloc o) :=
 ⟨h.os,h.tape,h.output,Nat.le_trans h.size (by simp),fun k hk hne => (Below.heap_alloc w o k (Nat.lt_of_lt_of_le hk h.size)).trans (h.block k hk hne)⟩
theorem Tch.drn (h:Tch S a w) (n:Nat):Tch S a (w.drewN n):=⟨h.os,h.tape,h.output,h.size,h.block⟩
theorem Tch.dr (h:Tch S a w):Tch S a w.drew:=⟨h.os,h.tape,h.output,h.size,h.block⟩
theorem Tch.imp (h:Tch S a w) (hs:∀ g,g < a.heap.size→S g→S' g):Tch S' a w:=⟨h.os,h.tape,h.output,h.size,fun k hk hne => h.block k hk (fun e => hne (hs k hk e))⟩
theorem BlkAt.tch {g:Nat} {t:TypeId} {cs:Array Value} (h:BlkAt w g t cs) (hb:Tch S w w') (hg:¬ S g):BlkAt w' g t cs:=(hb.block g h.lt hg).trans h
theorem Rd.tch {A:Option Addr} {xs:List Value} (h:Rd w A xs) (hb:Tch S w w') (hg:∀ b off,A=some ⟨b,off,none⟩→¬ S b):Rd w' A xs :=
 h.keep hb.size fun b off e hl => hb.block b hl (hg b off e)
theorem own_tch {base e size n:Nat} {v:Value} {xs:List Value} (h:w.ownsRow base e size v n xs) (hb:Tch S w w') (hg:∀ g,v.ownBlock=some g→¬ S g):w'.ownsRow base e size v n xs:=by
 refine ⟨h.1,?_⟩
 rcases h.2 with hn | ⟨g,cap,cur,rfl,hB,hgg,rest⟩
 · exact .inl hn
 · refine .inr ⟨g,cap,cur,rfl,hB,?_,rest⟩
   rw [hb.block g (Array.getElem?_eq_some_iff.1 hgg).1 (hg g rfl)]
   exact hgg
end
/-! ### The buffer -/
def foot:Value→Option Nat
 | .slice (some a) _ c => if c=0 then none else some a.block
 | _ => none
def HasT (w:World) (g:Nat) (e:TypeId):Prop:=∃ cs fz,w.heap[g]? = some (.cells cs e fz)
theorem HasT.lt {w:World} {g:Nat} {e:TypeId} (h:HasT w g e):g < w.heap.size:=by
 obtain ⟨cs,fz,h⟩:=h
 exact (Array.getElem?_eq_some_iff.1 h).1
theorem HasT.one {w:World} {g:Nat} {e e':TypeId} (h:HasT w g e) (h':HasT w g e'):e=e':=by
 obtain ⟨cs,fz,h⟩:=h
 obtain ⟨cs',fz',h'⟩:=h'
 rw [h] at h'
 injection h' with h'
 injection h'
theorem HasT.put {w:World} {g:Nat} {e:TypeId} (h:HasT w g e) (p:Addr) (u:Value):HasT (w.setCell p u) g e:=by
 obtain ⟨cs,fz,h⟩:=h
 by_cases hp:g=p.block
 · subst hp
   by_cases hs:p.spot.isSome=true
   · exact ⟨cs,fz,by simp [World.setCell,Array.getElem?_modify,h,hs]⟩
   · exact ⟨cs.setIfInBounds p.off u,fz,by simp [World.setCell,Array.getElem?_modify,h,hs]⟩
 · exact ⟨cs,fz,(Below.heap_setCell w p u g hp).trans h⟩
theorem HasT.puts {g:Nat} {e:TypeId} {b:Nat}:∀ (vs:List Value) (o:Nat) (w:World),HasT w g e→HasT (w.setCells b o vs) g e
 | [],_,_,h => h
 | v :: vs,o,_,h => HasT.puts vs (o+1) _ (h.put _ v)
theorem BlkAt.hasT {w:World} {g:Nat} {t:TypeId} {cs:Array Value} (h:BlkAt w g t cs):HasT w g t:=⟨cs,(0,0),h⟩
def Buf (w:World) (e:TypeId) (v:Value) (l:List UInt8):Prop :=
 (v=.slice none 0 0∧l=[])∨∃ g cap,v=.slice (some ⟨g,0,none⟩) l.length cap∧(cap=0∨HasT w g e)∧l.length≤cap∧(∀ j,j < cap→(w.cell? ⟨g,j,none⟩).isSome=true∧w.frozen? ⟨g,j,none⟩=false) ∧
   ∀ j (h:j < l.length),w.cell? ⟨g,j,none⟩=some (.int .u8 (l[j].toNat:Int))
section
variable {w w':World} {e:TypeId} {v:Value} {l:List UInt8}
theorem Buf.nil (w:World) (e:TypeId):Buf w e (.slice none 0 0) []:=.inl ⟨rfl,rfl⟩
theorem Buf.foot_has (h:Buf w e v l) {g:Nat} (hg:foot v=some g):HasT w g e:=by
 rcases h with ⟨rfl,rfl⟩ | ⟨g',cap,rfl,hlt,_⟩
 · simp [foot] at hg
 · simp only [foot] at hg
   split at hg
   · cases hg
   · rcases hlt with h | h
     · contradiction
     · injection hg with hg;exact hg ▸ h
theorem Buf.foot_lt (h:Buf w e v l) {g:Nat} (hg:foot v=some g):g < w.heap.size:=(h.foot_has hg).lt
theorem Buf.ne_blk (h:Buf w e v l) {d:Nat} {t:TypeId} {cs:Array Value} (hd:BlkAt w d t cs) (ht:t≠e):foot v≠some d:=fun hg => ht (hd.hasT.one (h.foot_has hg))
theorem Buf.ne_own (h:Buf w e v l) {base e' size n:Nat} {r:Value} {xs:List Value} (hd:w.ownsRow base e' size r n xs) (ht:e'≠e):∀ g,r.ownBlock=some g→foot v≠some g:=fun g hr hg => by
 rcases hd.2 with ⟨rfl,_⟩ | ⟨g',cap,cur,rfl,hb,hgg,_⟩
 · cases hr
 · have e1:g'=g:=by simpa [Value.ownBlock] using hr
   subst e1
   exact ht (HasT.one ⟨cur,(0,0),hgg⟩ (h.foot_has hg))
theorem Buf.tch {S:Nat→Prop} (h:Buf w e v l) (hg:Tch S w w') (hne:∀ g,foot v=some g→¬ S g):Buf w' e v l:=by
 rcases h with h | ⟨g,cap,rfl,hlt,hc,hall,hl⟩
 · exact .inl h
 · by_cases hc0:cap=0
   · subst hc0
     exact .inr ⟨g,0,rfl,.inl rfl,hc,fun j hj => by omega,fun j hj => by omega⟩
   · have hty:HasT w g e:=by rcases hlt with h | h;exact absurd h hc0;exact h
     have hlt:=hty.lt
     have e:=hg.block g hlt (hne g (by simp [foot,hc0]))
     have ec:∀ j,w'.cell? ⟨g,j,none⟩=w.cell? ⟨g,j,none⟩:=fun j => by unfold World.cell?;simp only [e]
     have ef:∀ j,w'.frozen? ⟨g,j,none⟩=w.frozen? ⟨g,j,none⟩:=fun j => by unfold World.frozen?;simp only [e]
     exact .inr ⟨g,cap,rfl,.inr (by obtain ⟨cs,fz,hh⟩:=hty;exact ⟨cs,fz,e.trans hh⟩),hc,fun j hj => by rw [ec,ef];exact hall j hj,fun j hj => by rw [ec];exact hl j hj⟩
theorem Buf.below (h:Buf w e v l) (hb:Below w.heap.size w w'):Buf w' e v l:=h.tch (S:=fun _ => False) (Tch.below hb) fun _ _ => id
theorem Buf.at_heap {g:Nat} {e:TypeId} {s:ByteArray} {cap:Nat} (hh:w.heap[g]? = some (.cells (bytesRow s cap) e ((bytesRow s cap).size,(bytesRow s cap).size+1))) (hc:s.size≤cap) :
 Buf w e (.slice (some ⟨g,0,none⟩) s.size cap) s.data.toList:=by
 have hn:(bytesRow s cap).size=cap:=by
  have:s.data.size=s.size:=rfl
  simp [bytesRow]
  omega
 refine .inr ⟨g,cap,by rw [len_list],.inr ⟨_,_,hh⟩,by rw [len_list];exact hc,fun j hj => ⟨?_,?_⟩,fun j hj => ?_⟩
 · rw [cell_of_row _ _ _ _ _ _ hh]
   simp [hn,hj]
 · unfold World.frozen?
   rw [hh]
   simp
   omega
 · have hjs:j < s.data.size:=by simpa using hj
   rw [cell_of_row _ _ _ _ _ _ hh,bytesRow_at s cap j hjs]
   simp
theorem byteCells_at (s:ByteArray) (j:Nat) (hj:j < s.data.toList.length) (h:j < (byteCells s).length):(byteCells s)[j]=.int .u8 (s.data.toList[j].toNat:Int):=by simp [byteCells]
theorem Buf.ofOwn {B:Nat} {n:Nat} (h:w.ownsRow B e 1 v n (bvals l)):Buf w e v l∧∀ g,foot v=some g→B≤g:=by
 obtain ⟨h1,h2⟩:=h
 rw [bvals_length,Nat.mul_one] at h1
 rcases h2 with ⟨rfl,rfl⟩ | ⟨g,cap,cur,rfl,hb,hg,hnc,_,hcs,htk⟩
 · exact ⟨.inl ⟨rfl,List.eq_nil_of_length_eq_zero h1⟩,fun g hg => by simp [foot] at hg⟩
 · subst h1
   refine ⟨.inr ⟨g,cap,rfl,.inr ⟨_,_,hg⟩,hnc,fun j hj => ⟨?_,?_⟩,fun j hj => ?_⟩,fun g' hg' => ?_⟩
   · rw [cell_of_row _ _ _ _ _ _ hg]
     simp
     omega
   · unfold World.frozen?
     rw [hg]
     simp
   · rw [cell_of_row _ _ _ _ _ _ hg]
     have:=bvals_at l j hj
     rw [← htk,List.getElem?_take,if_pos (by omega)] at this
     simpa using this
   · simp only [foot] at hg'
     split at hg'
     · cases hg'
     · injection hg' with hg';omega
theorem tch_setCells {a:World} {S:Nat→Prop} {b:Nat} (hb:S b):∀ (vs:List Value) (o:Nat) (w:World),Tch S a w→Tch S a (w.setCells b o vs)
 | [],_,_,h => h
 | v :: vs,o,_,h => tch_setCells hb vs (o+1) _ (h.put (fun _ => hb) v)
theorem foot_some {g n c:Nat} (h:c≠0):foot (.slice (some ⟨g,0,none⟩) n c)=some g:=by simp [foot,h]
theorem buf_append {P:Program} (h:Buf w e v l) (s:ByteArray) (t u ty:TypeId) (i:TypeInfo) (ht:P.underlying t=some (.slice e)) (hu:P.underlying u=some .string) (hi:P.info? e=some i) (hz:i.zero=some (.int .u8 0))
 (hsize:i.size=1) (hby:i.bytes=1) (hn:l.length+s.size≤1000000) :
 ∃ v' w',(Builtin.append_ #[t,u] ty #[v,.string s]).run P w=.ok v' w'∧Buf w' e v' (l++s.data.toList)∧Tch (fun k => foot v=some k) w w'∧(foot v'=foot v∨∀ g,foot v'=some g→w.heap.size≤g):=by
 rcases h with ⟨rfl,rfl⟩ | ⟨g,cap,rfl,hlt,hc,hall,hl⟩
 · obtain ⟨v',w',h1,h2,h3,_⟩:=Lib.run_append_own_string (P:=P) w w.heap.size t u ty e i ht hu hi hz hsize hby (.slice none 0 0) 0 [] (World.ownsRow_nil _ _ _ _) s (by unfold maxLen;simp at hn;omega) (by simp at hn;omega) (Nat.le_refl _)
   have h4:=Buf.ofOwn (n:=0+s.size) h2
   exact ⟨v',w',h1,h4.1,Tch.grown h3 (fun g hg => by simp [Value.ownBlock] at hg),.inr h4.2⟩
 · have hs:Src P i.size u (.string s) s.size (byteCells s) w:=by rw [hsize];exact Src.ofString w hu s
   by_cases hroom:l.length+s.size≤cap
   · have hr:=run_append_room_src (P:=P) w t u ty e i ht hi g 0 l.length cap (.string s) s.size (byteCells s) hs hroom
      (fun j hj => by rw [byteCells_length] at hj;rw [hsize];exact (hall _ (by omega)).1) (fun j hj => by rw [byteCells_length] at hj;rw [hsize];exact (hall _ (by omega)).2)
     rw [hsize,Nat.mul_one,Nat.zero_add] at hr
     have hgr:Tch (fun k => foot (.slice (some ⟨g,0,none⟩) l.length cap)=some k) w (w.setCells g l.length (byteCells s)):=by
      by_cases hc0:cap=0
      · have:byteCells s=[]:=List.eq_nil_of_length_eq_zero (by rw [byteCells_length];omega)
        rw [this]
        exact Tch.refl _ _
      · exact tch_setCells (S:=fun k => foot (.slice (some ⟨g,0,none⟩) l.length cap)=some k) (b:=g) (foot_some hc0) _ _ _ (Tch.refl _ _)
     have hin:=World.cell?_setCells_in g (byteCells s) l.length w (fun j hj => by rw [byteCells_length] at hj;exact (hall _ (by omega)).1)
     have hout:=fun x => World.cell?_setCells_out g (byteCells s) l.length w x
     refine ⟨_,_,hr,.inr ⟨g,cap,by rw [List.length_append,len_list],hlt.imp id (fun h => h.puts _ _ _),by rw [List.length_append,len_list];exact hroom,fun j hj => ⟨?_,?_⟩,fun j hj => ?_⟩,hgr,.inl rfl⟩
     · by_cases h1:l.length≤j∧j < l.length+s.size
       · have:=hin (j - l.length) (by rw [byteCells_length];omega)
         rw [show l.length+(j - l.length)=j by omega] at this
         rw [this];rfl
       · rw [hout _ (fun _ _ => by simp only [byteCells_length];omega)]
         exact (hall j hj).1
     · rw [World.frozen?_setCells]
       exact (hall j hj).2
     · rw [List.length_append,len_list] at hj
       by_cases h1:j < l.length
       · rw [hout _ (fun _ _ => by simp only;omega),hl j h1,List.getElem_append_left h1]
       · have:=hin (j - l.length) (by rw [byteCells_length];omega)
         rw [show l.length+(j - l.length)=j by omega,byteCells_at s _ (by rw [len_list];omega)] at this
         rw [this,List.getElem_append_right (by omega)]
   · have hold:(Builtin.firstCells i.size l.length (.slice (some ⟨g,0,none⟩) l.length cap)).run P w.drew=.ok (bvals l).toArray w.drew :=
      run_firstCells_some w.drew i.size l.length ⟨g,0,none⟩ l.length cap (bvals l) (by rw [bvals_length,hsize,Nat.mul_one]) (fun j x hx => by
       rw [add_at]
       have hj:j < l.length:=by have:=(List.getElem?_eq_some_iff.1 hx).1;rwa [bvals_length] at this
       rw [bvals_at l j hj] at hx
       rw [← hx]
       exact hl j hj)
     have hge:=grownCap_ge w (l.length+s.size) cap e
     have hr:=run_append_grow_src (P:=P) w t u ty e i (.int .u8 0) ht hi hz (some ⟨g,0,none⟩) l.length cap (bvals l) hold (.string s) s.size (byteCells s) hs (by omega) (by omega)
      (by rw [hby];exact growslice_fits (by omega) (by omega))
     generalize hG:grownCap w (l.length+s.size) cap e=G at hr hge
     have hC:((bvals l++byteCells s).toArray++Builtin.zeroCells (Value.int .u8 0).cells (G - (l.length+s.size))).size=G:=by
      have hz1:(Value.int IntKind.u8 0).cells.size=1:=rfl
      simp only [Array.size_append,List.size_toArray,size_zeroCells,hz1,List.length_append,bvals_length,byteCells_length]
      omega
     have hat:∀ j (hj:j < l.length+s.size),((bvals l++byteCells s).toArray++Builtin.zeroCells (Value.int .u8 0).cells (G - (l.length+s.size)))[j]? = some (.int .u8 ((l++s.data.toList)[j]'(by rw [List.length_append,len_list];exact hj)).toNat):=fun j hj => by
      rw [Array.getElem?_append_left (by simp only [List.size_toArray,List.length_append,bvals_length,byteCells_length];exact hj),List.getElem?_toArray]
      have:=bvals_at (l++s.data.toList) j (by rw [List.length_append,len_list];exact hj)
      rw [← this]
      congr 1
      simp [bvals,byteCells]
     generalize (bvals l++byteCells s).toArray++Builtin.zeroCells (Value.int .u8 0).cells (G - (l.length+s.size))=C at hr hC hat
     have hh:(w.drew.alloc (.cells C e)).heap[w.heap.size]? = some (.cells C e (0,0)):=heap_alloc_new w.drew _
     have hG0:foot (.slice (some ⟨w.heap.size,0,none⟩) (l.length+s.size) G)=none∨foot (.slice (some ⟨w.heap.size,0,none⟩) (l.length+s.size) G)=some w.heap.size:=by
      by_cases h0:G=0
      · left;simp [foot,h0]
      · right;simp [foot,h0]
     refine ⟨_,_,hr,.inr ⟨w.heap.size,G,by rw [List.length_append,len_list],.inr ⟨_,_,hh⟩,by rw [List.length_append,len_list];exact hge,fun j hj => ⟨?_,?_⟩,fun j hj => ?_⟩,((Tch.refl _ _).dr.more _),.inr fun g' hg' => by rcases hG0 with h | h <;> rw [h] at hg' <;> simp at hg';omega⟩
     · rw [cell_of_row _ _ _ _ _ _ hh]
       simp [hC,hj]
     · unfold World.frozen?
       rw [hh]
       simp
     · rw [List.length_append,len_list] at hj
       rw [cell_of_row _ _ _ _ _ _ hh,hat j hj]
theorem Buf.back {P:Program} (h:Buf w e v l) (src dst:TypeId) (hs:P.underlying src=some (.slice e)) (he:P.underlying e=some (.int .u8)) (hd:P.underlying dst=some .string) :
 (convert src dst v).run P w=.ok (.string (txt l)) w:=by
 rcases h with ⟨rfl,rfl⟩ | ⟨g,cap,rfl,hlt,hc,hall,hl⟩
 · exact run_convert_bytes_nil w src e hs he 0 0 dst hd
 · have:=run_convert_bytes_back (P:=P) w src dst e ⟨g,0,none⟩ cap l hs he hd fun j hj => by
    rw [add_at]
    exact hl j hj
   exact this
theorem Buf.len (h:Buf w e v l):∃ A c,v=.slice A l.length c:=by
 rcases h with ⟨rfl,rfl⟩ | ⟨g,cap,rfl,_⟩
 · exact ⟨_,_,rfl⟩
 · exact ⟨_,_,rfl⟩
end
theorem wpList_append_run {P:Program} {w w':World} {ops:Array Oper} {rest:List Oper} {o:Oper} {a:Act} {Q:Exit→Act→World→Prop} (hgd:o.guard=none) (s x:Operand) (t u:TypeId)
 (ho:o.op=.call { callee:=.builtin .append,args:=#[s,x],argTypes:=#[t,u] }) (v y v':Value) (hs:a.eval s=v) (hx:a.eval x=y)
 (hrun:(Builtin.append_ #[t,u] o.type #[v,y]).run P w=.ok v' w') (h:wpList P ops Q rest (a.put o.dst v') w'):wpList P ops Q (o :: rest) a w:=by
 refine wpList_plain hgd fun K hK => ?_
 unfold Oper.wp
 simp [execOp,ho,resolve,invoke,builtin,hs,hx,hrun,Result.andThen]
 exact hK _ _ h
end Go.PM
end

section
namespace Go.PM
open Go.RowKit
inductive Fs where
 | nil:Fs
 | cons (tag:Nat) (ty:Int) (num:Nat) (text:ByteArray) (inner rest:Fs):Fs
namespace Fs
def len:Fs→Nat
 | nil => 0
 | cons _ _ _ _ _ r => r.len+1
def count:Fs→Nat
 | nil => 0
 | cons _ _ _ _ i r => 1+i.count+r.count
def app:Fs→Fs→Fs
 | nil,g => g
 | cons t y n s i r,g => cons t y n s i (r.app g)
theorem app_nil:∀ f:Fs,f.app nil=f
 | nil => rfl
 | cons t y n s i r => by rw [app,app_nil r]
theorem app_len:∀ f g:Fs,(f.app g).len=f.len+g.len
 | nil,g => by simp [app,len]
 | cons t y n s i r,g => by rw [app,len,len,app_len r g];omega
theorem app_count:∀ f g:Fs,(f.app g).count=f.count+g.count
 | nil,g => by simp [app,count]
 | cons t y n s i r,g => by rw [app,count,count,app_count r g];omega
theorem app_assoc:∀ f g h:Fs,(f.app g).app h=f.app (g.app h)
 | nil,_,_ => rfl
 | cons t y n s i r,g,h => by rw [app,app,app,app_assoc r g h]
theorem len_zero:∀ {f:Fs},f.len=0→f=nil
 | nil,_ => rfl
 | cons ..,h => by simp [len] at h
theorem len_count:∀ f:Fs,f.len≤f.count
 | nil => Nat.le_refl _
 | cons t y n s i r => by have:=len_count r;rw [len,count];omega
def All (P:Nat→Int→Nat→ByteArray→Prop):Fs→Prop
 | nil => True
 | cons t y n s i r => P t y n s∧All P i∧All P r
theorem All.app {P:Nat→Int→Nat→ByteArray→Prop}:∀ {f g:Fs},All P f→All P g→All P (f.app g)
 | nil,_,_,h => h
 | cons ..,_,h,h' => ⟨h.1,h.2.1,All.app h.2.2 h'⟩
end Fs
def FsAt (w:World) (I:Nat→Prop):Fs→Nat→Nat→Prop
 | .nil,_,_ => True
 | .cons t y n s i r,b,o =>
   w.cell? ⟨b,o,none⟩=some (.int .u64 (t:Int))∧w.cell? ⟨b,o+1,none⟩=some (.int .i64 y)∧w.cell? ⟨b,o+2,none⟩=some (.int .u64 (n:Int))∧w.cell? ⟨b,o+3,none⟩=some (.string s) ∧
   (∃ A c,w.cell? ⟨b,o+4,none⟩=some (.slice A i.len c)∧i.len≤c∧(i.len=0∨∃ b' o',A=some ⟨b',o',none⟩∧I b'∧b' < w.heap.size∧FsAt w I i b' o'))∧FsAt w I r b (o+5)
def SlV (w:World) (I:Nat→Prop) (v:Value) (f:Fs):Prop :=
 ∃ A c,v=.slice A f.len c∧f.len≤c∧(f.len=0∨∃ b o,A=some ⟨b,o,none⟩∧I b∧b < w.heap.size∧FsAt w I f b o)
def Cls (w:World) (I:Nat→Prop):List Value→Fs→Prop
 | [],.nil => True
 | a :: b :: c :: d :: v :: xs,.cons t y n s i r => a=.int .u64 (t:Int)∧b=.int .i64 y∧c=.int .u64 (n:Int)∧d=.string s∧SlV w I v i∧Cls w I xs r
 | _,_ => False
section
variable {w w':World} {I J:Nat→Prop}
theorem FsAt.keep (hs:w.heap.size≤w'.heap.size) (hI:∀ k,I k→k < w.heap.size→w'.heap[k]? = w.heap[k]?):∀ {f:Fs} {b o:Nat},w'.heap[b]? = w.heap[b]?→FsAt w I f b o→FsAt w' I f b o
 | .nil,_,_,_,_ => trivial
 | .cons t y n s i r,b,o,hb,h => by
   have e:∀ j,w'.cell? ⟨b,j,none⟩=w.cell? ⟨b,j,none⟩:=fun j => World.cell?_of_block (a:=⟨b,j,none⟩) hb
   obtain ⟨h1,h2,h3,h4,⟨A,c,h5,hc,h6⟩,h7⟩:=h
   refine ⟨(e _).trans h1,(e _).trans h2,(e _).trans h3,(e _).trans h4,⟨A,c,(e _).trans h5,hc,?_⟩,FsAt.keep hs hI hb h7⟩
   rcases h6 with h6 | ⟨b',o',hA,hi,hlt,h8⟩
   · exact .inl h6
   · exact .inr ⟨b',o',hA,hi,Nat.lt_of_lt_of_le hlt hs,FsAt.keep hs hI (hI b' hi hlt) h8⟩
theorem FsAt.imp (hJ:∀ k,I k→J k):∀ {f:Fs} {b o:Nat},FsAt w I f b o→FsAt w J f b o
 | .nil,_,_,_ => trivial
 | .cons t y n s i r,b,o,h => by
   obtain ⟨h1,h2,h3,h4,⟨A,c,h5,hc,h6⟩,h7⟩:=h
   refine ⟨h1,h2,h3,h4,⟨A,c,h5,hc,?_⟩,FsAt.imp hJ h7⟩
   rcases h6 with h6 | ⟨b',o',hA,hi,hlt,h8⟩
   · exact .inl h6
   · exact .inr ⟨b',o',hA,hJ _ hi,hlt,FsAt.imp hJ h8⟩
theorem SlV.keep {v:Value} {f:Fs} (h:SlV w I v f) (hs:w.heap.size≤w'.heap.size) (hI:∀ k,I k→k < w.heap.size→w'.heap[k]? = w.heap[k]?):SlV w' I v f:=by
 obtain ⟨A,c,hv,hc,h⟩:=h
 refine ⟨A,c,hv,hc,h.imp id fun ⟨b,o,hA,hi,hlt,h8⟩ => ⟨b,o,hA,hi,Nat.lt_of_lt_of_le hlt hs,h8.keep hs hI (hI b hi hlt)⟩⟩
theorem SlV.imp {v:Value} {f:Fs} (h:SlV w I v f) (hJ:∀ k,I k→J k):SlV w J v f:=by
 obtain ⟨A,c,hv,hc,h⟩:=h
 exact ⟨A,c,hv,hc,h.imp id fun ⟨b,o,hA,hi,hlt,h8⟩ => ⟨b,o,hA,hJ _ hi,hlt,h8.imp hJ⟩⟩
theorem SlV.below {v:Value} {f:Fs} (h:SlV w I v f) (hb:Below w.heap.size w w'):SlV w' I v f:=h.keep hb.size fun k _ hk => hb.block k hk
theorem SlV.tch {S:Nat→Prop} {v:Value} {f:Fs} (h:SlV w I v f) (hb:Tch S w w') (hS:∀ k,I k→¬ S k):SlV w' I v f:=h.keep hb.size fun k hi hk => hb.block k hk (hS k hi)
theorem SlV.nil (w:World) (I:Nat→Prop) (A:Option Addr) (c:Nat):SlV w I (.slice A 0 c) .nil:=⟨A,c,rfl,Nat.zero_le _,.inl rfl⟩
theorem Cls.keep (hs:w.heap.size≤w'.heap.size) (hI:∀ k,I k→k < w.heap.size→w'.heap[k]? = w.heap[k]?):∀ {xs:List Value} {f:Fs},Cls w I xs f→Cls w' I xs f
 | [],.nil,_ => trivial
 | _ :: _ :: _ :: _ :: _ :: _,.cons ..,h => ⟨h.1,h.2.1,h.2.2.1,h.2.2.2.1,h.2.2.2.2.1.keep hs hI,Cls.keep hs hI h.2.2.2.2.2⟩
 | [],.cons ..,h => h.elim
 | _ :: _,.nil,h => by simp [Cls] at h
 | [_],.cons ..,h => by simp [Cls] at h
 | [_,_],.cons ..,h => by simp [Cls] at h
 | [_,_,_],.cons ..,h => by simp [Cls] at h
 | [_,_,_,_],.cons ..,h => by simp [Cls] at h
theorem Cls.below {xs:List Value} {f:Fs} (h:Cls w I xs f) (hb:Below w.heap.size w w'):Cls w' I xs f:=h.keep hb.size fun k _ hk => hb.block k hk
theorem Cls.tch {S:Nat→Prop} {xs:List Value} {f:Fs} (h:Cls w I xs f) (hb:Tch S w w') (hS:∀ k,I k→¬ S k):Cls w' I xs f:=h.keep hb.size fun k hi hk => hb.block k hk (hS k hi)
theorem Cls.imp (hJ:∀ k,I k→J k):∀ {xs:List Value} {f:Fs},Cls w I xs f→Cls w J xs f
 | [],.nil,_ => trivial
 | _ :: _ :: _ :: _ :: _ :: _,.cons ..,h => ⟨h.1,h.2.1,h.2.2.1,h.2.2.2.1,h.2.2.2.2.1.imp hJ,Cls.imp hJ h.2.2.2.2.2⟩
 | [],.cons ..,h => h.elim
 | _ :: _,.nil,h => by simp [Cls] at h
 | [_],.cons ..,h => by simp [Cls] at h
 | [_,_],.cons ..,h => by simp [Cls] at h
 | [_,_,_],.cons ..,h => by simp [Cls] at h
 | [_,_,_,_],.cons ..,h => by simp [Cls] at h
theorem Cls.length:∀ {xs:List Value} {f:Fs},Cls w I xs f→xs.length=5 * f.len
 | [],.nil,_ => rfl
 | _ :: _ :: _ :: _ :: _ :: xs,.cons _ _ _ _ _ r,h => by
   have:=Cls.length h.2.2.2.2.2
   simp only [List.length_cons,Fs.len]
   omega
 | [],.cons ..,h => h.elim
 | _ :: _,.nil,h => by simp [Cls] at h
 | [_],.cons ..,h => by simp [Cls] at h
 | [_,_],.cons ..,h => by simp [Cls] at h
 | [_,_,_],.cons ..,h => by simp [Cls] at h
 | [_,_,_,_],.cons ..,h => by simp [Cls] at h
theorem Cls.app:∀ {xs ys:List Value} {f g:Fs},Cls w I xs f→Cls w I ys g→Cls w I (xs++ys) (f.app g)
 | [],_,.nil,_,_,h => h
 | _ :: _ :: _ :: _ :: _ :: _,_,.cons ..,_,h,h' => ⟨h.1,h.2.1,h.2.2.1,h.2.2.2.1,h.2.2.2.2.1,Cls.app h.2.2.2.2.2 h'⟩
 | [],_,.cons ..,_,h,_ => h.elim
 | _ :: _,_,.nil,_,h,_ => by simp [Cls] at h
 | [_],_,.cons ..,_,h,_ => by simp [Cls] at h
 | [_,_],_,.cons ..,_,h,_ => by simp [Cls] at h
 | [_,_,_],_,.cons ..,_,h,_ => by simp [Cls] at h
 | [_,_,_,_],_,.cons ..,_,h,_ => by simp [Cls] at h
theorem Cls.at_:∀ {xs:List Value} {f:Fs} {b o:Nat},Cls w I xs f→(∀ j u,xs[j]? = some u→w.cell? ⟨b,o+j,none⟩=some u)→FsAt w I f b o
 | [],.nil,_,_,_,_ => trivial
 | x0 :: x1 :: x2 :: x3 :: v :: xs,.cons t y n s i r,b,o,h,hc => by
   obtain ⟨rfl,rfl,rfl,rfl,⟨A,c,rfl,h5,h6⟩,h7⟩:=h
   refine ⟨hc 0 _ rfl,hc 1 _ rfl,hc 2 _ rfl,hc 3 _ rfl,⟨A,c,hc 4 _ rfl,h5,h6⟩,Cls.at_ h7 fun j u hj => ?_⟩
   rw [Nat.add_assoc,Nat.add_comm 5 j]
   exact hc (j+5) u hj
 | [],.cons ..,_,_,h,_ => h.elim
 | _ :: _,.nil,_,_,h,_ => by simp [Cls] at h
 | [_],.cons ..,_,_,h,_ => by simp [Cls] at h
 | [_,_],.cons ..,_,_,h,_ => by simp [Cls] at h
 | [_,_,_],.cons ..,_,_,h,_ => by simp [Cls] at h
 | [_,_,_,_],.cons ..,_,_,h,_ => by simp [Cls] at h
theorem FsAt.cls:∀ {f:Fs} {b o:Nat},FsAt w I f b o→∃ xs,Cls w I xs f∧∀ j u,xs[j]? = some u→w.cell? ⟨b,o+j,none⟩=some u
 | .nil,_,_,_ => ⟨[],trivial,by simp⟩
 | .cons t y n s i r,b,o,h => by
   obtain ⟨h1,h2,h3,h4,⟨A,c,h5,hc,h6⟩,h7⟩:=h
   obtain ⟨xs,hx,hx2⟩:=FsAt.cls h7
   refine ⟨.int .u64 (t:Int) :: .int .i64 y :: .int .u64 (n:Int) :: .string s :: .slice A i.len c :: xs,⟨rfl,rfl,rfl,rfl,⟨A,c,rfl,hc,h6⟩,hx⟩,fun j u hj => ?_⟩
   match j,hj with
   | 0,hj => injection hj with hj;subst hj;exact h1
   | 1,hj => injection hj with hj;subst hj;exact h2
   | 2,hj => injection hj with hj;subst hj;exact h3
   | 3,hj => injection hj with hj;subst hj;exact h4
   | 4,hj => injection hj with hj;subst hj;exact h5
   | j+5,hj =>
     have:=hx2 j u hj
     rw [Nat.add_assoc,Nat.add_comm 5 j] at this
     exact this
end
def Fs.drop:Fs→Nat→Fs
 | f,0 => f
 | .nil,_+1 => .nil
 | .cons _ _ _ _ _ r,k+1 => r.drop k
def Fs.take:Fs→Nat→Fs
 | _,0 => .nil
 | .nil,_+1 => .nil
 | .cons t y n s i r,k+1 => .cons t y n s i (r.take k)
theorem Fs.drop_len:∀ (f:Fs) (k:Nat),(f.drop k).len=f.len - k
 | f,0 => by cases f <;> rfl
 | .nil,_+1 => by simp [Fs.drop,Fs.len]
 | .cons _ _ _ _ _ r,k+1 => by rw [Fs.drop,Fs.drop_len r k,Fs.len];omega
theorem Fs.drop_cons:∀ (f:Fs) (k:Nat),k < f.len→∃ t y n s i,f.drop k=.cons t y n s i (f.drop (k+1))∧f.take (k+1)=(f.take k).app (.cons t y n s i .nil)
 | .cons t y n s i r,0,_ => ⟨t,y,n,s,i,by cases r <;> rfl,by cases r <;> rfl⟩
 | .cons t y n s i r,k+1,h => by
   obtain ⟨t',y',n',s',i',h1,h2⟩:=Fs.drop_cons r k (by simp [Fs.len] at h;omega)
   exact ⟨t',y',n',s',i',h1,by rw [Fs.take,h2];rfl⟩
theorem Fs.take_all:∀ (f:Fs) (k:Nat),f.len≤k→f.take k=f
 | .nil,0,_ => rfl
 | .nil,_+1,_ => rfl
 | .cons ..,0,h => by simp [Fs.len] at h
 | .cons t y n s i r,k+1,h => by rw [Fs.take,Fs.take_all r k (by simp [Fs.len] at h;omega)]
theorem Fs.take_len:∀ (f:Fs) (k:Nat),k≤f.len→(f.take k).len=k
 | f,0,_ => by cases f <;> rfl
 | .nil,_+1,h => by simp [Fs.len] at h
 | .cons t y n s i r,k+1,h => by rw [Fs.take,Fs.len,Fs.take_len r k (by simp [Fs.len] at h;omega)]
theorem FsAt.drop {w:World} {I:Nat→Prop}:∀ {f:Fs} {b o:Nat} (k:Nat),FsAt w I f b o→FsAt w I (f.drop k) b (o+k * 5)
 | f,b,o,0,h => by cases f <;> simpa [Fs.drop] using h
 | .nil,_,_,_+1,_ => trivial
 | .cons t y n s i r,b,o,k+1,h => by
   have:=FsAt.drop k h.2.2.2.2.2
   rw [show o+5+k * 5=o+(k+1) * 5 by omega] at this
   exact this
theorem FsAt.lt {w:World} {I:Nat→Prop}:∀ {f:Fs} {b o:Nat},FsAt w I f b o→FsAt w (fun k => I k∧k < w.heap.size) f b o
 | .nil,_,_,_ => trivial
 | .cons t y n s i r,b,o,h => by
   obtain ⟨h1,h2,h3,h4,⟨A,c,h5,hc,h6⟩,h7⟩:=h
   refine ⟨h1,h2,h3,h4,⟨A,c,h5,hc,?_⟩,FsAt.lt h7⟩
   rcases h6 with h6 | ⟨b',o',hA,hi,hlt,h8⟩
   · exact .inl h6
   · exact .inr ⟨b',o',hA,⟨hi,hlt⟩,hlt,FsAt.lt h8⟩
theorem SlV.lt {w:World} {I:Nat→Prop} {v:Value} {f:Fs} (h:SlV w I v f):SlV w (fun k => I k∧k < w.heap.size) v f:=by
 obtain ⟨A,c,hv,hc,h⟩:=h
 exact ⟨A,c,hv,hc,h.imp id fun ⟨b,o,hA,hi,hlt,h8⟩ => ⟨b,o,hA,⟨hi,hlt⟩,hlt,h8.lt⟩⟩
theorem Cls.lt {w:World} {I:Nat→Prop}:∀ {xs:List Value} {f:Fs},Cls w I xs f→Cls w (fun k => I k∧k < w.heap.size) xs f
 | [],.nil,_ => trivial
 | _ :: _ :: _ :: _ :: _ :: _,.cons ..,h => ⟨h.1,h.2.1,h.2.2.1,h.2.2.2.1,h.2.2.2.2.1.lt,Cls.lt h.2.2.2.2.2⟩
 | [],.cons ..,h => h.elim
 | _ :: _,.nil,h => by simp [Cls] at h
 | [_],.cons ..,h => by simp [Cls] at h
 | [_,_],.cons ..,h => by simp [Cls] at h
 | [_,_,_],.cons ..,h => by simp [Cls] at h
 | [_,_,_,_],.cons ..,h => by simp [Cls] at h
theorem Cls.grow {wq w3:World} {base g:Nat} {v:Value} {xs:List Value} {f:Fs} (h:Cls wq (fun k => base≤k∧v.ownBlock≠some k) xs f) (hg:wq.grownBy w3 v.ownBlock) (hat:v.ownBlock=some g∨g=wq.heap.size) :
 Cls w3 (fun k => base≤k∧some g≠some k) xs f:=by
 have h2:=Cls.tch (S:=fun k => v.ownBlock=some k) h.lt (Tch.grown hg fun k hk _ => hk) fun k hk => hk.1.2
 refine h2.imp fun k hk => ⟨hk.1.1,fun e => ?_⟩
 injection e with e
 subst e
 rcases hat with h | h
 · exact hk.1.2 h
 · have:=hk.2;omega
theorem BlkAt.news {w:World} {g:Nat} {t:TypeId} {cs:Array Value} (h:BlkAt w g t cs):∀ j u,cs.toList[j]? = some u→w.cell? ((⟨g,0,none⟩:Addr).add j)=some u:=by
 intro j u hj
 rw [add_at,h.cell j,← Array.getElem?_toList]
 exact hj
theorem Fs.All.imp {P Q:Nat→Int→Nat→ByteArray→Prop} (h:∀ t y n s,P t y n s→Q t y n s):∀ {f:Fs},f.All P→f.All Q
 | .nil,_ => trivial
 | .cons ..,hf => ⟨h _ _ _ _ hf.1,Fs.All.imp h hf.2.1,Fs.All.imp h hf.2.2⟩
theorem Fs.All.drop {P:Nat→Int→Nat→ByteArray→Prop}:∀ {f:Fs} (k:Nat),f.All P→(f.drop k).All P
 | f,0,h => by cases f <;> exact h
 | .nil,_+1,_ => trivial
 | .cons ..,k+1,h => Fs.All.drop k h.2.2
theorem Fs.drop_count:∀ (f:Fs) (k:Nat),(f.drop k).count≤f.count
 | f,0 => by cases f <;> exact Nat.le_refl _
 | .nil,_+1 => Nat.le_refl _
 | .cons _ _ _ _ _ r,k+1 => by have:=Fs.drop_count r k;rw [Fs.drop,Fs.count];omega
end Go.PM
end
