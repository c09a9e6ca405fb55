/-
  Texts of the proof, joined: CloneH FClone Shelf Shelf2. Conditions: as each names.
-/
import Derived.Test.YtgidfnhfgiehjaaGreatDoorXTopRejectsad
import Derived.Shelf.Unicode.ValidAny
import Derived.Shelf.Strings.Builder1
import Derived.Shelf.Small.Bits
import Derived.Shelf.Small.Strs
import Derived.Shelf.Strings.BuilderF
import Derived.Shelf.Strings.BuilderK
import Derived.Shelf.Strconv.Itoa0
import Derived.Shelf.Strings.Search1
import Derived.Shelf.Strings.Search2
import Derived.Shelf.Strings.Search3
import Derived.Shelf.LaysM
import Derived.Shelf.Strings.Shaped
import Derived.Shelf.Sort.Plain
import Derived.Ground.GgsProg
import Derived.Shelf.GgSortFunc.Insertion
import Derived.Shelf.GgSortFunc.Small
import Derived.Shelf.GgSortFunc.InsertionK
import Derived.Shelf.GgSortFunc.SmallK
import Derived.Shelf.GgSortFunc.Compose
import Derived.Shelf.GgSortFunc.LotD
import Derived.Shelf.Slices.CompactS
import Derived.Shelf.Slices.Cells
import Derived.Shelf.Slices.In.SortNone
import Derived.Shelf.SlSortFunc.Xorshift
import Derived.Shelf.SlSortFuncK.ComposeK
import Derived.Shelf.SlSortFuncK.SiftDownK
import Derived.Shelf.SlSortFuncK.HeapSortK
import Derived.Shelf.SlSortFuncK.PartialInsertionK
import Derived.Shelf.SlSortFuncK.LotDK
import Derived.Shelf.SlSortFuncK.PivotK
import Derived.Shelf.SlSortFuncK.PartitionK
import Derived.Shelf.SlSortFuncK.PdqK
import Derived.Ground.SlgnProg
import Derived.Shelf.SlicesE.Equal
import Derived.Test.YtgidfnhfgiehjaaGreatDoorProg
import Derived.Shelf.SlSortCmp.WholeK
import Derived.Shelf.SlSortCmp.NoneTotal
import Derived.Ground.SlsfProg
import Derived.Shelf.SlGeneric
import Derived.Shelf.SlicesE.Clone

section
namespace Go.PM
open Go.RowKit
section
variable {H g0 cur k n:Nat} {T Te:TypeId} {w:World} {xs:List Value}
theorem GP.put {b:Nat} {I:Nat→Prop} {t n':Nat} {y:Int} {s:ByteArray} {i r:Fs} {A':Option Addr} {m' c':Nat} (h:GP H g0 T w xs b k n) (hF:FB w T b) (hf:FsAt w I (.cons t y n' s i r) b (k * 5)) (hv:∀ a,A'=some a→m'≠0→g0 < a.block) :
 GP H g0 T (w.setCell ⟨b,k * 5+4,none⟩ (.slice A' m' c')) xs b (k+1) n:=by
 intro b2 cs hb hB o A m c ho hm
 by_cases e:b2=b
 · subst e
   obtain ⟨cs0,h0⟩:=hF
   have h1:=BlkAt.same hB (h0.put (k * 5+4) (.slice A' m' c'))
   subst h1
   by_cases eo:o=k * 5+4
   · subst eo
     rw [Array.getElem?_setIfInBounds] at ho
     simp only [if_true] at ho
     split at ho
     · simp only [Option.some.injEq,Value.slice.injEq] at ho
       obtain ⟨rfl,rfl,rfl⟩:=ho
       exact .inl (hv _ rfl hm)
     · cases ho
   · rw [Array.getElem?_setIfInBounds,if_neg (by omega)] at ho
     rcases h b2 cs0 hb h0 o A m c ho hm with h | h | ⟨_,h1,h2⟩
     · exact .inl h
     · exact .inr (.inl h)
     · right;right
       refine ⟨rfl,?_,h2⟩
       obtain ⟨a0,a1,a2,a3,_⟩:=hf
       rw [h0.cell] at a0 a1 a2 a3
       have n0:o≠k * 5:=by rintro rfl;rw [a0] at ho;simp at ho
       have n1:o≠k * 5+1:=by rintro rfl;rw [a1] at ho;simp at ho
       have n2:o≠k * 5+2:=by rintro rfl;rw [a2] at ho;simp at ho
       have n3:o≠k * 5+3:=by rintro rfl;rw [a3] at ho;simp at ho
       omega
 · have hB':BlkAt w b2 T cs:=by
    unfold BlkAt at hB ⊢
    rw [← hB]
    exact (Below.heap_setCell w ⟨b,k * 5+4,none⟩ _ b2 e).symm
   rcases h b2 cs hb hB' o A m c ho hm with h | h | ⟨h1,_⟩
   · exact .inl h
   · exact .inr (.inl h)
   · exact absurd h1 e
theorem GP.nt {w':World} (h:GP H g0 T w xs cur k n) (hn:NT Te w w') (hT:T≠Te):GP H g0 T w' xs cur k n:=fun b cs hb hB => h b cs hb (hn b T cs hT hB)
theorem GP.grow (h:GP H g0 T w xs cur k n) (x:Value):GP H g0 T w (xs++[x]) cur k n:=fun b cs hb hB o A m c ho hm => by
 rcases h b cs hb hB o A m c ho hm with h | ⟨f,a,d,h1,h2⟩ | h
 · exact .inl h
 · exact .inr (.inl ⟨f,a,d,List.mem_append_left _ h1,h2⟩)
 · exact .inr (.inr h)
theorem GP.alloc {cs':Array Value} {m' G:Nat} (h:GP H g0 T w xs cur k n) (hc:∀ (o:Nat) (A:Addr) (m c:Nat),cs'[o]? = some (.slice (some A) m c)→o < 5 * m') :
 GP H g0 T (w.drew.alloc (.cells cs' T)) (xs++[.slice (some ⟨w.heap.size,0,none⟩) m' G]) cur k n:=fun b cs hb hB o A m c ho hm => by
 by_cases e:b < w.heap.size
 · have hB':BlkAt w b T cs:=by
    unfold BlkAt at hB ⊢
    rw [← hB]
    exact (Below.heap_alloc w.drew (.cells cs' T) b e).symm
   exact h.grow _ b cs hb hB' o A m c ho hm
 · have hlt:=hB.lt
   simp at hlt
   obtain rfl:b=w.heap.size:=by omega
   have:=BlkAt.same hB (BlkAt.made w.drew T cs')
   subst this
   exact .inr (.inl ⟨0,m',G,by simp,hc o A m c ho⟩)
theorem GP.pop {b c:Nat} {A:Option Addr} (h:GP H g0 T w (xs++[.slice A n c]) 0 0 0) (hA:A=some ⟨b,0,none⟩∨n=0):GP H g0 T w xs b 0 n:=fun b2 cs hb hB o A' m c' ho hm => by
 rcases h b2 cs hb hB o A' m c' ho hm with h | ⟨f,a,d,h1,h2⟩ | ⟨_,_,h⟩
 · exact .inl h
 · rw [List.mem_append] at h1
   rcases h1 with h1 | h1
   · exact .inr (.inl ⟨f,a,d,h1,h2⟩)
   · simp only [List.mem_singleton,Value.slice.injEq] at h1
     obtain ⟨h3,rfl,rfl⟩:=h1
     rcases hA with hA | hA
     · rw [hA] at h3
       injection h3 with h3
       injection h3 with h3
       exact .inr (.inr ⟨h3,by omega,h2⟩)
     · omega
 · omega
theorem GP.done {b:Nat} (h:GP H g0 T w xs b n n):GP H g0 T w xs 0 0 0:=fun b2 cs hb hB o A' m c' ho hm => by
 rcases h b2 cs hb hB o A' m c' ho hm with h | h | ⟨_,h1,h2⟩
 · exact .inl h
 · exact .inr (.inl h)
 · omega
theorem GP.dr (h:GP H g0 T w xs cur k n):GP H g0 T w.drew xs cur k n:=h
theorem copy_cells {I:Nat→Prop} {ys:List Value} {f:Fs} {G:Nat} (hx:Cls w I ys f):∀ (o:Nat) (A:Addr) (m c:Nat),(ys.toArray++Builtin.zeroCells zfield.cells (G - f.len))[o]? = some (.slice (some A) m c)→o < 5 * f.len:=fun o A m c h => by
 have hl:=hx.length
 by_cases e:o < 5 * f.len
 · exact e
 · rw [Array.getElem?_append_right (by simp;omega)] at h
   exact absurd rfl (zcell_at _ _ _ h A m c)
theorem copy_size {I:Nat→Prop} {ys:List Value} {f:Fs} {G:Nat} (hx:Cls w I ys f) (hG:f.len≤G):(ys.toArray++Builtin.zeroCells zfield.cells (G - f.len)).size=G * 5:=by
 have hz:zfield.cells.size=5:=rfl
 rw [Array.size_append,size_zeroCells,hz,List.size_toArray,hx.length]
 omega
theorem copy_reads {I:Nat→Prop} {ys:List Value} {f:Fs} {G:Nat} (hx:Cls w I ys f) :
 FsAt (w.drew.alloc (.cells (ys.toArray++Builtin.zeroCells zfield.cells (G - f.len)) T)) I f w.heap.size 0:=by
 have hb:=BlkAt.made w.drew T (ys.toArray++Builtin.zeroCells zfield.cells (G - f.len))
 have hc:Cls (w.drew.alloc (.cells (ys.toArray++Builtin.zeroCells zfield.cells (G - f.len)) T)) I ys f:=hx.below (bd b0 |>.trans (ba (a:=w.drew) b0 _ |>.mono (by exact Nat.le_refl _)))
 refine hc.at_ fun j u hj => ?_
 rw [Nat.zero_add]
 have:=hb.cell j
 rw [show w.drew.heap.size=w.heap.size from rfl] at this
 rw [this,Array.getElem?_append_left (by simpa using (List.getElem?_eq_some_iff.1 hj).1)]
 simpa using hj
end
def CW (H g0:Nat) (T Te:TypeId) (w0:World) (f:Fs) (vc:Value) (b k:Nat) (f1:Fs) (v:Value) (L:List Fs) (w:World):Prop :=
 ∃ (g cap:Nat) (xs:List Value),v=.slice (some ⟨g,0,none⟩) L.length cap∧w.ownsRow H Te 1 v L.length xs∧CL H T w xs L∧CE H T w vc f∧(f1.len=0∨H≤b∧FB w T b∧FsAt w (IC H T w) f1 b 0)∧GP H g0 T w xs b k f1.len∧Below H w0 w∧g0 < w.heap.size∧H≤w.heap.size
section
variable {H g0 b k:Nat} {T Te:TypeId} {w0 w:World} {f f1:Fs} {vc v:Value} {L:List Fs}
theorem CW.at_ (h:CW H g0 T Te w0 f vc b k f1 v L w) (hk:k < f1.len):∃ t y n s i Ai ci,f1.drop k=.cons t y n s i (f1.drop (k+1))∧H≤b∧w.cell? ⟨b,k * 5+4,none⟩=some (.slice Ai i.len ci)∧w.frozen? ⟨b,k * 5+4,none⟩=false ∧
 i.len≤ci∧(i.len=0∨∃ b' o',Ai=some ⟨b',o',none⟩∧IC H T w b'∧b' < w.heap.size∧FsAt w (IC H T w) i b' o'):=by
 obtain ⟨g,cap,xs,rfl,hown,hcl,hce,hcur,hgp,hbel,hg1,hH⟩:=h
 obtain ⟨t,y,n,s,i,hdc,_⟩:=f1.drop_cons k hk
 rcases hcur with h0 | ⟨hb,hF,hf⟩
 · omega
 have hak:=hf.drop k
 rw [hdc,Nat.zero_add] at hak
 obtain ⟨a0,a1,a2,a3,⟨Ai,ci,a4,hci,hin⟩,_⟩:=hak
 obtain ⟨cs,hcs⟩:=hF
 exact ⟨t,y,n,s,i,Ai,ci,hdc,hb,a4,hcs.free _,hci,hin⟩
theorem CW.clear (hT:T≠Te) (h:CW H g0 T Te w0 f vc b k f1 v L w) (hk:k < f1.len) {t n:Nat} {y:Int} {s:ByteArray} {i:Fs} (hdc:f1.drop k=.cons t y n s i (f1.drop (k+1))) (hi:i.len=0) :
 CW H g0 T Te w0 f vc b (k+1) f1 v L (w.setCell ⟨b,k * 5+4,none⟩ (.slice none 0 0)):=by
 obtain ⟨g,cap,xs,rfl,hown,hcl,hce,hcur,hgp,hbel,hg1,hH⟩:=h
 rcases hcur with h0 | ⟨hb,hF,hf⟩
 · omega
 have hak:=hf.drop k
 rw [hdc,Nat.zero_add] at hak
 have hin:i=.nil:=Fs.len_zero hi
 subst hin
 obtain ⟨Ai,ci,a4,_⟩:=hak.2.2.2.2.1
 have hrp:Rp H T w (w.setCell ⟨b,k * 5+4,none⟩ (.slice none (Fs.nil.len) 0)):=Rp.anew (j:=.nil) a4 (.inl rfl) ⟨Nat.le_refl _,.inl rfl⟩
 have hne:∀ q,(Value.slice (some ⟨g,0,none⟩) L.length cap).ownBlock=some q→¬ (q=b):=fun q hq e => by
  simp only [Value.ownBlock,Option.some.injEq] at hq
  subst hq e
  rcases hown.2 with ⟨h1,_⟩ | ⟨g',cap',cur,h1,_,hgg,_⟩
  · simp at h1
  · simp only [Value.slice.injEq,Option.some.injEq,Addr.mk.injEq,and_true,true_and] at h1
    obtain ⟨rfl,_⟩:=h1
    obtain ⟨cs,hcs⟩:=hF
    exact hT (HasT.one hcs.hasT ⟨_,_,hgg⟩)
 exact ⟨g,cap,xs,rfl,own_tch hown ((Tch.refl (fun q => q=b) w).put (p:=⟨b,k * 5+4,none⟩) (fun _ => rfl) _) hne,hcl.rp hrp,hce.rp hrp,.inr ⟨hb,hrp.2.1 b hF,hrp.1 f1 b 0 (.inr hF) hf⟩,hgp.put hF hak (fun a h => by cases h),hbel.setCell hb _,by simpa [World.setCell] using hg1,by simpa [World.setCell] using hH⟩
theorem CW.fill (hT:T≠Te) (h:CW H g0 T Te w0 f vc b k f1 v L w) (hk:k < f1.len) {t n:Nat} {y:Int} {s:ByteArray} {i:Fs} (hdc:f1.drop k=.cons t y n s i (f1.drop (k+1)))
 {ys:List Value} {G:Nat} (hG:i.len≤G∧G≤maxLen) (hx:Cls w (fun q => IC H T w q∧q < w.heap.size) ys i) {wa:World} (ha:wa=w.drew.alloc (.cells (ys.toArray++Builtin.zeroCells zfield.cells (G - i.len)) T))
 {g cap g3 cap3:Nat} {xs:List Value} {w3:World} (hv:v=.slice (some ⟨g,0,none⟩) L.length cap) (hown:w.ownsRow H Te 1 v L.length xs)
 (hown3:w3.ownsRow H Te 1 (.slice (some ⟨g3,0,none⟩) (L.length+1) cap3) (L.length+1) (xs++[.slice (some ⟨w.heap.size,0,none⟩) i.len G]))
 (hg3:((wa.setCell ⟨b,k * 5+4,none⟩ (.slice (some ⟨w.heap.size,0,none⟩) i.len G)).alloc (.cells #[.slice (some ⟨w.heap.size,0,none⟩) i.len G] Te)).grownBy w3 v.ownBlock)
 (hnt:NT Te ((wa.setCell ⟨b,k * 5+4,none⟩ (.slice (some ⟨w.heap.size,0,none⟩) i.len G)).alloc (.cells #[.slice (some ⟨w.heap.size,0,none⟩) i.len G] Te)) w3) :
 CW H g0 T Te w0 f vc b (k+1) f1 (.slice (some ⟨g3,0,none⟩) (L.length+1) cap3) (L++[i]) w3:=by
 obtain ⟨g',cap',xs',hv',hown',hcl,hce,hcur,hgp,hbel,hg1,hH⟩:=h
 have hxs:xs'=xs:=by
  rcases hown.2 with ⟨h1,_⟩ | ⟨g1,cap1,cur1,h1,_,hgg,_,_,_,ht⟩
  · rw [hv] at h1;simp at h1
  · rcases hown'.2 with ⟨h2,_⟩ | ⟨g2,cap2,cur2,h2,_,hgg2,_,_,_,ht2⟩
    · rw [hv] at h2;simp at h2
    · rw [h1] at h2
      simp only [Value.slice.injEq,Option.some.injEq,Addr.mk.injEq,and_true,true_and] at h2
      obtain ⟨rfl,_⟩:=h2
      rw [hgg] at hgg2
      injection hgg2 with hgg2
      injection hgg2 with hgg2
      rw [← ht,← ht2,hgg2]
 subst hxs
 rcases hcur with h0 | ⟨hb,hF,hf⟩
 · omega
 have hak:=hf.drop k
 rw [hdc,Nat.zero_add] at hak
 obtain ⟨Ai,ci,a4,hci,hin⟩:=hak.2.2.2.2.1
 have hba:Below w.heap.size w wa:=by rw [ha];exact ba (a:=w) (bd b0) _
 have hra:Rp H T w wa:=Rp.below hH hba
 have hsza:wa.heap.size=w.heap.size+1:=by rw [ha];simp
 have hFa:=hra.2.1 b hF
 have hfa:=hra.1 f1 b 0 (.inr hF) hf
 have hgpa:GP H g0 T wa (xs'++[.slice (some ⟨w.heap.size,0,none⟩) i.len G]) b k f1.len:=by rw [ha];exact hgp.alloc (copy_cells hx)
 have hread:FsAt wa (fun q => IC H T w q∧q < w.heap.size) i w.heap.size 0:=by rw [ha];exact copy_reads hx
 have hnew:FB wa T w.heap.size:=by rw [ha];exact ⟨_,BlkAt.made w.drew T _⟩
 have hia:FsAt wa (IC H T wa) i w.heap.size 0:=hread.imp fun q hq => hq.1.imp id (hra.2.1 q)
 have haka:=hfa.drop k
 rw [hdc,Nat.zero_add] at haka
 obtain ⟨Aj,cj,a4',_,hinj⟩:=haka.2.2.2.2.1
 -- the place is written
 have hrb:Rp H T wa (wa.setCell ⟨b,k * 5+4,none⟩ (.slice (some ⟨w.heap.size,0,none⟩) i.len G)) :=
  Rp.anew a4' (hinj.imp id fun ⟨b',o',e1,_,_,e2⟩ => ⟨b',o',e1,e2⟩) ⟨hG.1,.inr ⟨w.heap.size,0,rfl,.inr hnew,hnew.lt,hia⟩⟩
 have hgpb:=GP.put (A':=.some ⟨w.heap.size,0,none⟩) (m':=i.len) (c':=G) hgpa hFa haka (fun a h _ => by injection h with h;subst h;exact hg1)
 have hszb:(wa.setCell ⟨b,k * 5+4,none⟩ (.slice (some ⟨w.heap.size,0,none⟩) i.len G)).heap.size=w.heap.size+1:=by simp [World.setCell,hsza]
 generalize hwb:wa.setCell ⟨b,k * 5+4,none⟩ (.slice (some ⟨w.heap.size,0,none⟩) i.len G)=wb at *
 have hbc:Below wb.heap.size wb (wb.alloc (.cells #[.slice (some ⟨w.heap.size,0,none⟩) i.len G] Te)):=ba b0 _
 have hrc:Rp H T wb (wb.alloc (.cells #[.slice (some ⟨w.heap.size,0,none⟩) i.len G] Te)):=Rp.below (by omega) hbc
 have hgH:H≤g∧g < w.heap.size:=hown.lt g (by rw [hv];rfl)
 have hgT:HasT w g Te:=by
  rcases hown.2 with ⟨h1,_⟩ | ⟨g1,cap1,cur1,h1,_,hgg,_⟩
  · rw [hv] at h1;simp at h1
  · rw [hv] at h1
    simp only [Value.slice.injEq,Option.some.injEq,Addr.mk.injEq,and_true,true_and] at h1
    obtain ⟨rfl,_⟩:=h1
    exact ⟨_,_,hgg⟩
 have hgTa:HasT wa g Te:=by obtain ⟨c1,f1,h1⟩:=hgT;exact ⟨c1,f1,(hba.block g hgH.2).trans h1⟩
 have hgTb:HasT wb g Te:=by rw [← hwb];exact hgTa.put _ _
 have hgTc:HasT (wb.alloc (.cells #[.slice (some ⟨w.heap.size,0,none⟩) i.len G] Te)) g Te:=by obtain ⟨c1,f1,h1⟩:=hgTb;exact ⟨c1,f1,(hbc.block g (by omega)).trans h1⟩
 have htch:Tch (fun q => some g=some q) (wb.alloc (.cells #[.slice (some ⟨w.heap.size,0,none⟩) i.len G] Te)) w3:=Tch.grown hg3 fun q hq _ => by rw [hv] at hq;simpa [Value.ownBlock] using hq
 have hr3:Rp H T (wb.alloc (.cells #[.slice (some ⟨w.heap.size,0,none⟩) i.len G] Te)) w3:=Rp.tch (by simp;omega) htch hgH.1 (fun ⟨cs,hcs⟩ => hT (HasT.one hcs.hasT hgTc))
 have hall:Rp H T wa w3:=(hrb.trans hrc).trans hr3
 have hnz:FZ wa T w.heap.size (G * 5):=by rw [ha];exact ⟨_,BlkAt.made w.drew T _,copy_size hx hG.1⟩
 have hne:CE H T wa (.slice (some ⟨w.heap.size,0,none⟩) i.len G) i:=⟨_,G,rfl,hG.1,.inr ⟨w.heap.size,rfl,hH,hG.2,hnz,hia⟩⟩
 have hbw:Below H w wb:=by rw [← hwb];exact (hba.mono hH).setCell hb _
 have hs3:=htch.size
 simp only [World.size_alloc,hszb] at hs3
 refine ⟨g3,cap3,_,by simp,by simpa using hown3,((hcl.rp hra).rp hall).push (hne.rp hall),(hce.rp hra).rp hall,.inr ⟨hb,hall.2.1 b hFa,hall.1 f1 b 0 (.inr hFa) hfa⟩,(hgpb.nt (NT.alloc Te wb _) hT).nt hnt hT,?_,by omega,by omega⟩
 exact hbel.trans ((hbw.alloc (by omega) _).trans (htch.toBelowB (by simp;omega) fun q hq e => by injection e with e;omega))
end
end Go.PM
end

section
namespace Go.Proofs.YtgidfnhfgiehjaaGreatDoor
open Go.RowKit Go.PM
set_option maxRecDepth 100000
set_option maxHeartbeats 4000000
attribute [local go_sem ↓] Go.wp_at_zero Go.wp_at_succ
def FCloneEnd (w:World) (f:Fs) (e:Ending) (w':World):Prop :=
 ∃ (A:Option Addr) (c g0:Nat) (xs:List Value),e=.returned (.slice A f.len c)∧f.len≤c∧w'.ownsRow w.heap.size 47 5 (.slice A f.len c) f.len xs∧Cls w' (fun k => g0 < k∧FB w' 47 k) xs f ∧
  w.heap.size≤g0∧(∀ g,(Value.slice A f.len c).ownBlock=some g→g=g0∧FB w' 47 g)∧Below w.heap.size w w'
theorem clone_start {w:World} {I:Nat→Prop} {A:Option Addr} {c:Nat} {f:Fs} (hr:SlV w I (.slice A f.len c) f) (h60:f.len≤1000000) :
 ∃ (A1:Option Addr) (c1 g0:Nat) (w1:World),(Builtin.append_ #[33,33] 33 #[.slice none 0 0,.slice A f.len c]).run Tryz.prog w=.ok (.slice A1 f.len c1) w1∧Below w.heap.size w w1 ∧
  CE w.heap.size 47 w1 (.slice A1 f.len c1) f∧GP w.heap.size g0 47 w1 [.slice A1 f.len c1] 0 0 0∧g0 < w1.heap.size+1∧(f.len=0∨g0=w.heap.size∧A1=some ⟨w.heap.size,0,none⟩):=by
 obtain ⟨i0,hi0,hz0,hz1,hz2⟩:=info_parts info_field
 have hlt:=hr.lt
 by_cases h0:f.len=0
 · refine ⟨none,0,0,w,?_,b0,⟨none,0,rfl,by omega,.inl ⟨h0,rfl,rfl⟩⟩,fun b cs hb hB => by have:=hB.lt;omega,by omega,.inl h0⟩
   have:=copy_none (P:=Tryz.prog) w 33 33 47 i0 Tryz.underlying33 hi0 A c
   rw [h0]
   exact this
 · obtain ⟨ys,G,hx,hG,hrun⟩:=copy_some (P:=Tryz.prog) w 33 33 47 i0 Tryz.underlying33 hi0 hz0 hz1 hz2 hlt (by omega) h60
   have hb:Below w.heap.size w (w.drew.alloc (.cells (ys.toArray++Builtin.zeroCells zfield.cells (G - f.len)) 47)):=ba (a:=w) (bd b0) _
   refine ⟨some ⟨w.heap.size,0,none⟩,G,w.heap.size,_,hrun,hb,⟨_,G,rfl,hG.1,.inr ⟨w.heap.size,rfl,Nat.le_refl _,hG.2,⟨_,BlkAt.made w.drew _ _,copy_size hx hG.1⟩,(copy_reads hx).imp fun q hq => .inl hq.2⟩⟩,?_,by simp;omega,.inr ⟨rfl,rfl⟩⟩
   have hg0:GP w.heap.size w.heap.size 47 w [] 0 0 0:=fun b cs hb hB => by have:=hB.lt;omega
   exact hg0.alloc (copy_cells hx)
theorem clone_of (v:Value) (f:Fs) (I:Nat→Prop) (w:World) (hr:SlV w I v f) (h60:f.count≤1000000):Calls Tryz.prog 49 #[v] w (FCloneEnd w f):=by
 have hfl:=Nat.le_trans f.len_count h60
 obtain ⟨A,c,rfl,hr'⟩:=id hr
 obtain ⟨A1,c1,g0,w1,hrun,hb1,hce,hgp,hg0,hor⟩:=clone_start hr hfl
 have HRUN:=Lib.hid hrun
 have H60:=Lib.hid h60
 have HB1:=Lib.hid hb1
 have HOR:=Lib.hid hor
 have hst:CW w.heap.size g0 47 33 w f (.slice A1 f.len c1) 0 0 .nil (.slice (some ⟨w1.heap.size,0,none⟩) 1 1) [f] (w1.alloc (.cells #[.slice A1 f.len c1] 33)):=by
  have hbo:=ba (a:=w1) b0 (.cells #[.slice A1 f.len c1] 33)
  have hrp:=Rp.below (T:=47) hb1.size hbo
  exact ⟨w1.heap.size,1,[.slice A1 f.len c1],rfl,World.ownsRow_lit w1 #[.slice A1 f.len c1] 1 hb1.size (by decide) rfl,(CL.nil (T:=47)).push (hce.rp hrp),hce.rp hrp,.inl rfl,GP.nt (Te:=33) hgp (NT.alloc _ w1 _) (by decide),hb1.alloc hb1.size _,by simp;omega,Nat.le_trans hb1.size hbo.size⟩
 have HST:=Lib.hid hst
 obtain ⟨i0,hi0,hz0,hz1,hz2⟩:=info_parts info_fields
 obtain ⟨j0,hj0,hy0,hy1,hy2⟩:=info_parts info_field
 clear hr hr' hrun hb1 hce hgp hor hst h60 hg0
 go_enter Tryz.func49,Tryz.ntmps49
 go_wp2_with (at_builtin;(refine wpList_append_run rfl _ _ _ _ rfl _ _ _ rfl rfl HRUN.out ?_))
 go_loopg [4] 2000001 (fun gk vv wr => ∃ (L:List Fs),Hid (2 * lsum L+L.length≤gk∧gk≤2000001)∧CW w.heap.size g0 47 33 w f (.slice A1 f.len c1) 0 0 .nil vv L wr)
 case atStart => exact ⟨[f],⟨by have:=H60.out;simp [lsum];omega,Nat.le_refl _⟩,HST.out⟩
 case round =>
  obtain ⟨L,hn,hcw⟩:=hrel
  have HCW:=Lib.hid hcw
  obtain ⟨g,cap,xs,rfl,hown,hcl,hce,_,hgp,hbel,hg0,hH⟩:=hcw
  cases hL:L.length with
  | zero =>
    obtain rfl:L=[]:=List.eq_nil_of_length_eq_zero hL
    obtain rfl:xs=[]:=List.eq_nil_of_length_eq_zero (by rw [hcl.1];rfl)
    have HE:Hid (FCloneEnd w f (.returned (.slice A1 f.len c1)) wr):=by
     obtain ⟨A2,c2,hv,hc2,hor⟩:=hce
     injection hv with e1 e2 e3
     subst e1 e3
     rcases hor with ⟨h,rfl,rfl⟩ | ⟨b,hb,hbH,hm,hF,hf⟩
     · have:f=.nil:=Fs.len_zero h
       subst this
       exact ⟨none,0,w.heap.size,[],rfl,Nat.le_refl _,World.ownsRow_nil _ _ _ _,trivial,Nat.le_refl _,fun g hg => (by cases hg),hbel⟩
     · subst hb
       have hg0:f.len=0∨g0=b:=by
        rcases HOR.out with h | ⟨h1,h2⟩
        · exact .inl h
        · injection h2 with h2
          injection h2 with h2
          exact .inr (h1.trans h2.symm)
       obtain ⟨cs,hcs,hsz⟩:=hF
       by_cases h0:f.len=0
       · have:f=.nil:=Fs.len_zero h0
         subst this
         exact ⟨some ⟨b,0,none⟩,c1,b,_,rfl,hc2,⟨by simp [Fs.len],.inr ⟨b,c1,cs,rfl,hbH,hcs,hc2,hm,hsz,rfl⟩⟩,by simp [Fs.len,Cls],hbH,fun g hg => by injection hg with hg;subst hg;exact ⟨rfl,cs,hcs⟩,hbel⟩
       · have hgb:g0=b:=by rcases hg0 with h | h;exact absurd h h0;exact h
         subst hgb
         exact ⟨some ⟨g0,0,none⟩,c1,g0,_,rfl,hc2,⟨by have:f.len * 5≤cs.size:=(by rw [hsz];exact Nat.mul_le_mul_right 5 hc2);rw [List.length_take,Array.length_toList];omega,.inr ⟨g0,c1,cs,rfl,hbH,hcs,hc2,hm,hsz,rfl⟩⟩,cls_of_blk (hgp.out hbH hbH ⟨cs,hcs⟩ hf) hcs,hbH,fun g hg => by injection hg with hg;subst hg;exact ⟨rfl,cs,hcs⟩,hbel⟩
    clear hown hcl hce hgp hbel hL hn
    go_wp2_with fail
    go_ret
    exact HE.out
  | succ m =>
    obtain ⟨L',f1,x,rfl,hL',hx,hsx,hcl'⟩:=hcl.pop hL
    obtain ⟨Ax,cx,rfl,hcx,hor⟩:=hsx
    obtain ⟨b,hbx⟩:∃ b,f1.len=0∨Ax=some ⟨b,0,none⟩∧w.heap.size≤b∧FB wr 47 b∧FsAt wr (IC w.heap.size 47 wr) f1 b 0:=by
     rcases hor with ⟨h,_⟩ | ⟨b,h1,h2,_,h3,h4⟩
     · exact ⟨0,.inl h⟩
     · exact ⟨b,.inr ⟨h1,h2,h3.fb,h4⟩⟩
    have hcell:=hown.cellAt m (by rw [hL];omega)
    rw [hx] at hcell
    rw [hL] at hown
    have HO:=Lib.hid (own_pop hown)
    obtain ⟨hmc,hcap⟩:=own_cap hown
    have hmi:(m:Int)≤(cap:Int):=by omega
    have hxs:xs=xs.take m++[.slice Ax f1.len cx]:=by
     have hl:xs.length=m+1:=by rw [hcl.1,hL]
     have hm:m < xs.length:=by omega
     have h1:=List.take_append_getElem hm
     rw [List.getElem?_eq_getElem hm] at hx
     injection hx with hx
     rw [hx,show List.take (m+1) xs=xs from List.take_of_length_le (by omega)] at h1
     exact h1.symm
    have hin:CW w.heap.size g0 47 33 w f (.slice A1 f.len c1) b 0 f1 (.slice (some ⟨g,0,none⟩) m cap) L' wr:=by
     refine ⟨g,cap,xs.take m,by rw [hL'],by rw [hL'];have:=HO.out;rwa [Nat.mul_one] at this,hcl',hce,hbx.imp id fun h => h.2,?_,hbel,hg0,hH⟩
     rw [hxs] at hgp
     exact hgp.pop (hbx.symm.imp (fun h => h.1) id)
    have HIN:=Lib.hid hin
    have HBX:Hid (f1.len=0∨Ax=some ⟨b,0,none⟩):=hbx.imp id fun h => h.1
    obtain ⟨hn2,hgT⟩:=hn.out
    rw [lsum_app] at hn2
    simp only [lsum,List.length_append,List.length_cons,List.length_nil] at hn2
    have hfc:=f1.count_in
    have H0:Hid (2 * lsum L'+L'.length+2 * f1.icount+f1.len+1≤gk∧gk≤2000001):=⟨by omega,hgT⟩
    have hm6:m≤2000001:=by omega
    have hf6:f1.len≤2000001:=by omega
    obtain ⟨G,hG⟩:∃ G,G=gk:=⟨gk,rfl⟩
    rw [← hG] at H0
    have HG:=Lib.hid hG
    clear hG hn hn2 hgT hfc hown hcl hce hgp hbel hin hor hbx hx hL hL' hcl' hxs HCW HO
    go_wp2_with fail
    go_loopg [4,28] f1.len (fun gj vv kk w2 => ∃ (k:Nat) (L2:List Fs),k+gj=f1.len∧kk=.int .i64 (k:Int)∧Hid (2 * lsum L2+L2.length+2 * (f1.drop k).icount+(f1.drop k).len+1≤G)∧CW w.heap.size g0 47 33 w f (.slice A1 f.len c1) b k f1 vv L2 w2)
    case atStart =>
     refine ⟨0,L',by omega,rfl,?_,HIN.out⟩
     have:f1.drop 0=f1:=by cases f1 <;> rfl
     rw [this]
     exact H0.out.1
    case round =>
     obtain ⟨k,L2,hkj,rfl,hn2,hcw⟩:=hrel
     have HCW:=Lib.hid hcw
     by_cases hlt:k < f1.len
     · obtain ⟨t,y,n,s,i,Ai,ci,hdc,hbH,a4,hfr,hci,hin⟩:=hcw.at_ hlt
       have hA:Ax=some ⟨b,0,none⟩:=by
        rcases HBX.out with h | h
        · omega
        · exact h
       subst hA
       have hkl:(k:Int) < (f1.len:Int):=by omega
       have hn3:=hn2.out
       rw [hdc] at hn3
       simp only [Fs.icount,Fs.len] at hn3
       have hic:=i.count_in
       have HDC:=Lib.hid hdc
       obtain ⟨g2,cap2,xs2,rfl,hown2,_,_,_,_,hbel2,_,hH2⟩:=hcw
       by_cases hi0':i.len=0
       · have HN:Hid (2 * lsum L2+L2.length+2 * (f1.drop (k+1)).icount+(f1.drop (k+1)).len+1≤G):=by show _≤_;omega
         have hr2:=copy_none (P:=Tryz.prog) wr 33 33 47 j0 Tryz.underlying33 hj0 Ai ci
         have hnil:i=.nil:=Fs.len_zero hi0'
         subst hnil
         have HR2:=Lib.hid hr2
         clear hn3 hn2 hown2 hbel2 hin hic hi0' hr2 hdc
         go_wp2_with (at_builtin;(refine wpList_append_run rfl _ _ _ _ rfl _ _ _ rfl rfl HR2.out ?_))
         go_roundg (f1.len - (k+1))
         case measure => omega
         case rel =>
          refine ⟨k+1,L2,by omega,by go_num,HN.out,?_⟩
          exact HCW.out.clear (by decide) hlt HDC.out rfl
       · have hip:(0:Int) < (i.len:Int):=by omega
         have hipn:0 < i.len:=by omega
         have HN:Hid (2 * lsum (L2++[i])+(L2++[i]).length+2 * (f1.drop (k+1)).icount+(f1.drop (k+1)).len+1≤G):=by
          rw [lsum_app]
          simp only [lsum,List.length_append,List.length_cons,List.length_nil]
          show _≤_
          omega
         have hi6:i.len≤1000000:=by have:=i.len_count;have:=H0.out.2;omega
         have hL6:L2.length+1≤4000001:=by have:=H0.out.2;omega
         have hsl:SlV wr (fun q => IC w.heap.size 47 wr q∧q < wr.heap.size) (.slice Ai i.len ci) i:=by
          have h1:SlV wr (IC w.heap.size 47 wr) (.slice Ai i.len ci) i:=⟨Ai,ci,rfl,hci,hin⟩
          exact h1.lt
         obtain ⟨ys,GG,hx,hGG,hr2⟩:=copy_some (P:=Tryz.prog) wr 33 33 47 j0 Tryz.underlying33 hj0 hy0 hy1 hy2 hsl hipn hi6
         obtain ⟨wa,hwa⟩:∃ wa,wa=wr.drew.alloc (.cells (ys.toArray++Builtin.zeroCells zfield.cells (GG - i.len)) 47):=⟨_,rfl⟩
         rw [← hwa] at hr2
         have hba:Below wr.heap.size wr wa:=by rw [hwa];exact ba (a:=wr) (bd b0) _
         have HWA:=Lib.hid hwa
         have HR2:=Lib.hid hr2
         have HX:=Lib.hid hx
         have HGG:=Lib.hid hGG
         obtain ⟨cs5,hcs5⟩:∃ cs,BlkAt wr b 47 cs:=by
          obtain ⟨_,_,_,_,_,_,_,hcur,_⟩:=HCW.out
          rcases hcur with h | ⟨_,h,_⟩
          · omega
          · exact h
         have hbl:=hcs5.lt
         have a5:=(World.cell?_of_block (a:=⟨b,k * 5+4,none⟩) (hba.block b hbl)).trans a4
         have hfr5:=(hcs5.below hba hbl).free (k * 5+4)
         have hg2l:=hown2.lt g2 rfl
         have hsza:wa.heap.size=wr.heap.size+1:=by rw [hwa];simp
         have hne:g2≠b:=by
          rintro rfl
          rcases hown2.2 with ⟨h1,_⟩ | ⟨g',cap',cur,h1,_,hgg,_⟩
          · simp at h1
          · simp only [Value.slice.injEq,Option.some.injEq,Addr.mk.injEq,and_true,true_and] at h1
            obtain ⟨rfl,_⟩:=h1
            exact absurd (HasT.one hcs5.hasT ⟨_,_,hgg⟩) (by decide)
         have howna:=(own_tch (own_below hown2 hba) ((Tch.refl (fun q => q=b) wa).put (p:=⟨b,k * 5+4,none⟩) (fun _ => rfl) (.slice (some ⟨wr.heap.size,0,none⟩) i.len GG)) (fun q hq e => by simp only [Value.ownBlock,Option.some.injEq] at hq;omega)).alloc (.cells #[.slice (some ⟨wr.heap.size,0,none⟩) i.len GG] 33)
         have hszb:(wa.setCell ⟨b,k * 5+4,none⟩ (.slice (some ⟨wr.heap.size,0,none⟩) i.len GG)).heap.size=wr.heap.size+1:=by simp [World.setCell,hsza]
         have hnb:=BlkAt.made (wa.setCell ⟨b,k * 5+4,none⟩ (.slice (some ⟨wr.heap.size,0,none⟩) i.len GG)) 33 #[.slice (some ⟨wr.heap.size,0,none⟩) i.len GG]
         rw [show (wa.setCell ⟨b,k * 5+4,none⟩ (.slice (some ⟨wr.heap.size,0,none⟩) i.len GG)).heap.size=wa.heap.size by simp [World.setCell]] at hnb
         have HOA:=Lib.hid howna
         have HNB:=Lib.hid hnb
         have HO2:=Lib.hid hown2
         have HSZ:Hid (w.heap.size≤((wa.setCell ⟨b,k * 5+4,none⟩ (.slice (some ⟨wr.heap.size,0,none⟩) i.len GG)).alloc (.cells #[.slice (some ⟨wr.heap.size,0,none⟩) i.len GG] 33)).heap.size):=by show _≤_;rw [World.size_alloc,hszb];omega
         clear hn3 hn2 hown2 hbel2 hin hic hi0' hr2 hdc hwa hx hGG hsl hba hcs5 hg2l hsza hne howna hszb hnb hbl
         go_wp2_with (first | (at_builtin;refine wpList_append_run rfl _ _ _ _ rfl _ _ _ rfl rfl HR2.out ?_) | (at_builtin;go_loud (refine wpList_append_push rfl _ _ 169 rfl w.heap.size 33 i0 _ 24 Tryz.underlying169 hi0 hz0 hz1 hz2 (by decide) rfl _ L2.length xs2 rfl HOA.out wa.heap.size (.slice (some ⟨wr.heap.size,0,none⟩) i.len GG) rfl HNB.out rfl hL6 HSZ.out ?_);intro g3 cap3 w3 hown3 hg3 hat3 hlt3 hnt3;have HO3:=Lib.hid hown3;have HG3:=Lib.hid hg3;have HN3:=Lib.hid hnt3;clear hown3 hg3 hat3 hlt3 hnt3))
         go_roundg (f1.len - (k+1))
         case measure => omega
         case rel => exact ⟨k+1,L2++[i],by omega,by go_num,HN.out,HCW.out.fill (by decide) hlt HDC.out HGG.out HX.out HWA.out rfl HO2.out HO3.out HG3.out HN3.out⟩
     · obtain rfl:k=f1.len:=by omega
       have hlr:f1.drop f1.len=.nil:=Fs.len_zero (by rw [Fs.drop_len];omega)
       rw [hlr] at hn2
       have HE:Hid (2 * lsum L2+L2.length < G):=by have:=hn2.out;simp only [Fs.icount,Fs.len] at this;show _ < _;omega
       obtain ⟨g2,cap2,xs2,rfl,h1,h2,h3,h4,h5,h6⟩:=hcw
       have HW:Hid (CW w.heap.size g0 47 33 w f (.slice A1 f.len c1) 0 0 .nil (.slice (some ⟨g2,0,none⟩) L2.length cap2) L2 wr):=⟨g2,cap2,xs2,rfl,h1,h2,h3,.inl rfl,h5.done,h6⟩
       clear hn2 h1 h2 h3 h4 h5 h6 hlr HCW
       go_wp2_with fail
       go_roundg (2 * lsum L2+L2.length)
       case measure => rw [← HG.out];exact HE.out
       case rel => exact ⟨L2,⟨Nat.le_refl _,by have:=HE.out;have:=H0.out.2;omega⟩,HW.out⟩
end Go.Proofs.YtgidfnhfgiehjaaGreatDoor
end

section
namespace Go.Proofs
open Go.Shelf
def Tryz.lays169_ren:Go.Shelf.Ren:=⟨fun | 169 => 126 | n => n,fun | 70 => 220 | 9 => 9 | 0 => 0 | 72 => 222 | 37 => 42 | 127 => 261 | 3 => 3 | 5 => 5 | n => n,fun | n => n⟩
theorem Tryz.lays169:Go.Proofs.Lays.n169 Tryz.prog Tryz.lays169_ren:={
 mixed:=by kernel_rfl
 f169:=Tryz.func126.trans (congrArg some (by kernel_rfl))
 t0:=Tryz.underlying0
 a0:=Tryz.isAgg0
 z0:=Tryz.sizeOf0
 v0:=Tryz.zeroValue0
 t3:=Tryz.underlying3
 a3:=Tryz.isAgg3
 z3:=Tryz.sizeOf3
 v3:=Tryz.zeroValue3
 t9:=Tryz.underlying9
 a9:=Tryz.isAgg9
 z9:=Tryz.sizeOf9
 v9:=Tryz.zeroValue9
 t37:=Tryz.underlying42
 a37:=Tryz.isAgg42
 z37:=Tryz.sizeOf42
 v37:=Tryz.zeroValue42
 t70:=Tryz.underlying220
 a70:=Tryz.isAgg220
 z70:=Tryz.sizeOf220
 v70:=Tryz.zeroValue220
 t72:=Tryz.underlying222
 a72:=Tryz.isAgg222
 z72:=Tryz.sizeOf222
 v72:=Tryz.zeroValue222
 t127:=Tryz.underlying261
 a127:=Tryz.isAgg261
 z127:=Tryz.sizeOf261
 v127:=Tryz.zeroValue261 }
theorem Tryz.Builder_Extra_169:Builder.Extra Tryz.prog Tryz.lays169_ren:={
 sizeBuilder:=by kernel_rfl
 liesBuilder:=by kernel_rfl
 t5:=Tryz.underlying5
 a5:=Tryz.isAgg5
 z5:=Tryz.sizeOf5
 v5:=Tryz.zeroValue5
 infoByte:=by kernel_rfl
 cellsByte:=by kernel_rfl
 sizeByte:=by kernel_rfl
 neB5:=by decide }
def Tryz.lays125_ren:Go.Shelf.Ren:=⟨fun | 125 => 149 | 128 => 194 | 129 => 195 | n => n,fun | 46 => 142 | 3 => 3 | 51 => 52 | 53 => 22 | 4 => 4 | 5 => 5 | 9 => 9 | n => n,fun | n => n⟩
theorem Tryz.lays125:Go.Proofs.Lays.n125 Tryz.prog Tryz.lays125_ren:={
 mixed:=by kernel_rfl
 f125:=Tryz.func149.trans (congrArg some (by kernel_rfl))
 f128:=Tryz.func194.trans (congrArg some (by kernel_rfl))
 f129:=Tryz.func195.trans (congrArg some (by kernel_rfl))
 t3:=Tryz.underlying3
 a3:=Tryz.isAgg3
 z3:=Tryz.sizeOf3
 v3:=Tryz.zeroValue3
 t4:=Tryz.underlying4
 a4:=Tryz.isAgg4
 z4:=Tryz.sizeOf4
 v4:=Tryz.zeroValue4
 t5:=Tryz.underlying5
 a5:=Tryz.isAgg5
 z5:=Tryz.sizeOf5
 v5:=Tryz.zeroValue5
 t9:=Tryz.underlying9
 a9:=Tryz.isAgg9
 z9:=Tryz.sizeOf9
 v9:=Tryz.zeroValue9
 t46:=Tryz.underlying142
 a46:=Tryz.isAgg142
 z46:=Tryz.sizeOf142
 v46:=Tryz.zeroValue142
 t51:=Tryz.underlying52
 a51:=Tryz.isAgg52
 z51:=Tryz.sizeOf52
 v51:=Tryz.zeroValue52
 t53:=Tryz.underlying22
 a53:=Tryz.isAgg22
 z53:=Tryz.sizeOf22
 v53:=Tryz.zeroValue22 }
theorem Tryz.bits_Len (x:Int) (w:World) (h0:0≤x) (h1:x≤18446744073709551615) :
 Calls Tryz.prog 149 #[.int .u64 x] w fun e w' => e=.returned (.int .i64 (Lib.bitLen x.toNat))∧w'=w:=Any.bits_Len Tryz.lays125 x w h0 h1
def Tryz.lays106_ren:Go.Shelf.Ren:=⟨fun | 106 => 250 | 213 => 252 | 265 => 254 | n => n,fun | 9 => 9 | 3 => 3 | n => n,fun | n => n⟩
theorem Tryz.lays106:Go.Proofs.Lays.n106 Tryz.prog Tryz.lays106_ren:={
 mixed:=by kernel_rfl
 f106:=Tryz.func250.trans (congrArg some (by kernel_rfl))
 f213:=Tryz.func252.trans (congrArg some (by kernel_rfl))
 f265:=Tryz.func254.trans (congrArg some (by kernel_rfl))
 t3:=Tryz.underlying3
 a3:=Tryz.isAgg3
 z3:=Tryz.sizeOf3
 v3:=Tryz.zeroValue3
 t9:=Tryz.underlying9
 a9:=Tryz.isAgg9
 z9:=Tryz.sizeOf9
 v9:=Tryz.zeroValue9 }
open Go.RowKit in
theorem Tryz.strings_Compare (a b:ByteArray) (w:World) :
 Calls Tryz.prog 250 #[.string a,.string b] w fun e w' => e=.returned (.int .i64 (Lib.compareBytes a.data.toList b.data.toList))∧w'=w:=Any.strings_Compare Tryz.lays106 a b w
open Go.RowKit in
theorem Tryz.Builder_String_any_k (B b:Nat) (l:List UInt8) (w:World) (h:Lib.IsBuilderF 222 5 B b (Lib.byteCells l) w) (hBw:B≤w.heap.size) :
 Calls Tryz.prog 126 #[.pointer (some ⟨b,0,none⟩)] w fun e w' => e=.returned (.string ⟨l.toArray⟩)∧(Lib.IsBuilderF 222 5 B b (Lib.byteCells l) w'∧Below B w w'∧Lib.OthersKept 5 (some b) w w'):=Any.Builder_String_any_k Tryz.lays169 Tryz.Builder_Extra_169 B b l w h hBw
def Tryz.lays190_ren:Go.Shelf.Ren:=⟨fun | 190 => 99 | 125 => 149 | 258 => 154 | 128 => 194 | 129 => 195 | 302 => 197 | 303 => 198 | 304 => 199 | 305 => 200 | 306 => 201 | 307 => 202 | 308 => 203 | 309 => 204 | 310 => 205 | 333 => 225 | 329 => 221 | 330 => 222 | 334 => 226 | 335 => 227 | 336 => 228 | 344 => 235 | n => n,fun | 31 => 50 | 9 => 9 | 3 => 3 | 46 => 142 | 0 => 0 | 51 => 52 | 53 => 22 | 4 => 4 | 183 => 275 | 182 => 274 | 131 => 233 | 5 => 5 | 218 => 300 | 222 => 304 | 228 => 314 | 229 => 315 | n => n,fun | n => n⟩
theorem Tryz.lays190:Go.Proofs.Lays.n190 Tryz.prog Tryz.lays190_ren:={
 mixed:=by kernel_rfl
 f125:=Tryz.func149.trans (congrArg some (by kernel_rfl))
 f128:=Tryz.func194.trans (congrArg some (by kernel_rfl))
 f129:=Tryz.func195.trans (congrArg some (by kernel_rfl))
 f190:=Tryz.func99.trans (congrArg some (by kernel_rfl))
 f258:=Tryz.func154.trans (congrArg some (by kernel_rfl))
 f302:=Tryz.func197.trans (congrArg some (by kernel_rfl))
 f303:=Tryz.func198.trans (congrArg some (by kernel_rfl))
 f304:=Tryz.func199.trans (congrArg some (by kernel_rfl))
 f305:=Tryz.func200.trans (congrArg some (by kernel_rfl))
 f306:=Tryz.func201.trans (congrArg some (by kernel_rfl))
 f307:=Tryz.func202.trans (congrArg some (by kernel_rfl))
 f308:=Tryz.func203.trans (congrArg some (by kernel_rfl))
 f309:=Tryz.func204.trans (congrArg some (by kernel_rfl))
 f310:=Tryz.func205.trans (congrArg some (by kernel_rfl))
 f329:=Tryz.func221.trans (congrArg some (by kernel_rfl))
 f330:=Tryz.func222.trans (congrArg some (by kernel_rfl))
 f333:=Tryz.func225.trans (congrArg some (by kernel_rfl))
 f334:=Tryz.func226.trans (congrArg some (by kernel_rfl))
 f335:=Tryz.func227.trans (congrArg some (by kernel_rfl))
 f336:=Tryz.func228.trans (congrArg some (by kernel_rfl))
 f344:=Tryz.func235.trans (congrArg some (by kernel_rfl))
 t0:=Tryz.underlying0
 a0:=Tryz.isAgg0
 z0:=Tryz.sizeOf0
 v0:=Tryz.zeroValue0
 t3:=Tryz.underlying3
 a3:=Tryz.isAgg3
 z3:=Tryz.sizeOf3
 v3:=Tryz.zeroValue3
 t4:=Tryz.underlying4
 a4:=Tryz.isAgg4
 z4:=Tryz.sizeOf4
 v4:=Tryz.zeroValue4
 t5:=Tryz.underlying5
 a5:=Tryz.isAgg5
 z5:=Tryz.sizeOf5
 v5:=Tryz.zeroValue5
 t9:=Tryz.underlying9
 a9:=Tryz.isAgg9
 z9:=Tryz.sizeOf9
 v9:=Tryz.zeroValue9
 t31:=Tryz.underlying50
 a31:=Tryz.isAgg50
 z31:=Tryz.sizeOf50
 v31:=Tryz.zeroValue50
 t46:=Tryz.underlying142
 a46:=Tryz.isAgg142
 z46:=Tryz.sizeOf142
 v46:=Tryz.zeroValue142
 t51:=Tryz.underlying52
 a51:=Tryz.isAgg52
 z51:=Tryz.sizeOf52
 v51:=Tryz.zeroValue52
 t53:=Tryz.underlying22
 a53:=Tryz.isAgg22
 z53:=Tryz.sizeOf22
 v53:=Tryz.zeroValue22
 t131:=Tryz.underlying233
 a131:=Tryz.isAgg233
 z131:=Tryz.sizeOf233
 v131:=Tryz.zeroValue233
 t182:=Tryz.underlying274
 a182:=Tryz.isAgg274
 z182:=Tryz.sizeOf274
 v182:=Tryz.zeroValue274
 t183:=Tryz.underlying275
 a183:=Tryz.isAgg275
 z183:=Tryz.sizeOf275
 v183:=Tryz.zeroValue275
 t218:=Tryz.underlying300
 a218:=Tryz.isAgg300
 z218:=Tryz.sizeOf300
 v218:=Tryz.zeroValue300
 t222:=Tryz.underlying304
 a222:=Tryz.isAgg304
 z222:=Tryz.sizeOf304
 v222:=Tryz.zeroValue304
 t228:=Tryz.underlying314
 a228:=Tryz.isAgg314
 z228:=Tryz.sizeOf314
 v228:=Tryz.zeroValue314
 t229:=Tryz.underlying315
 a229:=Tryz.isAgg315
 z229:=Tryz.sizeOf315
 v229:=Tryz.zeroValue315 }
open Go.Sort Go.RowKit in
theorem Tryz.slices_Sort_string (blk off cap:Nat) (ss:List (List UInt8)) (w:World) (hH:Holds encStr w blk off ss.toArray) (hblk:blk < w.heap.size) (hsz:ss.length < 4611686018427387904) :
 Calls Tryz.prog 99 #[.slice (some ⟨blk,off,none⟩) ss.length cap] w fun e w' =>
  e=.returned (.tuple #[])∧∃ n os,w'=grow (putRow encStr (Sort.ahead w n) blk off (ss.mergeSort fun x y => decide (x≤y)).toArray) os:=Any.slices_Sort_string Tryz.lays190 blk off cap ss w hH hblk hsz
def Tryz.laysGg6_ren:Go.Shelf.Ren:=⟨fun | 6 => 260 | 10 => 264 | 11 => 265 | 12 => 266 | 13 => 149 | 14 => 267 | 24 => 194 | 25 => 195 | 26 => 279 | 27 => 280 | 28 => 281 | 29 => 282 | 30 => 283 | 31 => 284 | 32 => 285 | 33 => 286 | 34 => 291 | 35 => 292 | 36 => 293 | 37 => 294 | 38 => 295 | 39 => 298 | n => n,fun | 20 => 20 | 26 => 335 | 35 => 339 | 0 => 0 | 37 => 341 | 3 => 3 | 41 => 142 | 44 => 345 | 49 => 52 | 51 => 22 | 4 => 4 | 54 => 352 | 53 => 351 | 58 => 233 | 5 => 5 | 9 => 9 | 60 => 360 | 64 => 304 | 66 => 364 | 67 => 315 | 17 => 17 | 32 => 289 | 33 => 337 | 82 => 388 | 12 => 12 | 75 => 382 | 76 => 383 | 77 => 384 | 78 => 261 | 79 => 385 | 80 => 386 | n => n,fun | n => n⟩
theorem Tryz.laysGg6:Go.Proofs.LaysGg.n6 Tryz.prog Tryz.laysGg6_ren:={
 mixed:=by kernel_rfl
 f6:=Tryz.func260.trans (congrArg some (by kernel_rfl))
 f10:=Tryz.func264.trans (congrArg some (by kernel_rfl))
 f11:=Tryz.func265.trans (congrArg some (by kernel_rfl))
 f12:=Tryz.func266.trans (congrArg some (by kernel_rfl))
 f13:=Tryz.func149.trans (congrArg some (by kernel_rfl))
 f14:=Tryz.func267.trans (congrArg some (by kernel_rfl))
 f24:=Tryz.func194.trans (congrArg some (by kernel_rfl))
 f25:=Tryz.func195.trans (congrArg some (by kernel_rfl))
 f26:=Tryz.func279.trans (congrArg some (by kernel_rfl))
 f27:=Tryz.func280.trans (congrArg some (by kernel_rfl))
 f28:=Tryz.func281.trans (congrArg some (by kernel_rfl))
 f29:=Tryz.func282.trans (congrArg some (by kernel_rfl))
 f30:=Tryz.func283.trans (congrArg some (by kernel_rfl))
 f31:=Tryz.func284.trans (congrArg some (by kernel_rfl))
 f32:=Tryz.func285.trans (congrArg some (by kernel_rfl))
 f33:=Tryz.func286.trans (congrArg some (by kernel_rfl))
 f34:=Tryz.func291.trans (congrArg some (by kernel_rfl))
 f35:=Tryz.func292.trans (congrArg some (by kernel_rfl))
 f36:=Tryz.func293.trans (congrArg some (by kernel_rfl))
 f37:=Tryz.func294.trans (congrArg some (by kernel_rfl))
 f38:=Tryz.func295.trans (congrArg some (by kernel_rfl))
 f39:=Tryz.func298.trans (congrArg some (by kernel_rfl))
 t0:=Tryz.underlying0
 a0:=Tryz.isAgg0
 z0:=Tryz.sizeOf0
 v0:=Tryz.zeroValue0
 i0:=by kernel_rfl
 t3:=Tryz.underlying3
 a3:=Tryz.isAgg3
 z3:=Tryz.sizeOf3
 v3:=Tryz.zeroValue3
 i3:=by kernel_rfl
 t4:=Tryz.underlying4
 a4:=Tryz.isAgg4
 z4:=Tryz.sizeOf4
 v4:=Tryz.zeroValue4
 i4:=by kernel_rfl
 t5:=Tryz.underlying5
 a5:=Tryz.isAgg5
 z5:=Tryz.sizeOf5
 v5:=Tryz.zeroValue5
 i5:=by kernel_rfl
 t9:=Tryz.underlying9
 a9:=Tryz.isAgg9
 z9:=Tryz.sizeOf9
 v9:=Tryz.zeroValue9
 i9:=by kernel_rfl
 t12:=Tryz.underlying12
 a12:=Tryz.isAgg12
 z12:=Tryz.sizeOf12
 v12:=Tryz.zeroValue12
 i12:=by kernel_rfl
 t17:=Tryz.underlying17
 a17:=Tryz.isAgg17
 z17:=Tryz.sizeOf17
 v17:=Tryz.zeroValue17
 i17:=by kernel_rfl
 t20:=Tryz.underlying20
 a20:=Tryz.isAgg20
 z20:=Tryz.sizeOf20
 v20:=Tryz.zeroValue20
 i20:=by kernel_rfl
 t26:=Tryz.underlying335
 a26:=Tryz.isAgg335
 z26:=Tryz.sizeOf335
 v26:=Tryz.zeroValue335
 i26:=by kernel_rfl
 t32:=Tryz.underlying289
 a32:=Tryz.isAgg289
 z32:=Tryz.sizeOf289
 v32:=Tryz.zeroValue289
 i32:=by kernel_rfl
 t33:=Tryz.underlying337
 a33:=Tryz.isAgg337
 z33:=Tryz.sizeOf337
 v33:=Tryz.zeroValue337
 i33:=by kernel_rfl
 t35:=Tryz.underlying339
 a35:=Tryz.isAgg339
 z35:=Tryz.sizeOf339
 v35:=Tryz.zeroValue339
 i35:=by kernel_rfl
 t37:=Tryz.underlying341
 a37:=Tryz.isAgg341
 z37:=Tryz.sizeOf341
 v37:=Tryz.zeroValue341
 i37:=by kernel_rfl
 t41:=Tryz.underlying142
 a41:=Tryz.isAgg142
 z41:=Tryz.sizeOf142
 v41:=Tryz.zeroValue142
 i41:=by kernel_rfl
 t44:=Tryz.underlying345
 a44:=Tryz.isAgg345
 z44:=Tryz.sizeOf345
 v44:=Tryz.zeroValue345
 i44:=by kernel_rfl
 t49:=Tryz.underlying52
 a49:=Tryz.isAgg52
 z49:=Tryz.sizeOf52
 v49:=Tryz.zeroValue52
 i49:=by kernel_rfl
 t51:=Tryz.underlying22
 a51:=Tryz.isAgg22
 z51:=Tryz.sizeOf22
 v51:=Tryz.zeroValue22
 i51:=by kernel_rfl
 t53:=Tryz.underlying351
 a53:=Tryz.isAgg351
 z53:=Tryz.sizeOf351
 v53:=Tryz.zeroValue351
 i53:=by kernel_rfl
 t54:=Tryz.underlying352
 a54:=Tryz.isAgg352
 z54:=Tryz.sizeOf352
 v54:=Tryz.zeroValue352
 i54:=by kernel_rfl
 t58:=Tryz.underlying233
 a58:=Tryz.isAgg233
 z58:=Tryz.sizeOf233
 v58:=Tryz.zeroValue233
 i58:=by kernel_rfl
 t60:=Tryz.underlying360
 a60:=Tryz.isAgg360
 z60:=Tryz.sizeOf360
 v60:=Tryz.zeroValue360
 i60:=by kernel_rfl
 t64:=Tryz.underlying304
 a64:=Tryz.isAgg304
 z64:=Tryz.sizeOf304
 v64:=Tryz.zeroValue304
 i64:=by kernel_rfl
 t66:=Tryz.underlying364
 a66:=Tryz.isAgg364
 z66:=Tryz.sizeOf364
 v66:=Tryz.zeroValue364
 i66:=by kernel_rfl
 t67:=Tryz.underlying315
 a67:=Tryz.isAgg315
 z67:=Tryz.sizeOf315
 v67:=Tryz.zeroValue315
 i67:=by kernel_rfl
 t75:=Tryz.underlying382
 a75:=Tryz.isAgg382
 z75:=Tryz.sizeOf382
 v75:=Tryz.zeroValue382
 i75:=by kernel_rfl
 t76:=Tryz.underlying383
 a76:=Tryz.isAgg383
 z76:=Tryz.sizeOf383
 v76:=Tryz.zeroValue383
 i76:=by kernel_rfl
 t77:=Tryz.underlying384
 a77:=Tryz.isAgg384
 z77:=Tryz.sizeOf384
 v77:=Tryz.zeroValue384
 i77:=by kernel_rfl
 t78:=Tryz.underlying261
 a78:=Tryz.isAgg261
 z78:=Tryz.sizeOf261
 v78:=Tryz.zeroValue261
 i78:=by kernel_rfl
 t79:=Tryz.underlying385
 a79:=Tryz.isAgg385
 z79:=Tryz.sizeOf385
 v79:=Tryz.zeroValue385
 i79:=by kernel_rfl
 t80:=Tryz.underlying386
 a80:=Tryz.isAgg386
 z80:=Tryz.sizeOf386
 v80:=Tryz.zeroValue386
 i80:=by kernel_rfl
 t82:=Tryz.underlying388
 a82:=Tryz.isAgg388
 z82:=Tryz.sizeOf388
 v82:=Tryz.zeroValue388
 i82:=by kernel_rfl }
def Tryz.lays194_ren:Go.Shelf.Ren:=⟨fun | 194 => 100 | n => n,fun | 31 => 50 | 9 => 9 | 3 => 3 | 4 => 4 | 0 => 0 | n => n,fun | n => n⟩
theorem Tryz.lays194:Go.Proofs.Lays.n194 Tryz.prog Tryz.lays194_ren:={
 mixed:=by kernel_rfl
 f194:=Tryz.func100.trans (congrArg some (by kernel_rfl))
 t0:=Tryz.underlying0
 a0:=Tryz.isAgg0
 z0:=Tryz.sizeOf0
 v0:=Tryz.zeroValue0
 t3:=Tryz.underlying3
 a3:=Tryz.isAgg3
 z3:=Tryz.sizeOf3
 v3:=Tryz.zeroValue3
 t4:=Tryz.underlying4
 a4:=Tryz.isAgg4
 z4:=Tryz.sizeOf4
 v4:=Tryz.zeroValue4
 t9:=Tryz.underlying9
 a9:=Tryz.isAgg9
 z9:=Tryz.sizeOf9
 v9:=Tryz.zeroValue9
 t31:=Tryz.underlying50
 a31:=Tryz.isAgg50
 z31:=Tryz.sizeOf50
 v31:=Tryz.zeroValue50 }
open Go.RowKit Go.Lib Go.Sort in
theorem Tryz.slices_Compact_string (blk off cap:Nat) (zs:List (List UInt8)) (w:World) (hH:Holds encStr w blk off zs.toArray) (hsz:zs.length≤9223372036854775807) (hcap:zs.length≤cap) :
 Calls Tryz.prog 100 #[.slice (some ⟨blk,off,none⟩) zs.length cap] w fun e w' => e=.returned (.slice (some ⟨blk,off,none⟩) (Lib.compact zs).length cap)∧∃ q,w'=putRow encStr (Sort.ahead w q) blk off (Lib.compact zs++List.replicate (zs.length - (Lib.compact zs).length) []).toArray:=Any.slices_Compact_string Tryz.lays194 blk off cap zs w hH hsz hcap
def Tryz.lays196_ren:Go.Shelf.Ren:=⟨fun | 196 => 216 | 259 => 232 | n => n,fun | 9 => 9 | 4 => 4 | 3 => 3 | 5 => 5 | 12 => 12 | 119 => 309 | 0 => 0 | 46 => 142 | 139 => 312 | 138 => 311 | 53 => 22 | n => n,fun | 3 => 1 | 4 => 2 | n => n⟩
theorem Tryz.lays196:Go.Proofs.Lays.n196 Tryz.prog Tryz.lays196_ren:={
 mixed:=by kernel_rfl
 f196:=Tryz.func216.trans (congrArg some (by kernel_rfl))
 f259:=Tryz.func232.trans (congrArg some (by kernel_rfl))
 t0:=Tryz.underlying0
 a0:=Tryz.isAgg0
 z0:=Tryz.sizeOf0
 v0:=Tryz.zeroValue0
 t3:=Tryz.underlying3
 a3:=Tryz.isAgg3
 z3:=Tryz.sizeOf3
 v3:=Tryz.zeroValue3
 t4:=Tryz.underlying4
 a4:=Tryz.isAgg4
 z4:=Tryz.sizeOf4
 v4:=Tryz.zeroValue4
 t5:=Tryz.underlying5
 a5:=Tryz.isAgg5
 z5:=Tryz.sizeOf5
 v5:=Tryz.zeroValue5
 t9:=Tryz.underlying9
 a9:=Tryz.isAgg9
 z9:=Tryz.sizeOf9
 v9:=Tryz.zeroValue9
 t12:=Tryz.underlying12
 a12:=Tryz.isAgg12
 z12:=Tryz.sizeOf12
 v12:=Tryz.zeroValue12
 t46:=Tryz.underlying142
 a46:=Tryz.isAgg142
 z46:=Tryz.sizeOf142
 v46:=Tryz.zeroValue142
 t53:=Tryz.underlying22
 a53:=Tryz.isAgg22
 z53:=Tryz.sizeOf22
 v53:=Tryz.zeroValue22
 t119:=Tryz.underlying309
 a119:=Tryz.isAgg309
 z119:=Tryz.sizeOf309
 t138:=Tryz.underlying311
 a138:=Tryz.isAgg311
 z138:=Tryz.sizeOf311
 v138:=Tryz.zeroValue311
 t139:=Tryz.underlying312
 a139:=Tryz.isAgg312
 z139:=Tryz.sizeOf312
 v139:=Tryz.zeroValue312
 g3:=by kernel_rfl
 g4:=by kernel_rfl }
end Go.Proofs
end

section
namespace Go.Proofs
open Go.Shelf
def Tryz.sortFld_ren:Go.Shelf.Ren:=⟨fun | 6 => 91 | 15 => 149 | 14 => 148 | 28 => 194 | 29 => 195 | 20 => 186 | 21 => 187 | 22 => 188 | 23 => 189 | 24 => 190 | 25 => 191 | 26 => 192 | 27 => 193 | 46 => 220 | 47 => 221 | 48 => 222 | 49 => 223 | 50 => 224 | 57 => 234 | n => n,fun | 22 => 33 | 24 => 47 | 25 => 172 | 3 => 3 | 39 => 142 | 0 => 0 | 53 => 52 | 55 => 22 | 4 => 4 | 46 => 275 | 45 => 274 | 50 => 233 | 5 => 5 | 9 => 9 | 66 => 300 | 70 => 304 | 76 => 314 | 77 => 315 | n => n,fun | n => n⟩
theorem Tryz.sortFld:Go.Proofs.SlLaysF0.n6 Tryz.prog Tryz.sortFld_ren:={
 mixed:=by kernel_rfl
 f6:=⟨Tryz.f91.name,by decide,Tryz.func91.trans (congrArg some (by kernel_rfl))⟩
 f14:=⟨Tryz.f148.name,by decide,Tryz.func148.trans (congrArg some (by kernel_rfl))⟩
 f15:=Tryz.func149.trans (congrArg some (by kernel_rfl))
 f20:=⟨Tryz.f186.name,by decide,Tryz.func186.trans (congrArg some (by kernel_rfl))⟩
 f21:=⟨Tryz.f187.name,by decide,Tryz.func187.trans (congrArg some (by kernel_rfl))⟩
 f22:=⟨Tryz.f188.name,by decide,Tryz.func188.trans (congrArg some (by kernel_rfl))⟩
 f23:=⟨Tryz.f189.name,by decide,Tryz.func189.trans (congrArg some (by kernel_rfl))⟩
 f24:=⟨Tryz.f190.name,by decide,Tryz.func190.trans (congrArg some (by kernel_rfl))⟩
 f25:=⟨Tryz.f191.name,by decide,Tryz.func191.trans (congrArg some (by kernel_rfl))⟩
 f26:=⟨Tryz.f192.name,by decide,Tryz.func192.trans (congrArg some (by kernel_rfl))⟩
 f27:=⟨Tryz.f193.name,by decide,Tryz.func193.trans (congrArg some (by kernel_rfl))⟩
 f28:=Tryz.func194.trans (congrArg some (by kernel_rfl))
 f29:=Tryz.func195.trans (congrArg some (by kernel_rfl))
 f46:=⟨Tryz.f220.name,by decide,Tryz.func220.trans (congrArg some (by kernel_rfl))⟩
 f47:=Tryz.func221.trans (congrArg some (by kernel_rfl))
 f48:=Tryz.func222.trans (congrArg some (by kernel_rfl))
 f49:=⟨Tryz.f223.name,by decide,Tryz.func223.trans (congrArg some (by kernel_rfl))⟩
 f50:=⟨Tryz.f224.name,by decide,Tryz.func224.trans (congrArg some (by kernel_rfl))⟩
 f57:=⟨Tryz.f234.name,by decide,Tryz.func234.trans (congrArg some (by kernel_rfl))⟩
 t0:=Tryz.underlying0
 a0:=Tryz.isAgg0
 z0:=Tryz.sizeOf0
 v0:=Tryz.zeroValue0
 t3:=Tryz.underlying3
 a3:=Tryz.isAgg3
 z3:=Tryz.sizeOf3
 v3:=Tryz.zeroValue3
 t4:=Tryz.underlying4
 a4:=Tryz.isAgg4
 z4:=Tryz.sizeOf4
 v4:=Tryz.zeroValue4
 t5:=Tryz.underlying5
 a5:=Tryz.isAgg5
 z5:=Tryz.sizeOf5
 v5:=Tryz.zeroValue5
 t9:=Tryz.underlying9
 a9:=Tryz.isAgg9
 z9:=Tryz.sizeOf9
 v9:=Tryz.zeroValue9
 t22:=Tryz.underlying33
 a22:=Tryz.isAgg33
 z22:=Tryz.sizeOf33
 v22:=Tryz.zeroValue33
 t25:=Tryz.underlying172
 a25:=Tryz.isAgg172
 z25:=Tryz.sizeOf172
 v25:=Tryz.zeroValue172
 t39:=Tryz.underlying142
 a39:=Tryz.isAgg142
 z39:=Tryz.sizeOf142
 v39:=Tryz.zeroValue142
 t45:=Tryz.underlying274
 a45:=Tryz.isAgg274
 z45:=Tryz.sizeOf274
 v45:=Tryz.zeroValue274
 t46:=Tryz.underlying275
 a46:=Tryz.isAgg275
 z46:=Tryz.sizeOf275
 v46:=Tryz.zeroValue275
 t50:=Tryz.underlying233
 a50:=Tryz.isAgg233
 z50:=Tryz.sizeOf233
 v50:=Tryz.zeroValue233
 t53:=Tryz.underlying52
 a53:=Tryz.isAgg52
 z53:=Tryz.sizeOf52
 v53:=Tryz.zeroValue52
 t55:=Tryz.underlying22
 a55:=Tryz.isAgg22
 z55:=Tryz.sizeOf22
 v55:=Tryz.zeroValue22
 t66:=Tryz.underlying300
 a66:=Tryz.isAgg300
 z66:=Tryz.sizeOf300
 v66:=Tryz.zeroValue300
 t70:=Tryz.underlying304
 a70:=Tryz.isAgg304
 z70:=Tryz.sizeOf304
 v70:=Tryz.zeroValue304
 t76:=Tryz.underlying314
 a76:=Tryz.isAgg314
 z76:=Tryz.sizeOf314
 v76:=Tryz.zeroValue314
 t77:=Tryz.underlying315
 a77:=Tryz.isAgg315
 z77:=Tryz.sizeOf315
 v77:=Tryz.zeroValue315 }
def Tryz.sortEnt_ren:Go.Shelf.Ren:=⟨fun | 14 => 296 | 20 => 299 | 21 => 300 | 22 => 301 | 23 => 302 | 24 => 303 | 25 => 304 | 26 => 305 | 27 => 306 | 46 => 308 | 47 => 221 | 48 => 222 | 49 => 309 | 50 => 310 | 15 => 149 | 57 => 313 | 28 => 194 | 29 => 195 | n => n,fun | 24 => 132 | 22 => 23 | 3 => 3 | 25 => 359 | 4 => 4 | 0 => 0 | 46 => 275 | 45 => 274 | 50 => 233 | 66 => 300 | 39 => 142 | 55 => 22 | 70 => 304 | 76 => 314 | 77 => 315 | 53 => 52 | 5 => 5 | 9 => 9 | n => n,fun | n => n⟩
theorem Tryz.sortEnt:Go.Proofs.SlLaysF0.n14 Tryz.prog Tryz.sortEnt_ren:={
 mixed:=by kernel_rfl
 f14:=⟨Tryz.f296.name,by decide,Tryz.func296.trans (congrArg some (by kernel_rfl))⟩
 f15:=Tryz.func149.trans (congrArg some (by kernel_rfl))
 f20:=⟨Tryz.f299.name,by decide,Tryz.func299.trans (congrArg some (by kernel_rfl))⟩
 f21:=⟨Tryz.f300.name,by decide,Tryz.func300.trans (congrArg some (by kernel_rfl))⟩
 f22:=⟨Tryz.f301.name,by decide,Tryz.func301.trans (congrArg some (by kernel_rfl))⟩
 f23:=⟨Tryz.f302.name,by decide,Tryz.func302.trans (congrArg some (by kernel_rfl))⟩
 f24:=⟨Tryz.f303.name,by decide,Tryz.func303.trans (congrArg some (by kernel_rfl))⟩
 f25:=⟨Tryz.f304.name,by decide,Tryz.func304.trans (congrArg some (by kernel_rfl))⟩
 f26:=⟨Tryz.f305.name,by decide,Tryz.func305.trans (congrArg some (by kernel_rfl))⟩
 f27:=⟨Tryz.f306.name,by decide,Tryz.func306.trans (congrArg some (by kernel_rfl))⟩
 f28:=Tryz.func194.trans (congrArg some (by kernel_rfl))
 f29:=Tryz.func195.trans (congrArg some (by kernel_rfl))
 f46:=⟨Tryz.f308.name,by decide,Tryz.func308.trans (congrArg some (by kernel_rfl))⟩
 f47:=Tryz.func221.trans (congrArg some (by kernel_rfl))
 f48:=Tryz.func222.trans (congrArg some (by kernel_rfl))
 f49:=⟨Tryz.f309.name,by decide,Tryz.func309.trans (congrArg some (by kernel_rfl))⟩
 f50:=⟨Tryz.f310.name,by decide,Tryz.func310.trans (congrArg some (by kernel_rfl))⟩
 f57:=⟨Tryz.f313.name,by decide,Tryz.func313.trans (congrArg some (by kernel_rfl))⟩
 t0:=Tryz.underlying0
 a0:=Tryz.isAgg0
 z0:=Tryz.sizeOf0
 v0:=Tryz.zeroValue0
 t3:=Tryz.underlying3
 a3:=Tryz.isAgg3
 z3:=Tryz.sizeOf3
 v3:=Tryz.zeroValue3
 t4:=Tryz.underlying4
 a4:=Tryz.isAgg4
 z4:=Tryz.sizeOf4
 v4:=Tryz.zeroValue4
 t5:=Tryz.underlying5
 a5:=Tryz.isAgg5
 z5:=Tryz.sizeOf5
 v5:=Tryz.zeroValue5
 t9:=Tryz.underlying9
 a9:=Tryz.isAgg9
 z9:=Tryz.sizeOf9
 v9:=Tryz.zeroValue9
 t22:=Tryz.underlying23
 a22:=Tryz.isAgg23
 z22:=Tryz.sizeOf23
 v22:=Tryz.zeroValue23
 t25:=Tryz.underlying359
 a25:=Tryz.isAgg359
 z25:=Tryz.sizeOf359
 v25:=Tryz.zeroValue359
 t39:=Tryz.underlying142
 a39:=Tryz.isAgg142
 z39:=Tryz.sizeOf142
 v39:=Tryz.zeroValue142
 t45:=Tryz.underlying274
 a45:=Tryz.isAgg274
 z45:=Tryz.sizeOf274
 v45:=Tryz.zeroValue274
 t46:=Tryz.underlying275
 a46:=Tryz.isAgg275
 z46:=Tryz.sizeOf275
 v46:=Tryz.zeroValue275
 t50:=Tryz.underlying233
 a50:=Tryz.isAgg233
 z50:=Tryz.sizeOf233
 v50:=Tryz.zeroValue233
 t53:=Tryz.underlying52
 a53:=Tryz.isAgg52
 z53:=Tryz.sizeOf52
 v53:=Tryz.zeroValue52
 t55:=Tryz.underlying22
 a55:=Tryz.isAgg22
 z55:=Tryz.sizeOf22
 v55:=Tryz.zeroValue22
 t66:=Tryz.underlying300
 a66:=Tryz.isAgg300
 z66:=Tryz.sizeOf300
 v66:=Tryz.zeroValue300
 t70:=Tryz.underlying304
 a70:=Tryz.isAgg304
 z70:=Tryz.sizeOf304
 v70:=Tryz.zeroValue304
 t76:=Tryz.underlying314
 a76:=Tryz.isAgg314
 z76:=Tryz.sizeOf314
 v76:=Tryz.zeroValue314
 t77:=Tryz.underlying315
 a77:=Tryz.isAgg315
 z77:=Tryz.sizeOf315
 v77:=Tryz.zeroValue315 }
def Tryz.cloneEnt_ren:Go.Shelf.Ren:=⟨fun | 41 => 287 | n => n,fun | 22 => 23 | 23 => 132 | 4 => 4 | n => n,fun | n => n⟩
theorem Tryz.cloneEnt:Go.Proofs.SlLaysE0.n41 Tryz.prog Tryz.cloneEnt_ren:={
 mixed:=by kernel_rfl
 f41:=⟨Tryz.f287.name,by decide,Tryz.func287.trans (congrArg some (by kernel_rfl))⟩
 t4:=Tryz.underlying4
 a4:=Tryz.isAgg4
 z4:=Tryz.sizeOf4
 v4:=Tryz.zeroValue4
 t22:=Tryz.underlying23
 a22:=Tryz.isAgg23
 z22:=Tryz.sizeOf23
 v22:=Tryz.zeroValue23 }
def Tryz.cloneDsc_ren:Go.Shelf.Ren:=⟨fun | 41 => 137 | n => n,fun | 22 => 24 | 23 => 132 | 4 => 4 | n => n,fun | n => n⟩
theorem Tryz.cloneDsc:Go.Proofs.SlLaysE0.n41 Tryz.prog Tryz.cloneDsc_ren:={
 mixed:=by kernel_rfl
 f41:=⟨Tryz.f137.name,by decide,Tryz.func137.trans (congrArg some (by kernel_rfl))⟩
 t4:=Tryz.underlying4
 a4:=Tryz.isAgg4
 z4:=Tryz.sizeOf4
 v4:=Tryz.zeroValue4
 t22:=Tryz.underlying24
 a22:=Tryz.isAgg24
 z22:=Tryz.sizeOf24
 v22:=Tryz.zeroValue24 }
end Go.Proofs
end
