/-
  Texts of the proof, joined: CloneH FClone FldLaw3. Conditions: as each names.
-/
import Derived.Test.YtmlijflappjfoaaDoorBak
import Derived.Test.YtmlijflappjfoaaDoorBaj

section
/-
  Steps of the walk over 'Clone'. Plain theorems, over any program.
-/
namespace Go.PM
open Go.RowKit
section
variable {H g0 cur k n : Nat} {T Te : TypeId} {w : World} {xs : List Value}
theorem GP.put {b : Nat} {I : Nat → Prop} {t n' : Nat} {y : Int} {s : ByteArray} {i r : Fs} {A' : Option Addr} {m' c' : Nat} (h : GP H g0 T w xs b k n) (hF : FB w T b) (hf : FsAt w I (.cons t y n' s i r) b (k * 5)) (hv : ∀ a, A' = some a → m' ≠ 0 → g0 < a.block) :
    GP H g0 T (w.setCell ⟨b, k * 5 + 4, none⟩ (.slice A' m' c')) xs b (k + 1) n := by
  intro b2 cs hb hB o A m c ho hm
  by_cases e : b2 = b
  · subst e
    obtain ⟨cs0, h0⟩ := hF
    have h1 := BlkAt.same hB (h0.put (k * 5 + 4) (.slice A' m' c'))
    subst h1
    by_cases eo : o = k * 5 + 4
    · subst eo
      rw [Array.getElem?_setIfInBounds] at ho
      simp only [if_true] at ho
      split at ho
      · simp only [Option.some.injEq, Value.slice.injEq] at ho
        obtain ⟨rfl, rfl, rfl⟩ := ho
        exact .inl (hv _ rfl hm)
      · cases ho
    · rw [Array.getElem?_setIfInBounds, if_neg (by omega)] at ho
      rcases h b2 cs0 hb h0 o A m c ho hm with h | h | ⟨_, h1, h2⟩
      · exact .inl h
      · exact .inr (.inl h)
      · right; right
        refine ⟨rfl, ?_, h2⟩
        obtain ⟨a0, a1, a2, a3, _⟩ := hf
        rw [h0.cell] at a0 a1 a2 a3
        have n0 : o ≠ k * 5 := by rintro rfl; rw [a0] at ho; simp at ho
        have n1 : o ≠ k * 5 + 1 := by rintro rfl; rw [a1] at ho; simp at ho
        have n2 : o ≠ k * 5 + 2 := by rintro rfl; rw [a2] at ho; simp at ho
        have n3 : o ≠ k * 5 + 3 := by rintro rfl; rw [a3] at ho; simp at ho
        omega
  · have hB' : BlkAt w b2 T cs := by
      unfold BlkAt at hB ⊢
      rw [← hB]
      exact (Below.heap_setCell w ⟨b, k * 5 + 4, none⟩ _ b2 e).symm
    rcases h b2 cs hb hB' o A m c ho hm with h | h | ⟨h1, _⟩
    · exact .inl h
    · exact .inr (.inl h)
    · exact absurd h1 e
theorem GP.nt {w' : World} (h : GP H g0 T w xs cur k n) (hn : NT Te w w') (hT : T ≠ Te) : GP H g0 T w' xs cur k n := fun b cs hb hB => h b cs hb (hn b T cs hT hB)
theorem GP.grow (h : GP H g0 T w xs cur k n) (x : Value) : GP H g0 T w (xs ++ [x]) cur k n := fun b cs hb hB o A m c ho hm => by
  rcases h b cs hb hB o A m c ho hm with h | ⟨f, a, d, h1, h2⟩ | h
  · exact .inl h
  · exact .inr (.inl ⟨f, a, d, List.mem_append_left _ h1, h2⟩)
  · exact .inr (.inr h)
theorem GP.alloc {cs' : Array Value} {m' G : Nat} (h : GP H g0 T w xs cur k n) (hc : ∀ (o : Nat) (A : Addr) (m c : Nat), cs'[o]? = some (.slice (some A) m c) → o < 5 * m') :
    GP H g0 T (w.drew.alloc (.cells cs' T)) (xs ++ [.slice (some ⟨w.heap.size, 0, none⟩) m' G]) cur k n := fun b cs hb hB o A m c ho hm => by
  by_cases e : b < w.heap.size
  · have hB' : BlkAt w b T cs := by
      unfold BlkAt at hB ⊢
      rw [← hB]
      exact (Below.heap_alloc w.drew (.cells cs' T) b e).symm
    exact h.grow _ b cs hb hB' o A m c ho hm
  · have hlt := hB.lt
    simp at hlt
    obtain rfl : b = w.heap.size := by omega
    have := BlkAt.same hB (BlkAt.made w.drew T cs')
    subst this
    exact .inr (.inl ⟨0, m', G, by simp, hc o A m c ho⟩)
theorem GP.pop {b c : Nat} {A : Option Addr} (h : GP H g0 T w (xs ++ [.slice A n c]) 0 0 0) (hA : A = some ⟨b, 0, none⟩ ∨ n = 0) : GP H g0 T w xs b 0 n := fun b2 cs hb hB o A' m c' ho hm => by
  rcases h b2 cs hb hB o A' m c' ho hm with h | ⟨f, a, d, h1, h2⟩ | ⟨_, _, h⟩
  · exact .inl h
  · rw [List.mem_append] at h1
    rcases h1 with h1 | h1
    · exact .inr (.inl ⟨f, a, d, h1, h2⟩)
    · simp only [List.mem_singleton, Value.slice.injEq] at h1
      obtain ⟨h3, rfl, rfl⟩ := h1
      rcases hA with hA | hA
      · rw [hA] at h3
        injection h3 with h3
        injection h3 with h3
        exact .inr (.inr ⟨h3, by omega, h2⟩)
      · omega
  · omega
theorem GP.done {b : Nat} (h : GP H g0 T w xs b n n) : GP H g0 T w xs 0 0 0 := fun b2 cs hb hB o A' m c' ho hm => by
  rcases h b2 cs hb hB o A' m c' ho hm with h | h | ⟨_, h1, h2⟩
  · exact .inl h
  · exact .inr (.inl h)
  · omega
theorem GP.dr (h : GP H g0 T w xs cur k n) : GP H g0 T w.drew xs cur k n := h
/-- What a copy's cells are. -/
theorem copy_cells {I : Nat → Prop} {ys : List Value} {f : Fs} {G : Nat} (hx : Cls w I ys f) : ∀ (o : Nat) (A : Addr) (m c : Nat), (ys.toArray ++ Builtin.zeroCells zfield.cells (G - f.len))[o]? = some (.slice (some A) m c) → o < 5 * f.len := fun o A m c h => by
  have hl := hx.length
  by_cases e : o < 5 * f.len
  · exact e
  · rw [Array.getElem?_append_right (by simp; omega)] at h
    exact absurd rfl (zcell_at _ _ _ h A m c)
theorem copy_size {I : Nat → Prop} {ys : List Value} {f : Fs} {G : Nat} (hx : Cls w I ys f) (hG : f.len ≤ G) : (ys.toArray ++ Builtin.zeroCells zfield.cells (G - f.len)).size = G * 5 := by
  have hz : zfield.cells.size = 5 := rfl
  rw [Array.size_append, size_zeroCells, hz, List.size_toArray, hx.length]
  omega
/-- A copy reads as what was copied. -/
theorem copy_reads {I : Nat → Prop} {ys : List Value} {f : Fs} {G : Nat} (hx : Cls w I ys f) :
    FsAt (w.drew.alloc (.cells (ys.toArray ++ Builtin.zeroCells zfield.cells (G - f.len)) T)) I f w.heap.size 0 := by
  have hb := BlkAt.made w.drew T (ys.toArray ++ Builtin.zeroCells zfield.cells (G - f.len))
  have hc : Cls (w.drew.alloc (.cells (ys.toArray ++ Builtin.zeroCells zfield.cells (G - f.len)) T)) I ys f := hx.below (bd b0 |>.trans (ba (a := w.drew) b0 _ |>.mono (by exact Nat.le_refl _)))
  refine hc.at_ fun j u hj => ?_
  rw [Nat.zero_add]
  have := hb.cell j
  rw [show w.drew.heap.size = w.heap.size from rfl] at this
  rw [this, Array.getElem?_append_left (by simpa using (List.getElem?_eq_some_iff.1 hj).1)]
  simpa using hj
end
/-- Where the walk over Clone's work list stands, within a list that is gone through. -/
def CW (H g0 : Nat) (T Te : TypeId) (w0 : World) (f : Fs) (vc : Value) (b k : Nat) (f1 : Fs) (v : Value) (L : List Fs) (w : World) : Prop :=
  ∃ (g cap : Nat) (xs : List Value), v = .slice (some ⟨g, 0, none⟩) L.length cap ∧ w.ownsRow H Te 1 v L.length xs ∧ CL H T w xs L ∧ CE H T w vc f ∧ (f1.len = 0 ∨ H ≤ b ∧ FB w T b ∧ FsAt w (IC H T w) f1 b 0) ∧ GP H g0 T w xs b k f1.len ∧ Below H w0 w ∧ g0 < w.heap.size ∧ H ≤ w.heap.size
section
variable {H g0 b k : Nat} {T Te : TypeId} {w0 w : World} {f f1 : Fs} {vc v : Value} {L : List Fs}
/-- What stands at a place of the list that is gone through. -/
theorem CW.at_ (h : CW H g0 T Te w0 f vc b k f1 v L w) (hk : k < f1.len) : ∃ t y n s i Ai ci, f1.drop k = .cons t y n s i (f1.drop (k + 1)) ∧ H ≤ b ∧ w.cell? ⟨b, k * 5 + 4, none⟩ = some (.slice Ai i.len ci) ∧ w.frozen? ⟨b, k * 5 + 4, none⟩ = false ∧
    i.len ≤ ci ∧ (i.len = 0 ∨ ∃ b' o', Ai = some ⟨b', o', none⟩ ∧ IC H T w b' ∧ b' < w.heap.size ∧ FsAt w (IC H T w) i b' o') := by
  obtain ⟨g, cap, xs, rfl, hown, hcl, hce, hcur, hgp, hbel, hg1, hH⟩ := h
  obtain ⟨t, y, n, s, i, hdc, _⟩ := f1.drop_cons k hk
  rcases hcur with h0 | ⟨hb, hF, hf⟩
  · omega
  have hak := hf.drop k
  rw [hdc, Nat.zero_add] at hak
  obtain ⟨a0, a1, a2, a3, ⟨Ai, ci, a4, hci, hin⟩, _⟩ := hak
  obtain ⟨cs, hcs⟩ := hF
  exact ⟨t, y, n, s, i, Ai, ci, hdc, hb, a4, hcs.free _, hci, hin⟩
/-- An empty list is written anew. -/
theorem CW.clear (hT : T ≠ Te) (h : CW H g0 T Te w0 f vc b k f1 v L w) (hk : k < f1.len) {t n : Nat} {y : Int} {s : ByteArray} {i : Fs} (hdc : f1.drop k = .cons t y n s i (f1.drop (k + 1))) (hi : i.len = 0) :
    CW H g0 T Te w0 f vc b (k + 1) f1 v L (w.setCell ⟨b, k * 5 + 4, none⟩ (.slice none 0 0)) := by
  obtain ⟨g, cap, xs, rfl, hown, hcl, hce, hcur, hgp, hbel, hg1, hH⟩ := h
  rcases hcur with h0 | ⟨hb, hF, hf⟩
  · omega
  have hak := hf.drop k
  rw [hdc, Nat.zero_add] at hak
  have hin : i = .nil := Fs.len_zero hi
  subst hin
  obtain ⟨Ai, ci, a4, _⟩ := hak.2.2.2.2.1
  have hrp : Rp H T w (w.setCell ⟨b, k * 5 + 4, none⟩ (.slice none (Fs.nil.len) 0)) := Rp.anew (j := .nil) a4 (.inl rfl) ⟨Nat.le_refl _, .inl rfl⟩
  have hne : ∀ q, (Value.slice (some ⟨g, 0, none⟩) L.length cap).ownBlock = some q → ¬ (q = b) := fun q hq e => by
    simp only [Value.ownBlock, Option.some.injEq] at hq
    subst hq e
    rcases hown.2 with ⟨h1, _⟩ | ⟨g', cap', cur, h1, _, hgg, _⟩
    · simp at h1
    · simp only [Value.slice.injEq, Option.some.injEq, Addr.mk.injEq, and_true, true_and] at h1
      obtain ⟨rfl, _⟩ := h1
      obtain ⟨cs, hcs⟩ := hF
      exact hT (HasT.one hcs.hasT ⟨_, _, hgg⟩)
  exact ⟨g, cap, xs, rfl, own_tch hown ((Tch.refl (fun q => q = b) w).put (p := ⟨b, k * 5 + 4, none⟩) (fun _ => rfl) _) hne, hcl.rp hrp, hce.rp hrp, .inr ⟨hb, hrp.2.1 b hF, hrp.1 f1 b 0 (.inr hF) hf⟩, hgp.put hF hak (fun a h => by cases h), hbel.setCell hb _, by simpa [World.setCell] using hg1, by simpa [World.setCell] using hH⟩
/-- A list is written anew, and laid to the others. -/
theorem CW.fill (hT : T ≠ Te) (h : CW H g0 T Te w0 f vc b k f1 v L w) (hk : k < f1.len) {t n : Nat} {y : Int} {s : ByteArray} {i : Fs} (hdc : f1.drop k = .cons t y n s i (f1.drop (k + 1))) 
    {ys : List Value} {G : Nat} (hG : i.len ≤ G ∧ G ≤ maxLen) (hx : Cls w (fun q => IC H T w q ∧ q < w.heap.size) ys i) {wa : World} (ha : wa = w.drew.alloc (.cells (ys.toArray ++ Builtin.zeroCells zfield.cells (G - i.len)) T))
    {g cap g3 cap3 : Nat} {xs : List Value} {w3 : World} (hv : v = .slice (some ⟨g, 0, none⟩) L.length cap) (hown : w.ownsRow H Te 1 v L.length xs)
    (hown3 : w3.ownsRow H Te 1 (.slice (some ⟨g3, 0, none⟩) (L.length + 1) cap3) (L.length + 1) (xs ++ [.slice (some ⟨w.heap.size, 0, none⟩) i.len G]))
    (hg3 : ((wa.setCell ⟨b, k * 5 + 4, none⟩ (.slice (some ⟨w.heap.size, 0, none⟩) i.len G)).alloc (.cells #[.slice (some ⟨w.heap.size, 0, none⟩) i.len G] Te)).grownBy w3 v.ownBlock)
    (hnt : NT Te ((wa.setCell ⟨b, k * 5 + 4, none⟩ (.slice (some ⟨w.heap.size, 0, none⟩) i.len G)).alloc (.cells #[.slice (some ⟨w.heap.size, 0, none⟩) i.len G] Te)) w3) :
    CW H g0 T Te w0 f vc b (k + 1) f1 (.slice (some ⟨g3, 0, none⟩) (L.length + 1) cap3) (L ++ [i]) w3 := by
  obtain ⟨g', cap', xs', hv', hown', hcl, hce, hcur, hgp, hbel, hg1, hH⟩ := h
  have hxs : xs' = xs := by
    rcases hown.2 with ⟨h1, _⟩ | ⟨g1, cap1, cur1, h1, _, hgg, _, _, _, ht⟩
    · rw [hv] at h1; simp at h1
    · rcases hown'.2 with ⟨h2, _⟩ | ⟨g2, cap2, cur2, h2, _, hgg2, _, _, _, ht2⟩
      · rw [hv] at h2; simp at h2
      · rw [h1] at h2
        simp only [Value.slice.injEq, Option.some.injEq, Addr.mk.injEq, and_true, true_and] at h2
        obtain ⟨rfl, _⟩ := h2
        rw [hgg] at hgg2
        injection hgg2 with hgg2
        injection hgg2 with hgg2
        rw [← ht, ← ht2, hgg2]
  subst hxs
  rcases hcur with h0 | ⟨hb, hF, hf⟩
  · omega
  have hak := hf.drop k
  rw [hdc, Nat.zero_add] at hak
  obtain ⟨Ai, ci, a4, hci, hin⟩ := hak.2.2.2.2.1
  have hba : Below w.heap.size w wa := by rw [ha]; exact ba (a := w) (bd b0) _
  have hra : Rp H T w wa := Rp.below hH hba
  have hsza : wa.heap.size = w.heap.size + 1 := by rw [ha]; simp
  have hFa := hra.2.1 b hF
  have hfa := hra.1 f1 b 0 (.inr hF) hf
  have hgpa : GP H g0 T wa (xs' ++ [.slice (some ⟨w.heap.size, 0, none⟩) i.len G]) b k f1.len := by rw [ha]; exact hgp.alloc (copy_cells hx)
  have hread : FsAt wa (fun q => IC H T w q ∧ q < w.heap.size) i w.heap.size 0 := by rw [ha]; exact copy_reads hx
  have hnew : FB wa T w.heap.size := by rw [ha]; exact ⟨_, BlkAt.made w.drew T _⟩
  have hia : FsAt wa (IC H T wa) i w.heap.size 0 := hread.imp fun q hq => hq.1.imp id (hra.2.1 q)
  have haka := hfa.drop k
  rw [hdc, Nat.zero_add] at haka
  obtain ⟨Aj, cj, a4', _, hinj⟩ := haka.2.2.2.2.1
  -- the place is written
  have hrb : Rp H T wa (wa.setCell ⟨b, k * 5 + 4, none⟩ (.slice (some ⟨w.heap.size, 0, none⟩) i.len G)) :=
    Rp.anew a4' (hinj.imp id fun ⟨b', o', e1, _, _, e2⟩ => ⟨b', o', e1, e2⟩) ⟨hG.1, .inr ⟨w.heap.size, 0, rfl, .inr hnew, hnew.lt, hia⟩⟩
  have hgpb := GP.put (A' := .some ⟨w.heap.size, 0, none⟩) (m' := i.len) (c' := G) hgpa hFa haka (fun a h _ => by injection h with h; subst h; exact hg1)
  have hszb : (wa.setCell ⟨b, k * 5 + 4, none⟩ (.slice (some ⟨w.heap.size, 0, none⟩) i.len G)).heap.size = w.heap.size + 1 := by simp [World.setCell, hsza]
  generalize hwb : wa.setCell ⟨b, k * 5 + 4, none⟩ (.slice (some ⟨w.heap.size, 0, none⟩) i.len G) = wb at *
  have hbc : Below wb.heap.size wb (wb.alloc (.cells #[.slice (some ⟨w.heap.size, 0, none⟩) i.len G] Te)) := ba b0 _
  have hrc : Rp H T wb (wb.alloc (.cells #[.slice (some ⟨w.heap.size, 0, none⟩) i.len G] Te)) := Rp.below (by omega) hbc
  have hgH : H ≤ g ∧ g < w.heap.size := hown.lt g (by rw [hv]; rfl)
  have hgT : HasT w g Te := by
    rcases hown.2 with ⟨h1, _⟩ | ⟨g1, cap1, cur1, h1, _, hgg, _⟩
    · rw [hv] at h1; simp at h1
    · rw [hv] at h1
      simp only [Value.slice.injEq, Option.some.injEq, Addr.mk.injEq, and_true, true_and] at h1
      obtain ⟨rfl, _⟩ := h1
      exact ⟨_, _, hgg⟩
  have hgTa : HasT wa g Te := by obtain ⟨c1, f1, h1⟩ := hgT; exact ⟨c1, f1, (hba.block g hgH.2).trans h1⟩
  have hgTb : HasT wb g Te := by rw [← hwb]; exact hgTa.put _ _
  have hgTc : HasT (wb.alloc (.cells #[.slice (some ⟨w.heap.size, 0, none⟩) i.len G] Te)) g Te := by obtain ⟨c1, f1, h1⟩ := hgTb; exact ⟨c1, f1, (hbc.block g (by omega)).trans h1⟩
  have htch : Tch (fun q => some g = some q) (wb.alloc (.cells #[.slice (some ⟨w.heap.size, 0, none⟩) i.len G] Te)) w3 := Tch.grown hg3 fun q hq _ => by rw [hv] at hq; simpa [Value.ownBlock] using hq
  have hr3 : Rp H T (wb.alloc (.cells #[.slice (some ⟨w.heap.size, 0, none⟩) i.len G] Te)) w3 := Rp.tch (by simp; omega) htch hgH.1 (fun ⟨cs, hcs⟩ => hT (HasT.one hcs.hasT hgTc))
  have hall : Rp H T wa w3 := (hrb.trans hrc).trans hr3
  have hnz : FZ wa T w.heap.size (G * 5) := by rw [ha]; exact ⟨_, BlkAt.made w.drew T _, copy_size hx hG.1⟩
  have hne : CE H T wa (.slice (some ⟨w.heap.size, 0, none⟩) i.len G) i := ⟨_, G, rfl, hG.1, .inr ⟨w.heap.size, rfl, hH, hG.2, hnz, hia⟩⟩
  have hbw : Below H w wb := by rw [← hwb]; exact (hba.mono hH).setCell hb _
  have hs3 := htch.size
  simp only [World.size_alloc, hszb] at hs3
  refine ⟨g3, cap3, _, by simp, by simpa using hown3, ((hcl.rp hra).rp hall).push (hne.rp hall), (hce.rp hra).rp hall, .inr ⟨hb, hall.2.1 b hFa, hall.1 f1 b 0 (.inr hFa) hfa⟩, (hgpb.nt (NT.alloc Te wb _) hT).nt hnt hT, ?_, by omega, by omega⟩
  exact hbel.trans ((hbw.alloc (by omega) _).trans (htch.toBelowB (by simp; omega) fun q hq e => by injection e with e; omega))
end
end Go.PM
end

section
/-
  Contracts of layer 8: the same fields in new memory.
-/
namespace Go.Proofs.YtmlijflappjfoaaDoor
open Go.RowKit Go.PM
set_option maxRecDepth 100000
set_option maxHeartbeats 4000000
attribute [local go_sem ↓] Go.wp_at_zero Go.wp_at_succ

/-- A clone: its row lies in new memory, its lists in memory newer still. -/
def FCloneEnd (w : World) (f : Fs) (e : Ending) (w' : World) : Prop :=
  ∃ (A : Option Addr) (c g0 : Nat) (xs : List Value), e = .returned (.slice A f.len c) ∧ f.len ≤ c ∧ w'.ownsRow w.heap.size 41 5 (.slice A f.len c) f.len xs ∧ Cls w' (fun k => g0 < k ∧ FB w' 41 k) xs f ∧
    w.heap.size ≤ g0 ∧ (∀ g, (Value.slice A f.len c).ownBlock = some g → g = g0 ∧ FB w' 41 g) ∧ Below w.heap.size w w'
theorem clone_start {w : World} {I : Nat → Prop} {A : Option Addr} {c : Nat} {f : Fs} (hr : SlV w I (.slice A f.len c) f) (h60 : f.len ≤ 1000000) :
    ∃ (A1 : Option Addr) (c1 g0 : Nat) (w1 : World), (Builtin.append_ #[35, 35] 35 #[.slice none 0 0, .slice A f.len c]).run Tryd.prog w = .ok (.slice A1 f.len c1) w1 ∧ Below w.heap.size w w1 ∧
      CE w.heap.size 41 w1 (.slice A1 f.len c1) f ∧ GP w.heap.size g0 41 w1 [.slice A1 f.len c1] 0 0 0 ∧ g0 < w1.heap.size + 1 ∧ (f.len = 0 ∨ g0 = w.heap.size ∧ A1 = some ⟨w.heap.size, 0, none⟩) := by
  obtain ⟨i0, hi0, hz0, hz1, hz2⟩ := info_parts info_field
  have hlt := hr.lt
  by_cases h0 : f.len = 0
  · refine ⟨none, 0, 0, w, ?_, b0, ⟨none, 0, rfl, by omega, .inl ⟨h0, rfl, rfl⟩⟩, fun b cs hb hB => by have := hB.lt; omega, by omega, .inl h0⟩
    have := copy_none (P := Tryd.prog) w 35 35 41 i0 Tryd.underlying35 hi0 A c
    rw [h0]
    exact this
  · obtain ⟨ys, G, hx, hG, hrun⟩ := copy_some (P := Tryd.prog) w 35 35 41 i0 Tryd.underlying35 hi0 hz0 hz1 hz2 hlt (by omega) h60
    have hb : Below w.heap.size w (w.drew.alloc (.cells (ys.toArray ++ Builtin.zeroCells zfield.cells (G - f.len)) 41)) := ba (a := w) (bd b0) _
    refine ⟨some ⟨w.heap.size, 0, none⟩, G, w.heap.size, _, hrun, hb, ⟨_, G, rfl, hG.1, .inr ⟨w.heap.size, rfl, Nat.le_refl _, hG.2, ⟨_, BlkAt.made w.drew _ _, copy_size hx hG.1⟩, (copy_reads hx).imp fun q hq => .inl hq.2⟩⟩, ?_, by simp; omega, .inr ⟨rfl, rfl⟩⟩
    have hg0 : GP w.heap.size w.heap.size 41 w [] 0 0 0 := fun b cs hb hB => by have := hB.lt; omega
    exact hg0.alloc (copy_cells hx)
theorem clone_of (v : Value) (f : Fs) (I : Nat → Prop) (w : World) (hr : SlV w I v f) (h60 : f.count ≤ 1000000) : Calls Tryd.prog 26 #[v] w (FCloneEnd w f) := by
  have hfl := Nat.le_trans f.len_count h60
  obtain ⟨A, c, rfl, hr'⟩ := id hr
  obtain ⟨A1, c1, g0, w1, hrun, hb1, hce, hgp, hg0, hor⟩ := clone_start hr hfl
  have HRUN := Lib.hid hrun
  have H60 := Lib.hid h60
  have HB1 := Lib.hid hb1
  have HOR := Lib.hid hor
  have hst : CW w.heap.size g0 41 35 w f (.slice A1 f.len c1) 0 0 .nil (.slice (some ⟨w1.heap.size, 0, none⟩) 1 1) [f] (w1.alloc (.cells #[.slice A1 f.len c1] 35)) := by
    have hbo := ba (a := w1) b0 (.cells #[.slice A1 f.len c1] 35)
    have hrp := Rp.below (T := 41) hb1.size hbo
    exact ⟨w1.heap.size, 1, [.slice A1 f.len c1], rfl, World.ownsRow_lit w1 #[.slice A1 f.len c1] 1 hb1.size (by decide) rfl, (CL.nil (T := 41)).push (hce.rp hrp), hce.rp hrp, .inl rfl, GP.nt (Te := 35) hgp (NT.alloc _ w1 _) (by decide), hb1.alloc hb1.size _, by simp; omega, Nat.le_trans hb1.size hbo.size⟩
  have HST := Lib.hid hst
  obtain ⟨i0, hi0, hz0, hz1, hz2⟩ := info_parts info_fields
  obtain ⟨j0, hj0, hy0, hy1, hy2⟩ := info_parts info_field
  clear hr hr' hrun hb1 hce hgp hor hst h60 hg0
  go_enter Tryd.func26, Tryd.ntmps26
  go_wp2_with (at_builtin; (refine wpList_append_run rfl _ _ _ _ rfl _ _ _ rfl rfl HRUN.out ?_))
  go_loopg [4] 2000001 (fun gk vv wr => ∃ (L : List Fs), Hid (2 * lsum L + L.length ≤ gk ∧ gk ≤ 2000001) ∧ CW w.heap.size g0 41 35 w f (.slice A1 f.len c1) 0 0 .nil vv L wr)
  case atStart => exact ⟨[f], ⟨by have := H60.out; simp [lsum]; omega, Nat.le_refl _⟩, HST.out⟩
  case round =>
    obtain ⟨L, hn, hcw⟩ := hrel
    have HCW := Lib.hid hcw
    obtain ⟨g, cap, xs, rfl, hown, hcl, hce, _, hgp, hbel, hg0, hH⟩ := hcw
    cases hL : L.length with
    | zero =>
      obtain rfl : L = [] := List.eq_nil_of_length_eq_zero hL
      obtain rfl : xs = [] := List.eq_nil_of_length_eq_zero (by rw [hcl.1]; rfl)
      have HE : Hid (FCloneEnd w f (.returned (.slice A1 f.len c1)) wr) := by
        obtain ⟨A2, c2, hv, hc2, hor⟩ := hce
        injection hv with e1 e2 e3
        subst e1 e3
        rcases hor with ⟨h, rfl, rfl⟩ | ⟨b, hb, hbH, hm, hF, hf⟩
        · have : f = .nil := Fs.len_zero h
          subst this
          exact ⟨none, 0, w.heap.size, [], rfl, Nat.le_refl _, World.ownsRow_nil _ _ _ _, trivial, Nat.le_refl _, fun g hg => (by cases hg), hbel⟩
        · subst hb
          have hg0 : f.len = 0 ∨ g0 = b := by
            rcases HOR.out with h | ⟨h1, h2⟩
            · exact .inl h
            · injection h2 with h2
              injection h2 with h2
              exact .inr (h1.trans h2.symm)
          obtain ⟨cs, hcs, hsz⟩ := hF
          by_cases h0 : f.len = 0
          · have : f = .nil := Fs.len_zero h0
            subst this
            exact ⟨some ⟨b, 0, none⟩, c1, b, _, rfl, hc2, ⟨by simp [Fs.len], .inr ⟨b, c1, cs, rfl, hbH, hcs, hc2, hm, hsz, rfl⟩⟩, by simp [Fs.len, Cls], hbH, fun g hg => by injection hg with hg; subst hg; exact ⟨rfl, cs, hcs⟩, hbel⟩
          · have hgb : g0 = b := by rcases hg0 with h | h; exact absurd h h0; exact h
            subst hgb
            exact ⟨some ⟨g0, 0, none⟩, c1, g0, _, rfl, hc2, ⟨by have : f.len * 5 ≤ cs.size := (by rw [hsz]; exact Nat.mul_le_mul_right 5 hc2); rw [List.length_take, Array.length_toList]; omega, .inr ⟨g0, c1, cs, rfl, hbH, hcs, hc2, hm, hsz, rfl⟩⟩, cls_of_blk (hgp.out hbH hbH ⟨cs, hcs⟩ hf) hcs, hbH, fun g hg => by injection hg with hg; subst hg; exact ⟨rfl, cs, hcs⟩, hbel⟩
      clear hown hcl hce hgp hbel hL hn
      go_wp2_with fail
      go_ret
      exact HE.out
    | succ m =>
      obtain ⟨L', f1, x, rfl, hL', hx, hsx, hcl'⟩ := hcl.pop hL
      obtain ⟨Ax, cx, rfl, hcx, hor⟩ := hsx
      obtain ⟨b, hbx⟩ : ∃ b, f1.len = 0 ∨ Ax = some ⟨b, 0, none⟩ ∧ w.heap.size ≤ b ∧ FB wr 41 b ∧ FsAt wr (IC w.heap.size 41 wr) f1 b 0 := by
        rcases hor with ⟨h, _⟩ | ⟨b, h1, h2, _, h3, h4⟩
        · exact ⟨0, .inl h⟩
        · exact ⟨b, .inr ⟨h1, h2, h3.fb, h4⟩⟩
      have hcell := hown.cellAt m (by rw [hL]; omega)
      rw [hx] at hcell
      rw [hL] at hown
      have HO := Lib.hid (own_pop hown)
      obtain ⟨hmc, hcap⟩ := own_cap hown
      have hmi : (m : Int) ≤ (cap : Int) := by omega
      have hxs : xs = xs.take m ++ [.slice Ax f1.len cx] := by
        have hl : xs.length = m + 1 := by rw [hcl.1, hL]
        have hm : m < xs.length := by omega
        have h1 := List.take_append_getElem hm
        rw [List.getElem?_eq_getElem hm] at hx
        injection hx with hx
        rw [hx, show List.take (m + 1) xs = xs from List.take_of_length_le (by omega)] at h1
        exact h1.symm
      have hin : CW w.heap.size g0 41 35 w f (.slice A1 f.len c1) b 0 f1 (.slice (some ⟨g, 0, none⟩) m cap) L' wr := by
        refine ⟨g, cap, xs.take m, by rw [hL'], by rw [hL']; have := HO.out; rwa [Nat.mul_one] at this, hcl', hce, hbx.imp id fun h => h.2, ?_, hbel, hg0, hH⟩
        rw [hxs] at hgp
        exact hgp.pop (hbx.symm.imp (fun h => h.1) id)
      have HIN := Lib.hid hin
      have HBX : Hid (f1.len = 0 ∨ Ax = some ⟨b, 0, none⟩) := hbx.imp id fun h => h.1
      obtain ⟨hn2, hgT⟩ := hn.out
      rw [lsum_app] at hn2
      simp only [lsum, List.length_append, List.length_cons, List.length_nil] at hn2
      have hfc := f1.count_in
      have H0 : Hid (2 * lsum L' + L'.length + 2 * f1.icount + f1.len + 1 ≤ gk ∧ gk ≤ 2000001) := ⟨by omega, hgT⟩
      have hm6 : m ≤ 2000001 := by omega
      have hf6 : f1.len ≤ 2000001 := by omega
      obtain ⟨G, hG⟩ : ∃ G, G = gk := ⟨gk, rfl⟩
      rw [← hG] at H0
      have HG := Lib.hid hG
      clear hG hn hn2 hgT hfc hown hcl hce hgp hbel hin hor hbx hx hL hL' hcl' hxs HCW HO
      go_wp2_with fail
      go_loopg [4, 28] f1.len (fun gj vv kk w2 => ∃ (k : Nat) (L2 : List Fs), k + gj = f1.len ∧ kk = .int .i64 (k : Int) ∧ Hid (2 * lsum L2 + L2.length + 2 * (f1.drop k).icount + (f1.drop k).len + 1 ≤ G) ∧ CW w.heap.size g0 41 35 w f (.slice A1 f.len c1) b k f1 vv L2 w2)
      case atStart =>
        refine ⟨0, L', by omega, rfl, ?_, HIN.out⟩
        have : f1.drop 0 = f1 := by cases f1 <;> rfl
        rw [this]
        exact H0.out.1
      case round =>
        obtain ⟨k, L2, hkj, rfl, hn2, hcw⟩ := hrel
        have HCW := Lib.hid hcw
        by_cases hlt : k < f1.len
        · obtain ⟨t, y, n, s, i, Ai, ci, hdc, hbH, a4, hfr, hci, hin⟩ := hcw.at_ hlt
          have hA : Ax = some ⟨b, 0, none⟩ := by
            rcases HBX.out with h | h
            · omega
            · exact h
          subst hA
          have hkl : (k : Int) < (f1.len : Int) := by omega
          have hn3 := hn2.out
          rw [hdc] at hn3
          simp only [Fs.icount, Fs.len] at hn3
          have hic := i.count_in
          have HDC := Lib.hid hdc
          obtain ⟨g2, cap2, xs2, rfl, hown2, _, _, _, _, hbel2, _, hH2⟩ := hcw
          by_cases hi0' : i.len = 0
          · have HN : Hid (2 * lsum L2 + L2.length + 2 * (f1.drop (k + 1)).icount + (f1.drop (k + 1)).len + 1 ≤ G) := by show _ ≤ _; omega
            have hr2 := copy_none (P := Tryd.prog) wr 35 35 41 j0 Tryd.underlying35 hj0 Ai ci
            have hnil : i = .nil := Fs.len_zero hi0'
            subst hnil
            have HR2 := Lib.hid hr2
            clear hn3 hn2 hown2 hbel2 hin hic hi0' hr2 hdc
            go_wp2_with (at_builtin; (refine wpList_append_run rfl _ _ _ _ rfl _ _ _ rfl rfl HR2.out ?_))
            go_roundg (f1.len - (k + 1))
            case measure => omega
            case rel =>
              refine ⟨k + 1, L2, by omega, by go_num, HN.out, ?_⟩
              exact HCW.out.clear (by decide) hlt HDC.out rfl
          · have hip : (0 : Int) < (i.len : Int) := by omega
            have hipn : 0 < i.len := by omega
            have HN : Hid (2 * lsum (L2 ++ [i]) + (L2 ++ [i]).length + 2 * (f1.drop (k + 1)).icount + (f1.drop (k + 1)).len + 1 ≤ G) := by
              rw [lsum_app]
              simp only [lsum, List.length_append, List.length_cons, List.length_nil]
              show _ ≤ _
              omega
            have hi6 : i.len ≤ 1000000 := by have := i.len_count; have := H0.out.2; omega
            have hL6 : L2.length + 1 ≤ 4000001 := by have := H0.out.2; omega
            have hsl : SlV wr (fun q => IC w.heap.size 41 wr q ∧ q < wr.heap.size) (.slice Ai i.len ci) i := by
              have h1 : SlV wr (IC w.heap.size 41 wr) (.slice Ai i.len ci) i := ⟨Ai, ci, rfl, hci, hin⟩
              exact h1.lt
            obtain ⟨ys, GG, hx, hGG, hr2⟩ := copy_some (P := Tryd.prog) wr 35 35 41 j0 Tryd.underlying35 hj0 hy0 hy1 hy2 hsl hipn hi6
            obtain ⟨wa, hwa⟩ : ∃ wa, wa = wr.drew.alloc (.cells (ys.toArray ++ Builtin.zeroCells zfield.cells (GG - i.len)) 41) := ⟨_, rfl⟩
            rw [← hwa] at hr2
            have hba : Below wr.heap.size wr wa := by rw [hwa]; exact ba (a := wr) (bd b0) _
            have HWA := Lib.hid hwa
            have HR2 := Lib.hid hr2
            have HX := Lib.hid hx
            have HGG := Lib.hid hGG
            obtain ⟨cs5, hcs5⟩ : ∃ cs, BlkAt wr b 41 cs := by
              obtain ⟨_, _, _, _, _, _, _, hcur, _⟩ := HCW.out
              rcases hcur with h | ⟨_, h, _⟩
              · omega
              · exact h
            have hbl := hcs5.lt
            have a5 := (World.cell?_of_block (a := ⟨b, k * 5 + 4, none⟩) (hba.block b hbl)).trans a4
            have hfr5 := (hcs5.below hba hbl).free (k * 5 + 4)
            have hg2l := hown2.lt g2 rfl
            have hsza : wa.heap.size = wr.heap.size + 1 := by rw [hwa]; simp
            have hne : g2 ≠ b := by
              rintro rfl
              rcases hown2.2 with ⟨h1, _⟩ | ⟨g', cap', cur, h1, _, hgg, _⟩
              · simp at h1
              · simp only [Value.slice.injEq, Option.some.injEq, Addr.mk.injEq, and_true, true_and] at h1
                obtain ⟨rfl, _⟩ := h1
                exact absurd (HasT.one hcs5.hasT ⟨_, _, hgg⟩) (by decide)
            have howna := (own_tch (own_below hown2 hba) ((Tch.refl (fun q => q = b) wa).put (p := ⟨b, k * 5 + 4, none⟩) (fun _ => rfl) (.slice (some ⟨wr.heap.size, 0, none⟩) i.len GG)) (fun q hq e => by simp only [Value.ownBlock, Option.some.injEq] at hq; omega)).alloc (.cells #[.slice (some ⟨wr.heap.size, 0, none⟩) i.len GG] 35)
            have hszb : (wa.setCell ⟨b, k * 5 + 4, none⟩ (.slice (some ⟨wr.heap.size, 0, none⟩) i.len GG)).heap.size = wr.heap.size + 1 := by simp [World.setCell, hsza]
            have hnb := BlkAt.made (wa.setCell ⟨b, k * 5 + 4, none⟩ (.slice (some ⟨wr.heap.size, 0, none⟩) i.len GG)) 35 #[.slice (some ⟨wr.heap.size, 0, none⟩) i.len GG]
            rw [show (wa.setCell ⟨b, k * 5 + 4, none⟩ (.slice (some ⟨wr.heap.size, 0, none⟩) i.len GG)).heap.size = wa.heap.size by simp [World.setCell]] at hnb
            have HOA := Lib.hid howna
            have HNB := Lib.hid hnb
            have HO2 := Lib.hid hown2
            have HSZ : Hid (w.heap.size ≤ ((wa.setCell ⟨b, k * 5 + 4, none⟩ (.slice (some ⟨wr.heap.size, 0, none⟩) i.len GG)).alloc (.cells #[.slice (some ⟨wr.heap.size, 0, none⟩) i.len GG] 35)).heap.size) := by show _ ≤ _; rw [World.size_alloc, hszb]; omega
            clear hn3 hn2 hown2 hbel2 hin hic hi0' hr2 hdc hwa hx hGG hsl hba hcs5 hg2l hsza hne howna hszb hnb hbl
            go_wp2_with (first | (at_builtin; refine wpList_append_run rfl _ _ _ _ rfl _ _ _ rfl rfl HR2.out ?_) | (at_builtin; go_loud (refine wpList_append_push rfl _ _ 75 rfl w.heap.size 35 i0 _ 24 Tryd.underlying75 hi0 hz0 hz1 hz2 (by decide) rfl _ L2.length xs2 rfl HOA.out wa.heap.size (.slice (some ⟨wr.heap.size, 0, none⟩) i.len GG) rfl HNB.out rfl hL6 HSZ.out ?_); intro g3 cap3 w3 hown3 hg3 hat3 hlt3 hnt3; have HO3 := Lib.hid hown3; have HG3 := Lib.hid hg3; have HN3 := Lib.hid hnt3; clear hown3 hg3 hat3 hlt3 hnt3))
            go_roundg (f1.len - (k + 1))
            case measure => omega
            case rel => exact ⟨k + 1, L2 ++ [i], by omega, by go_num, HN.out, HCW.out.fill (by decide) hlt HDC.out HGG.out HX.out HWA.out rfl HO2.out HO3.out HG3.out HN3.out⟩
        · obtain rfl : k = f1.len := by omega
          have hlr : f1.drop f1.len = .nil := Fs.len_zero (by rw [Fs.drop_len]; omega)
          rw [hlr] at hn2
          have HE : Hid (2 * lsum L2 + L2.length < G) := by have := hn2.out; simp only [Fs.icount, Fs.len] at this; show _ < _; omega
          obtain ⟨g2, cap2, xs2, rfl, h1, h2, h3, h4, h5, h6⟩ := hcw
          have HW : Hid (CW w.heap.size g0 41 35 w f (.slice A1 f.len c1) 0 0 .nil (.slice (some ⟨g2, 0, none⟩) L2.length cap2) L2 wr) := ⟨g2, cap2, xs2, rfl, h1, h2, h3, .inl rfl, h5.done, h6⟩
          clear hn2 h1 h2 h3 h4 h5 h6 hlr HCW
          go_wp2_with fail
          go_roundg (2 * lsum L2 + L2.length)
          case measure => rw [← HG.out]; exact HE.out
          case rel => exact ⟨L2, ⟨Nat.le_refl _, by have := HE.out; have := H0.out.2; omega⟩, HW.out⟩
end Go.Proofs.YtmlijflappjfoaaDoor
end

section
/-
  The walk of the statement FieldRests. Conditions: numbers within their kinds; Go's tables of UTF-8 lie in memory.
-/
namespace Go.PM
open Go.RowKit
theorem own_slv2 {w : World} {base : Nat} {e : TypeId} {v : Value} {xs : List Value} {f : Fs} {J : Nat → Prop} (h : w.ownsRow base e 5 v f.len xs) (hc : Cls w J xs f) : ∃ A c, v = .slice A f.len c ∧ SlV w (fun _ => True) (.slice A f.len c) f := by
  rcases h.2 with ⟨rfl, h0⟩ | ⟨g, cap, cur, rfl, hb, hg, hn, _⟩
  · have := Fs.len_zero h0
    subst this
    exact ⟨none, 0, rfl, SlV.nil _ _ _ _⟩
  · refine ⟨some ⟨g, 0, none⟩, cap, rfl, some ⟨g, 0, none⟩, cap, rfl, hn, .inr ⟨g, 0, rfl, trivial, (Array.getElem?_eq_some_iff.1 hg).1, (hc.imp fun _ _ => trivial).at_ fun j u hj => ?_⟩⟩
    have := h.cells (g := g) rfl j u hj
    rwa [add_at, ← Nat.zero_add j] at this
end Go.PM
namespace Go.Proofs.YtmlijflappjfoaaDoor
open Go.RowKit Go.PM
set_option maxRecDepth 100000
set_option maxHeartbeats 4000000
attribute [local go_sem ↓] Go.wp_at_zero Go.wp_at_succ

theorem frests_walk (A : Option Addr) (cap : Nat) (l : List One) (n : Nat) (w : World) (hT : Tabs w) (hr : OnesRd w.heap.size w A l) (hok : ∀ x ∈ l, x.ok) (hn : n < 256)
    (hl : l.length ≤ cap) (hc : cap ≤ 9223372036854775807) :
    Calls Tryd.prog 6 #[.slice A l.length cap, .int .u8 (n : Int)] w fun e w' => e = .returned (.bool true) ∧ Below w.heap.size w w' := by
  have HA := Lib.hid (awake08 w hT)
  have hb1 : Below w.heap.size w w := b0
  have HF : Hid (∀ x : World, Below w.heap.size w x → Calls Tryd.prog 23 #[.slice A l.length cap] x fun e w' => e = .returned (.bool (few l)) ∧ Below x.heap.size x w') := fun x hx => few_any w.heap.size A cap l x (hr.belowB hx) hok (by omega)
  have HR := Lib.hid hr
  have HOK := Lib.hid hok
  have HL : Hid (l.length ≤ cap ∧ cap ≤ 9223372036854775807) := ⟨hl, hc⟩
  clear hT hr hok
  generalize hfa : few l = fa at HF
  have HFA := Lib.hid hfa
  clear hfa
  cases fa with
  | false =>
    go_enter Tryd.func6, Tryd.ntmps6
    go_wp2_with fail
    refine (HA.out).mono ?_
    rintro e w1 ⟨rfl, hb2⟩
    replace hb1 := bb hb1 hb2
    clear hb2
    go_wp2_with fail
    refine (HF.out _ hb1).mono ?_
    rintro e w2 ⟨rfl, hb2⟩
    replace hb1 := bb hb1 hb2
    clear hb2
    go_wp2
    go_ret
    exact ⟨rfl, hb1⟩
  | true =>
    obtain ⟨ht3, h60⟩ := few_ok HFA.out
    have HM : Hid (∀ x : World, Below w.heap.size w x → Calls Tryd.prog 24 #[.slice A l.length cap] x (MakeEnd x l.length)) := fun x hx => make_any w.heap.size A cap l x hx.size (HR.out.belowB hx) (fun x hx => ⟨HOK.out x hx, ht3 x hx⟩) h60 HL.out.1 HL.out.2
    clear ht3
    go_enter Tryd.func6, Tryd.ntmps6
    go_wp2_with fail
    refine (HA.out).mono ?_
    rintro e w1 ⟨rfl, hb2⟩
    replace hb1 := bb hb1 hb2
    clear hb2
    go_wp2_with fail
    refine (HF.out _ hb1).mono ?_
    rintro e w2 ⟨rfl, hb2⟩
    replace hb1 := bb hb1 hb2
    clear hb2
    go_wp2_with fail
    refine (HM.out _ hb1).mono ?_
    rintro e w4 ⟨f, Af, cf, rfl, hfc, hfk, hfs, hb2⟩
    replace hb1 := bb hb1 hb2
    have HFK : Hid (f.All FKd) := hfk.imp fun _ _ _ _ h => h.kd
    have HFS : Hid (SlV w4 (fun _ => True) (.slice Af f.len cf) f) := hfs.imp fun _ _ => trivial
    have hx : Below w4.heap.size w4 w4 := b0
    have hf60 : f.count ≤ 1000000 := by omega
    have H60 := Lib.hid hf60
    have hfl := Nat.le_trans f.len_count hf60
    clear hb2 hfk hfs hf60 hfc
    by_cases h0 : f.len = 0
    · have hi : ((f.len : Int) == 0) = true := by simp; exact h0
      clear h0
      go_wp2
      go_ret
      exact ⟨rfl, hb1⟩
    have hi : ((f.len : Int) == 0) = false := by simp; exact h0
    have hpos : (0 : Int) < (f.len : Int) := by omega
    have HC1 : Hid (∀ x : World, Below w4.heap.size w4 x → Calls Tryd.prog 30 #[.slice Af f.len cf] x fun e w' => e = .returned (.int .i64 (fcheck f 0 0 : Int)) ∧ Below x.heap.size x w') := fun x hx => check_of _ f _ x (HFS.out.below hx) HFK.out H60.out
    generalize hE : fcheck f 0 0 = E at HC1
    have HE := Lib.hid hE
    clear hE
    go_wp2_with fail
    refine (HC1.out _ hx).mono ?_
    rintro e w5 ⟨rfl, hb2⟩
    replace hb1 := bb hb1 hb2
    replace hx := bb hx hb2
    clear hb2
    by_cases he : E = 0
    · subst he
      go_wp2_with fail
      have hkm : ((n : Int) % (f.len : Int)) = ((n % f.len : Nat) : Int) := rfl
      rw [hkm]
      clear hkm
      have hkl : n % f.len < f.len := Nat.mod_lt _ (by omega)
      generalize n % f.len = k at hkl ⊢
      have HX := Lib.hid (HFS.out.below hx)
      obtain ⟨t, y, m, s, i, hdc, _⟩ := f.drop_cons k hkl
      obtain ⟨A0, c0, hv, hcf, hor⟩ := HX.out
      injection hv with e1 e2 e3
      subst e1 e3
      rcases hor with h | ⟨b, o, rfl, _, hbl, hat⟩
      · omega
      have hak := hat.drop k
      rw [hdc] at hak
      obtain ⟨a0, a1, a2, a3, ⟨Ai, ci, a4, hci, hin⟩, _⟩ := hak
      have HSI : Hid (SlV w5 (fun _ => True) (.slice Ai i.len ci) i) := ⟨Ai, ci, rfl, hci, hin⟩
      have hP := (fcheck_iff f 0 0 HFK.out (by omega)).1 HE.out
      have hkk := HFK.out.drop k
      rw [hdc] at hkk
      have hcc := f.drop_count k
      rw [hdc] at hcc
      simp only [Fs.count] at hcc
      have hP2 := fcheckP_at hP hdc
      have hRl : ((f.take k).app (f.drop (k + 1))).All FKd := (HFK.out.take k).app (HFK.out.drop (k + 1))
      have hR0 : fcheck ((f.take k).app (f.drop (k + 1))) 0 0 = 0 := (fcheck_iff _ 0 0 hRl (by omega)).2 (fcheckP_out hP hkl)
      have hi0 : fcheck i 0 0 = 0 := (fcheck_iff _ 0 0 hkk.2.1 (by omega)).2 hP2.1
      have hone0 : fcheck (.cons t y m s i .nil) 0 0 = 0 := (fcheck_iff (.cons t y m s i .nil) 0 0 ⟨hkk.1, hkk.2.1, trivial⟩ (by omega)).2 hP2.2
      have hdep := fcheckP_depth (by omega) hP
      have hRc : ((f.take k).app (f.drop (k + 1))).count ≤ 1000000 := by
        rw [Fs.app_count]
        have h1 := Fs.app_count (f.take k) (f.drop k)
        rw [Fs.take_drop, hdc] at h1
        simp only [Fs.count] at h1
        have := H60.out
        omega
      have HRC : Hid (((f.take k).app (f.drop (k + 1))).All FKd ∧ fcheck ((f.take k).app (f.drop (k + 1))) 0 0 = 0 ∧ ((f.take k).app (f.drop (k + 1))).count ≤ 1000000) := ⟨hRl, hR0, hRc⟩
      have HIC : Hid (i.All FKd ∧ fcheck i 0 0 = 0 ∧ i.count ≤ 1000000) := ⟨hkk.2.1, hi0, by have := H60.out; omega⟩
      have HOC : Hid ((Fs.cons t y m s i .nil).All FKd ∧ fcheck (.cons t y m s i .nil) 0 0 = 0 ∧ (Fs.cons t y m s i .nil).count ≤ 1000000) := ⟨⟨hkk.1, hkk.2.1, trivial⟩, hone0, by have := H60.out; simp only [Fs.count]; omega⟩
      have HD : Hid (∀ x : World, Below w5.heap.size w5 x → Calls Tryd.prog 31 #[.slice (some ⟨b, o, none⟩) f.len cf] x fun e w' => e = .returned (.int .i64 (f.depth : Int)) ∧ Below x.heap.size x w') := fun x hx => depth_of _ f _ x (HX.out.below hx) H60.out
      have HC : Hid (∀ x : World, Below w5.heap.size w5 x → Calls Tryd.prog 26 #[.slice (some ⟨b, o, none⟩) k cf] x (FCloneEnd x (f.take k))) := fun x hx => by
        have h1 := (HX.out.below hx).take k (by omega)
        have h2 := clone_of _ _ _ x h1 (Nat.le_trans (f.take_count k) H60.out)
        rwa [f.take_len k (by omega)] at h2
      have HTK := Lib.hid (f.take_len k (by omega))
      have HDL := Lib.hid (f.drop_len (k + 1))
      have HCells : Hid (∀ W1 : World, Below w5.heap.size w5 W1 → (W1.cell? ⟨b, o + k * 5, none⟩ = some (.int .u64 (t : Int)) ∧ W1.cell? ⟨b, o + k * 5 + 1, none⟩ = some (.int .i64 y) ∧ W1.cell? ⟨b, o + k * 5 + 2, none⟩ = some (.int .u64 (m : Int)) ∧ W1.cell? ⟨b, o + k * 5 + 3, none⟩ = some (.string s) ∧ W1.cell? ⟨b, o + k * 5 + 4, none⟩ = some (.slice Ai i.len ci))) := fun W1 hx => by
        have e := fun j => World.cell?_of_block (a := ⟨b, j, none⟩) (hx.block b hbl)
        exact ⟨(e _).trans a0, (e _).trans a1, (e _).trans a2, (e _).trans a3, (e _).trans a4⟩
      have hd8 : f.depth ≤ 8 := by omega
      have hk1 : (k : Int) + 1 ≤ (f.len : Int) := by omega
      have hcfi : (f.len : Int) ≤ (cf : Int) := by omega
      have hkc : (k : Int) ≤ (cf : Int) := by omega
      have HCF := Lib.hid hcf
      have hw5 : Below w5.heap.size w5 w5 := b0
      clear hdep hRl hR0 hRc hi0 hone0 hP hP2 hkk hcc hdc hat hin a0 a1 a2 a3 a4
      obtain ⟨i0, hi0, hz0, hz1, hz2⟩ := info_parts info_field
      by_cases hcap : k + 1 = cf
      · have hz : f.len - (k + 1) = 0 := by omega
        have HSRC : Hid (∀ W : World, Below w5.heap.size w5 W → SlV W (fun q => q < w5.heap.size) (.slice (some ⟨b, o, none⟩) (f.drop (k + 1)).len 0) (f.drop (k + 1))) := fun W _ => ⟨_, 0, rfl, by rw [HDL.out]; omega, .inl (by rw [HDL.out]; omega)⟩
        have hfe : f.len = k + 1 := by omega
        have HDX : Hid ((f.drop (k + 1)).len = 0) := by show _ = _; rw [HDL.out]; omega
        have hcn : (0 : Int) ≤ (cf : Int) := by omega
        have hfc : (cf : Int) ≤ (f.len : Int) := by omega
        have hwr : IntKind.i64.wrap (cf : Int) = (cf : Int) := by simp [IntKind.wrap, IntKind.signed, IntKind.bits]; omega
        have htn : (k : Int) + 1 = (cf : Int) := by omega
        clear hz hfe hcap hk1
        go_region_held3 (fun _ => True) (trivial)
          (first
            | (go_at_call 26; clear hwr htn; refine (HC.out _ (bd b0)).mono ?_; rintro e' W1 ⟨Ac, cc, g0, xs, rfl, hcc, hown, hcls, hg0, howng, hbc⟩; have hbW : Below w5.heap.size w5 W1 := bb (bd b0) hbc; obtain ⟨A2, c2, w6, xs2, hrun, hown2, hcls2, hgr, _⟩ := fapp_run (P := Tryd.prog) 35 35 41 i0 Tryd.underlying35 hi0 hz0 hz1 hz2 hown hcls (fun q hq hh => by have h1 := (howng q hh).1; omega) (HSRC.out W1 hbW) (fun q hq hh => by have h1 := (howng q hh).1; have h2 : w5.drew.heap.size = w5.heap.size := rfl; omega) (by rw [HTK.out, HDL.out]; omega) hbc.size; rw [HDX.out] at hrun; have HRUN := Lib.hid hrun; have HO2 := Lib.hid hown2; have HC2 := Lib.hid hcls2; have hb6 : Below w5.heap.size w5 w6 := hbW.trans (Tch.grown (S := fun q => (Value.slice Ac (f.take k).len cc).ownBlock = some q) hgr (fun q hq _ => hq) |>.toBelowB hbW.size fun q hq hh => by have h1 := (howng q hh).1; have h2 : w5.drew.heap.size = w5.heap.size := rfl; omega); have HB6 := Lib.hid hb6; clear hrun hown2 hcls2 hgr hcc hown hcls hg0 howng hbc hbW hb6)
            | (refine step_append_run (by rfl) _ _ _ _ (by rfl) _ _ _ (by rfl) (by rfl) HRUN.out ?_))
        try clear hwr htn
        have HK1 : Hid (Calls Tryd.prog 30 #[.slice A2 ((f.take k).app (f.drop (k + 1))).len c2] w6 fun e w' => e = .returned (.int .i64 0) ∧ Below w6.heap.size w6 w') := by
          obtain ⟨A9, c9, hv9, hs9⟩ := own_slv2 HO2.out HC2.out
          have := check_of _ _ _ w6 hs9 HRC.out.1 HRC.out.2.2
          rw [HRC.out.2.1, ← hv9] at this
          exact this
        have HK2 : Hid (∀ W : World, Below w5.heap.size w5 W → Calls Tryd.prog 30 #[.slice Ai i.len ci] W fun e w' => e = .returned (.int .i64 0) ∧ Below W.heap.size W w') := fun W hW => by
          have := check_of _ _ _ W (HSI.out.below hW) HIC.out.1 HIC.out.2.2
          rw [HIC.out.2.1] at this
          exact this
        have HK3 : Hid (∀ W : World, Below w5.heap.size w5 W → Calls Tryd.prog 30 #[.slice (some ⟨W.heap.size, 0, none⟩) 1 1] (W.alloc (.cells #[.int .u64 (t : Int), .int .i64 y, .int .u64 (m : Int), .string s, .slice Ai i.len ci] 41)) fun e w' => e = .returned (.int .i64 0) ∧ Below W.heap.size W w') := fun W hW => by
          have h1 : SlV (W.alloc (.cells #[.int .u64 (t : Int), .int .i64 y, .int .u64 (m : Int), .string s, .slice Ai i.len ci] 41)) (fun _ => True) (.slice (some ⟨W.heap.size, 0, none⟩) (Fs.cons t y m s i .nil).len 1) (.cons t y m s i .nil) :=
            slv_blk (BlkAt.made W _ _) ⟨rfl, rfl, rfl, rfl, (HSI.out.below hW).below (ba b0 _), trivial⟩ trivial (Nat.le_refl 1)
          have := check_of _ _ _ _ h1 HOC.out.1 HOC.out.2.2
          rw [HOC.out.2.1] at this
          exact this.mono fun e w' h => ⟨h.1, bb (ba b0 _) h.2⟩
        clear HO2 HC2 HRUN
        have hw6 := HB6.out
        go_wp2_with fail
        refine HK1.out.mono ?_
        rintro e w7 ⟨rfl, hb2⟩
        have hw7 : Below w5.heap.size w5 w7 := bb hw6 hb2
        obtain ⟨q0, q1, q2, q3, q4⟩ := HCells.out w7 hw7
        clear hb2 hw6
        go_wp2_with fail
        refine (HK2.out w7 hw7).mono ?_
        rintro e w8 ⟨rfl, hb2⟩
        have hw8 : Below w5.heap.size w5 w8 := bb hw7 hb2
        clear q0 q1 q2 q3 q4 hb2 hw7
        obtain ⟨q0, q1, q2, q3, q4⟩ := HCells.out w8 hw8
        go_wp2_with fail
        refine (HK3.out w8 hw8).mono ?_
        rintro e w9 ⟨rfl, hb2⟩
        have hw9 : Below w5.heap.size w5 w9 := bb hw8 hb2
        clear q0 q1 q2 q3 q4 hb2 hw8
        go_wp2_with fail
        refine (HD.out w9 hw9).mono ?_
        rintro e w10 ⟨rfl, hb2⟩
        have hw10 : Below w5.heap.size w5 w10 := bb hw9 hb2
        have hdi : (f.depth : Int) ≤ 8 := by omega
        go_wp2
        go_ret
        exact ⟨rfl, bb hb1 hw10⟩
      · have HSRC : Hid (∀ W : World, Below w5.heap.size w5 W → SlV W (fun q => q < w5.heap.size) (.slice (some ⟨b, o + (k + 1) * 5, none⟩) (f.drop (k + 1)).len (cf - (k + 1))) (f.drop (k + 1))) := fun W hW => by
          have h1 := HX.out.lt.below hW
          have h2 : SlV W (fun q => q < w5.heap.size) (.slice (some ⟨b, o, none⟩) f.len cf) f := h1.imp fun q hq => hq.2
          exact h2.drop (k + 1) (by omega) _ (by have := HCF.out; omega)
        have hck : (k : Int) + 1 < (cf : Int) := by omega
        have hckn : k + 1 < cf := by omega
        have HDX := HDL
        clear hcap
        have hn0 : (0 : Int) ≤ (k : Int) + 1 := by omega
        have hwr : IntKind.i64.wrap ((k : Int) + 1) = (k : Int) + 1 := by simp [IntKind.wrap, IntKind.signed, IntKind.bits]; omega
        have htn : ((k : Int) + 1).toNat = k + 1 := by omega
        go_region_held3 (fun _ => True) (trivial)
          (first
            | (go_at_call 26; clear hwr htn; refine (HC.out _ (bd b0)).mono ?_; rintro e' W1 ⟨Ac, cc, g0, xs, rfl, hcc, hown, hcls, hg0, howng, hbc⟩; have hbW : Below w5.heap.size w5 W1 := bb (bd b0) hbc; obtain ⟨A2, c2, w6, xs2, hrun, hown2, hcls2, hgr, _⟩ := fapp_run (P := Tryd.prog) 35 35 41 i0 Tryd.underlying35 hi0 hz0 hz1 hz2 hown hcls (fun q hq hh => by have h1 := (howng q hh).1; omega) (HSRC.out W1 hbW) (fun q hq hh => by have h1 := (howng q hh).1; have h2 : w5.drew.heap.size = w5.heap.size := rfl; omega) (by rw [HTK.out, HDL.out]; omega) hbc.size; rw [HDX.out] at hrun; have HRUN := Lib.hid hrun; have HO2 := Lib.hid hown2; have HC2 := Lib.hid hcls2; have hb6 : Below w5.heap.size w5 w6 := hbW.trans (Tch.grown (S := fun q => (Value.slice Ac (f.take k).len cc).ownBlock = some q) hgr (fun q hq _ => hq) |>.toBelowB hbW.size fun q hq hh => by have h1 := (howng q hh).1; have h2 : w5.drew.heap.size = w5.heap.size := rfl; omega); have HB6 := Lib.hid hb6; clear hrun hown2 hcls2 hgr hcc hown hcls hg0 howng hbc hbW hb6)
            | (refine step_append_run (by rfl) _ _ _ _ (by rfl) _ _ _ (by rfl) (by rfl) HRUN.out ?_))
        try clear hwr htn
        have HK1 : Hid (Calls Tryd.prog 30 #[.slice A2 ((f.take k).app (f.drop (k + 1))).len c2] w6 fun e w' => e = .returned (.int .i64 0) ∧ Below w6.heap.size w6 w') := by
          obtain ⟨A9, c9, hv9, hs9⟩ := own_slv2 HO2.out HC2.out
          have := check_of _ _ _ w6 hs9 HRC.out.1 HRC.out.2.2
          rw [HRC.out.2.1, ← hv9] at this
          exact this
        have HK2 : Hid (∀ W : World, Below w5.heap.size w5 W → Calls Tryd.prog 30 #[.slice Ai i.len ci] W fun e w' => e = .returned (.int .i64 0) ∧ Below W.heap.size W w') := fun W hW => by
          have := check_of _ _ _ W (HSI.out.below hW) HIC.out.1 HIC.out.2.2
          rw [HIC.out.2.1] at this
          exact this
        have HK3 : Hid (∀ W : World, Below w5.heap.size w5 W → Calls Tryd.prog 30 #[.slice (some ⟨W.heap.size, 0, none⟩) 1 1] (W.alloc (.cells #[.int .u64 (t : Int), .int .i64 y, .int .u64 (m : Int), .string s, .slice Ai i.len ci] 41)) fun e w' => e = .returned (.int .i64 0) ∧ Below W.heap.size W w') := fun W hW => by
          have h1 : SlV (W.alloc (.cells #[.int .u64 (t : Int), .int .i64 y, .int .u64 (m : Int), .string s, .slice Ai i.len ci] 41)) (fun _ => True) (.slice (some ⟨W.heap.size, 0, none⟩) (Fs.cons t y m s i .nil).len 1) (.cons t y m s i .nil) :=
            slv_blk (BlkAt.made W _ _) ⟨rfl, rfl, rfl, rfl, (HSI.out.below hW).below (ba b0 _), trivial⟩ trivial (Nat.le_refl 1)
          have := check_of _ _ _ _ h1 HOC.out.1 HOC.out.2.2
          rw [HOC.out.2.1] at this
          exact this.mono fun e w' h => ⟨h.1, bb (ba b0 _) h.2⟩
        clear HO2 HC2 HRUN
        have hw6 := HB6.out
        go_wp2_with fail
        refine HK1.out.mono ?_
        rintro e w7 ⟨rfl, hb2⟩
        have hw7 : Below w5.heap.size w5 w7 := bb hw6 hb2
        obtain ⟨q0, q1, q2, q3, q4⟩ := HCells.out w7 hw7
        clear hb2 hw6
        go_wp2_with fail
        refine (HK2.out w7 hw7).mono ?_
        rintro e w8 ⟨rfl, hb2⟩
        have hw8 : Below w5.heap.size w5 w8 := bb hw7 hb2
        clear q0 q1 q2 q3 q4 hb2 hw7
        obtain ⟨q0, q1, q2, q3, q4⟩ := HCells.out w8 hw8
        go_wp2_with fail
        refine (HK3.out w8 hw8).mono ?_
        rintro e w9 ⟨rfl, hb2⟩
        have hw9 : Below w5.heap.size w5 w9 := bb hw8 hb2
        clear q0 q1 q2 q3 q4 hb2 hw8
        go_wp2_with fail
        refine (HD.out w9 hw9).mono ?_
        rintro e w10 ⟨rfl, hb2⟩
        have hw10 : Below w5.heap.size w5 w10 := bb hw9 hb2
        have hdi : (f.depth : Int) ≤ 8 := by omega
        go_wp2
        go_ret
        exact ⟨rfl, bb hb1 hw10⟩
    · have hei : ((E : Int) != 0) = true := by rw [bne_iff_ne]; omega
      go_wp2
      go_ret
      exact ⟨rfl, hb1⟩
end Go.Proofs.YtmlijflappjfoaaDoor
end
