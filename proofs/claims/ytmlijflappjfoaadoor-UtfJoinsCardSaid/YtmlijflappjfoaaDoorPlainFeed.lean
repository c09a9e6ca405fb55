/-
  Plain laws of layer 6: a stream that is fed in pieces; no program in sight.
-/
import Derived.Test.YtmlijflappjfoaaDoorPlainStream
namespace Go.PM

/-- What comes of a state, where more is fed. -/
def feedOf (e : Nat) (R t : List UInt8) : List (List UInt8) × Nat × List UInt8 := if e = 0 then fof (R ++ t) else ([], e, R)
def NeedOk (R : List UInt8) (need : Nat) : Prop := ∀ b, (R ++ b).length < need → (fparse (R ++ b)).2.2 = 1
def St (R : List UInt8) (need e : Nat) : Prop := e = 0 → (fparse R).2.2 = 1 ∧ NeedOk R need
theorem St.new : St [] 0 0 := fun _ => ⟨rfl, fun b h => by omega⟩
theorem feedOf_nil {R : List UInt8} {need e : Nat} (h : St R need e) : feedOf e R [] = ([], e, R) := by
  unfold feedOf
  by_cases h0 : e = 0
  · rw [if_pos h0, List.append_nil, fof_short (h h0).1, h0]
  · rw [if_neg h0]
theorem feedOf_more (e : Nat) (R t p : List UInt8) : feedOf e R (t ++ p) =
    if (feedOf e R t).2.1 = 0 then ((feedOf e R t).1 ++ (fof ((feedOf e R t).2.2 ++ p)).1, (fof ((feedOf e R t).2.2 ++ p)).2) else feedOf e R t := by
  unfold feedOf
  by_cases h0 : e = 0
  · simp only [if_pos h0]
    rw [← List.append_assoc, fof_append p (R ++ t)]
  · simp only [if_neg h0]
theorem feedOf_start (t : List UInt8) : feedOf 0 [] t = fof t := by unfold feedOf; rw [if_pos rfl, List.nil_append]
theorem St.keep {R p : List UInt8} {need : Nat} (h : St R need 0) (hl : (R ++ p).length < need) : St (R ++ p) need 0 ∧ fof (R ++ p) = ([], 0, R ++ p) := by
  have h1 := (h rfl).2 p hl
  refine ⟨fun _ => ⟨h1, fun b hb => ?_⟩, fof_short h1⟩
  rw [List.append_assoc] at hb ⊢
  exact (h rfl).2 _ hb
theorem St.fof (s : List UInt8) : St (Go.PM.fof s).2.2 (if (Go.PM.fof s).2.1 = 0 then fneed (Go.PM.fof s).2.2 else 0) (Go.PM.fof s).2.1 := by
  intro h0
  rw [if_pos h0]
  rcases fof_rest s with ⟨_, h⟩ | ⟨h, _⟩
  · exact ⟨h, fun b hb => fneed_ok _ b h hb⟩
  · exact absurd h0 h
theorem fof_len : ∀ s, (Go.PM.fof s).1.length + (Go.PM.fof s).2.2.length ≤ s.length := by
  refine fof_ind ?_ ?_ ?_
  · intro s h; rw [fof_short h]; simp
  · intro s h ih
    have hk := fparse_ok h
    rw [fof_ok h]
    simp only [List.length_cons]
    rw [List.length_drop] at ih
    omega
  · intro s h h1; rw [fof_bad h h1]; simp
/-- Pieces, one behind the other. -/
def flat (l : List ByteArray) : List UInt8 := l.flatMap fun x => x.data.toList
theorem flat_take {l : List ByteArray} {k : Nat} (h : k < l.length) : flat (l.take (k + 1)) = flat (l.take k) ++ l[k].data.toList := by
  unfold flat
  rw [← List.take_append_getElem h, List.flatMap_append]
  simp
theorem flat_le (l : List ByteArray) (k : Nat) : (flat (l.take k)).length ≤ (flat l).length := by
  unfold flat
  conv => rhs; rw [← List.take_append_drop k l]
  rw [List.flatMap_append, List.length_append]
  omega
end Go.PM
