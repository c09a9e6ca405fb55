/-
  The document's answer of layer 6, walked. Conditions: texts within a million bytes.
-/
import Derived.Test.YtlkdoahdcepncaaDefLaw
namespace Go.Proofs.Ytlkdoahdcepncaa
open Go.RowKit Go.PM
set_option maxRecDepth 100000
set_option maxHeartbeats 1000000

/-- What ref.Of answers. -/
def OfEnd (w : World) (S : List ByteArray) (E : Nat) (k : Nat) (e : Ending) (w' : World) : Prop :=
  ∃ v, e = .returned (.tuple #[v, .int .i64 (E : Int), .int .i64 (k : Int)]) ∧ w'.ownsRow w.heap.size 9 1 v S.length (strs S) ∧ Below w.heap.size w w'
theorem rof_any (s : ByteArray) (w : World) (hs : s.size ≤ 1000000) :
    Calls Try.prog 71 #[.string s] w (OfEnd w ((fof s.data.toList).1.map txt) (fof s.data.toList).2.1 (fof s.data.toList).2.2.length) := by
  have hst : FofOf ((fof s.data.toList).1.map txt) [] (fof s.data.toList).2.1 (fof s.data.toList).2.2 s.data.toList := ⟨rfl, rfl, rfl⟩
  generalize (fof s.data.toList).1.map txt = S at hst ⊢
  generalize (fof s.data.toList).2.1 = E at hst ⊢
  generalize (fof s.data.toList).2.2 = Rest at hst ⊢
  have HST := Lib.hid hst
  clear hst
  obtain ⟨i0, hi0, hz0, hz1, hz2⟩ := info_parts info_str
  go_enter Try.func71, Try.ntmps71
  go_wp2
  go_loopw [0, 5] (fun sl v wr => ∃ (t : ByteArray) (done : List ByteArray), sl = .string t ∧ FofOf S done E Rest t.data.toList ∧ done.length + t.size ≤ s.size ∧ wr.ownsRow w.heap.size 9 1 v done.length (strs done) ∧
    Below w.heap.size w wr) (fun sl _ _ => strLen sl)
  case atStart => exact ⟨s, [], rfl, HST.out, by simp, World.ownsRow_nil _ _ _ _, b0⟩
  case round =>
    obtain ⟨t, done, rfl, hfo, hlen, hown, hbel⟩ := hrel
    have HF := Lib.hid hfo
    have HO := Lib.hid hown
    have HW := Lib.hid hbel
    clear hfo hown hbel
    go_wp2_with fail
    refine (rparse_any t _ (by omega)).mono ?_
    rintro e w1 ⟨rfl, hb1⟩
    have hnx := fun h => HF.out.next h
    have hsh := fun h => HF.out.short h
    have hbd := fun h h' => HF.out.bad h h'
    have hok := fun h => fparse_ok (s := t.data.toList) h
    generalize hV : fparse t.data.toList = V at hnx hsh hbd hok
    obtain ⟨q, k, g⟩ := V
    simp only at hnx hsh hbd hok
    have HO3 := Lib.hid (own_below HO.out hb1)
    have HW3 := Lib.hid (bb HW.out hb1)
    clear hb1
    have HNX := Lib.hid hnx
    have HSH := Lib.hid hsh
    have HBD := Lib.hid hbd
    have HOK := Lib.hid hok
    have HV := Lib.hid hV
    clear hnx hsh hbd hok hV
    by_cases h1 : g = 1
    · subst h1
      obtain ⟨rfl, rfl, rfl⟩ := HSH.out rfl
      go_wp2_with fail
      go_ret3
      exact ⟨_, by rw [len_list]; rfl, HO3.out, HW3.out⟩
    · by_cases h0 : g = 0
      · subst h0
        have HNXT := Lib.hid (HNX.out rfl)
        obtain ⟨k1, k2, j1, j2, j3⟩ := HOK.out rfl
        rw [len_list] at k2
        clear j1 j2 j3
        have hown := HO3.out
        go_wp2_with (at_builtin; go_must (refine wpList_append_own _ rfl _ _ 82 rfl w.heap.size 9 i0 (.string ByteArray.empty) 1 16 Try.underlying82 hi0 hz0 hz1 hz2 rfl (by decide) _ _ _ rfl (hown.alloc _) ⟨w1.heap.size, 0, none⟩ 1 1 [.string (txt q)] rfl rfl (one_new _ _ _) (one_cell_str _) (by unfold maxLen; omega) (by omega) (by have := HW3.out.size; simp; omega) ?_); intro v1 w2 hown2 hg2 _)
        go_roundw
        case rel =>
          refine ⟨_, done ++ [txt q], rfl, by rw [ext_rest]; exact HNXT.out, ?_, ?_, below_append (ba HW3.out _) (hown.alloc _) hg2⟩
          · simp
            omega
          · simpa [strs] using hown2
        case measure =>
          simp [strLen]
          omega
      · obtain ⟨rfl, rfl, rfl⟩ := HBD.out h0 h1
        have n1 : ((E : Int) == 1) = false := by rw [beq_eq_false_iff_ne]; omega
        have n0 : ((E : Int) != 0) = true := by rw [bne_iff_ne]; omega
        go_wp2_with fail
        go_ret3
        exact ⟨_, rfl, HO3.out, HW3.out⟩
end Go.Proofs.Ytlkdoahdcepncaa
