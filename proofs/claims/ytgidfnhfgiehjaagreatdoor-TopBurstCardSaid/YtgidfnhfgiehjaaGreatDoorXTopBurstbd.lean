/-
  Texts of the proof, joined: FactTopBurst. Conditions: as each names.
-/
import Derived.Test.YtgidfnhfgiehjaaGreatDoorRows
import Derived.Test.YtgidfnhfgiehjaaGreatDoorCards
import Derived.Test.YtgidfnhfgiehjaaGreatDoorTie
import Derived.Test.YtgidfnhfgiehjaaGreatDoorXTopBurstbc
import Derived.ProofKit
import Derived.JoinedCond

section
namespace Go.Proofs.YtgidfnhfgiehjaaGreatDoor.topBurst
open Go
set_option maxRecDepth 100000
theorem f0 : Rows.topBurstRow.wf (OpenSpec.ofChange Rows.topBurstSpec) = true := by kernel_rfl
theorem f1 : mapsRowed Tryz.prog = true := by kernel_rfl
theorem f2 : Tryz.f4.params.all (Tryz.prog.readableRec ·) = true := by kernel_rfl
theorem f3 : namedTie Tryz.prog Rows.topBurstRow.named Rows.topBurstSpec.vars = true := by kernel_rfl
theorem f4 : (Rows.topBurstRow.stops == []) = true := by kernel_rfl
theorem f5 : (Tryz.prog.stops == []) = true := by kernel_rfl
theorem f6 : (Rows.topBurstRow.knobs == []) = true := by kernel_rfl
theorem f7 : (Tryz.prog.stopKnobs == []) = true := by kernel_rfl
theorem f8 : (Rows.topBurstRow.inPlace == Tryz.prog.inPlace 4) = true := by kernel_rfl
theorem f9 : (Rows.topBurstRow.unfollowed == Tryz.prog.unfollowed 4) = true := by kernel_rfl
theorem f10 : (Rows.topBurstRow.recurses == Tryz.prog.recurses 4) = true := by kernel_rfl
theorem f11 : (Rows.topBurstRow.named == Tryz.prog.varsNamed 4) = true := by kernel_rfl
theorem f12 : (Rows.topBurstRow.maps == (Tryz.f4.params.toList ++ Rows.topBurstSpec.plain.varTypes Tryz.prog).any (Tryz.prog.mapsRec ·)) = true := by kernel_rfl
theorem f13 : (Rows.topBurstRow.ifaces == (Tryz.f4.params.toList ++ Rows.topBurstSpec.plain.varTypes Tryz.prog).any (Tryz.prog.ifacesRec ·)) = true := by kernel_rfl
theorem f14 : (Rows.topBurstRow.mapsOut == Tryz.prog.mapsAmong Tryz.f4.resultTypes.toList) = true := by kernel_rfl
theorem f15 : (Rows.topBurstRow.loops == (Tryz.f4.params.toList ++ Rows.topBurstSpec.plain.varTypes Tryz.prog).any (Tryz.prog.loopsFrom ·)) = true := by kernel_rfl
theorem f16 : (Rows.topBurstRow.wideKeys == (Tryz.f4.params.toList ++ Rows.topBurstSpec.plain.varTypes Tryz.prog ++ Tryz.f4.resultTypes.toList).any (Tryz.prog.wideKeysFrom ·)) = true := by kernel_rfl
theorem f17 : Rows.topBurstSpec.vars.all (Tryz.prog.varReadable ·) = true := by kernel_rfl
theorem f18 : Tryz.f4.resultTypes.all (fun t => Tryz.prog.readableRec t && decide (t < Tryz.prog.types.size)) = true := by kernel_rfl
theorem f19 : (Rows.topBurstRow.ifacesOut == Tryz.f4.resultTypes.toList.any (Tryz.prog.ifacesRec ·)) = true := by kernel_rfl
theorem f20 : (Rows.topBurstRow.loopsOut == Tryz.f4.resultTypes.toList.any (Tryz.prog.loopsFrom ·)) = true := by kernel_rfl
theorem f21 : (Rows.topBurstRow.plainKeys == Tryz.prog.plainKeys) = true := by kernel_rfl
theorem f22 : Rows.topBurstRow.shortTexts.isNone = true := by kernel_rfl
theorem f23 : Tryz.prog.stopsHeard = true := by kernel_rfl
theorem f24 : Tryz.prog.mayEnter = true := by kernel_rfl
theorem f25 : (Rows.topBurstRow.lifted == Tryz.prog.liftsFinal) = true := by kernel_rfl
theorem f26 : (Tryz.prog.make == some Rows.topBurstRow.make) = true := by kernel_rfl
theorem f27 : (Rows.topBurstRow.kinds == (if Rows.topBurstRow.domain.isEmpty then [] else Tryz.f4.params.toList.map fun t => match Tryz.prog.underlying t with | some (.int k) => some k | _ => none)) = true := by kernel_rfl
theorem f28 : (Rows.topBurstRow.pinned == Rows.topBurstRow.pinnedBy) = true := by kernel_rfl
theorem f29 : (Rows.topBurstRow.veiled == (Tryz.f4.params.toList ++ Rows.topBurstSpec.plain.varTypes Tryz.prog ++ Tryz.f4.resultTypes.toList).any (Tryz.prog.veiledRec ·)) = true := by kernel_rfl
theorem f30 : Rows.topBurstRow.veiledFits Tryz.prog Tryz.f4.params.toList (Tryz.f4.params.toList ++ Rows.topBurstSpec.plain.varTypes Tryz.prog ++ Tryz.f4.resultTypes.toList) = true := by kernel_rfl
theorem closed : joinedFacts Tryz.pinned.checked.prog 4 Tryz.f4 (OpenSpec.ofChange Rows.topBurstSpec).bare Rows.topBurstRow = true := by
  show joinedFacts Tryz.prog 4 Tryz.f4 Rows.topBurstSpec Rows.topBurstRow = true
  have g0 : laidOutB Tryz.prog = true := laidOut
  simp only [joinedFacts, g0, f0, f1, f2, f3, f4, f5, f6, f7, f8, f9, f10, f11, f12, f13, f14, f15, f16, f17, f18, f19, f20, f21, f22, f23, f24, f25, f26, f28, f29, f30, Bool.and_self, Bool.true_and, Bool.and_true]
  exact f27
theorem isInst : Tryz.f4.isInstance Tryz.pinned.checked.prog Rows.topBurstRow.origin Rows.topBurstRow.targs := of_decide_eq_true (by kernel_rfl)
theorem isWrap : Tryz.f4.isWrapper Tryz.pinned.checked.prog Rows.topBurstRow.wrapper Rows.topBurstRow.mainSum := by
  unfold Func.isWrapper; first | (rw [if_pos (by decide +kernel)]; kernel_rfl) | (rw [if_neg (by decide +kernel)]; exact ⟨rfl, rfl⟩)
theorem named : Tryz.prog.funcNamed Rows.topBurstRow.func = some 4 := by kernel_rfl
end Go.Proofs.YtgidfnhfgiehjaaGreatDoor.topBurst
end
