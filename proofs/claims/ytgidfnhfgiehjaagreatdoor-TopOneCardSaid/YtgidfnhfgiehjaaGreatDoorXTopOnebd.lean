/-
  Texts of the proof, joined: FactTopOne. Conditions: as each names.
-/
import Derived.Test.YtgidfnhfgiehjaaGreatDoorRows
import Derived.Test.YtgidfnhfgiehjaaGreatDoorCards
import Derived.Test.YtgidfnhfgiehjaaGreatDoorTie
import Derived.Test.YtgidfnhfgiehjaaGreatDoorXTopOnebc
import Derived.ProofKit
import Derived.JoinedCond

section
namespace Go.Proofs.YtgidfnhfgiehjaaGreatDoor.topOne
open Go
set_option maxRecDepth 100000
theorem f0 : Rows.topOneRow.wf (OpenSpec.ofChange Rows.topOneSpec) = true := by kernel_rfl
theorem f1 : mapsRowed Tryz.prog = true := by kernel_rfl
theorem f2 : Tryz.f5.params.all (Tryz.prog.readableRec ·) = true := by kernel_rfl
theorem f3 : namedTie Tryz.prog Rows.topOneRow.named Rows.topOneSpec.vars = true := by kernel_rfl
theorem f4 : (Rows.topOneRow.stops == []) = true := by kernel_rfl
theorem f5 : (Tryz.prog.stops == []) = true := by kernel_rfl
theorem f6 : (Rows.topOneRow.knobs == []) = true := by kernel_rfl
theorem f7 : (Tryz.prog.stopKnobs == []) = true := by kernel_rfl
theorem f8 : (Rows.topOneRow.inPlace == Tryz.prog.inPlace 5) = true := by kernel_rfl
theorem f9 : (Rows.topOneRow.unfollowed == Tryz.prog.unfollowed 5) = true := by kernel_rfl
theorem f10 : (Rows.topOneRow.recurses == Tryz.prog.recurses 5) = true := by kernel_rfl
theorem f11 : (Rows.topOneRow.named == Tryz.prog.varsNamed 5) = true := by kernel_rfl
theorem f12 : (Rows.topOneRow.maps == (Tryz.f5.params.toList ++ Rows.topOneSpec.plain.varTypes Tryz.prog).any (Tryz.prog.mapsRec ·)) = true := by kernel_rfl
theorem f13 : (Rows.topOneRow.ifaces == (Tryz.f5.params.toList ++ Rows.topOneSpec.plain.varTypes Tryz.prog).any (Tryz.prog.ifacesRec ·)) = true := by kernel_rfl
theorem f14 : (Rows.topOneRow.mapsOut == Tryz.prog.mapsAmong Tryz.f5.resultTypes.toList) = true := by kernel_rfl
theorem f15 : (Rows.topOneRow.loops == (Tryz.f5.params.toList ++ Rows.topOneSpec.plain.varTypes Tryz.prog).any (Tryz.prog.loopsFrom ·)) = true := by kernel_rfl
theorem f16 : (Rows.topOneRow.wideKeys == (Tryz.f5.params.toList ++ Rows.topOneSpec.plain.varTypes Tryz.prog ++ Tryz.f5.resultTypes.toList).any (Tryz.prog.wideKeysFrom ·)) = true := by kernel_rfl
theorem f17 : Rows.topOneSpec.vars.all (Tryz.prog.varReadable ·) = true := by kernel_rfl
theorem f18 : Tryz.f5.resultTypes.all (fun t => Tryz.prog.readableRec t && decide (t < Tryz.prog.types.size)) = true := by kernel_rfl
theorem f19 : (Rows.topOneRow.ifacesOut == Tryz.f5.resultTypes.toList.any (Tryz.prog.ifacesRec ·)) = true := by kernel_rfl
theorem f20 : (Rows.topOneRow.loopsOut == Tryz.f5.resultTypes.toList.any (Tryz.prog.loopsFrom ·)) = true := by kernel_rfl
theorem f21 : (Rows.topOneRow.plainKeys == Tryz.prog.plainKeys) = true := by kernel_rfl
theorem f22 : Rows.topOneRow.shortTexts.isNone = true := by kernel_rfl
theorem f23 : Tryz.prog.stopsHeard = true := by kernel_rfl
theorem f24 : Tryz.prog.mayEnter = true := by kernel_rfl
theorem f25 : (Rows.topOneRow.lifted == Tryz.prog.liftsFinal) = true := by kernel_rfl
theorem f26 : (Tryz.prog.make == some Rows.topOneRow.make) = true := by kernel_rfl
theorem f27 : (Rows.topOneRow.kinds == (if Rows.topOneRow.domain.isEmpty then [] else Tryz.f5.params.toList.map fun t => match Tryz.prog.underlying t with | some (.int k) => some k | _ => none)) = true := by kernel_rfl
theorem f28 : (Rows.topOneRow.pinned == Rows.topOneRow.pinnedBy) = true := by kernel_rfl
theorem f29 : (Rows.topOneRow.veiled == (Tryz.f5.params.toList ++ Rows.topOneSpec.plain.varTypes Tryz.prog ++ Tryz.f5.resultTypes.toList).any (Tryz.prog.veiledRec ·)) = true := by kernel_rfl
theorem f30 : Rows.topOneRow.veiledFits Tryz.prog Tryz.f5.params.toList (Tryz.f5.params.toList ++ Rows.topOneSpec.plain.varTypes Tryz.prog ++ Tryz.f5.resultTypes.toList) = true := by kernel_rfl
theorem closed : joinedFacts Tryz.pinned.checked.prog 5 Tryz.f5 (OpenSpec.ofChange Rows.topOneSpec).bare Rows.topOneRow = true := by
  show joinedFacts Tryz.prog 5 Tryz.f5 Rows.topOneSpec Rows.topOneRow = true
  have g0 : laidOutB Tryz.prog = true := laidOut
  simp only [joinedFacts, g0, f0, f1, f2, f3, f4, f5, f6, f7, f8, f9, f10, f11, f12, f13, f14, f15, f16, f17, f18, f19, f20, f21, f22, f23, f24, f25, f26, f28, f29, f30, Bool.and_self, Bool.true_and, Bool.and_true]
  exact f27
theorem isInst : Tryz.f5.isInstance Tryz.pinned.checked.prog Rows.topOneRow.origin Rows.topOneRow.targs := of_decide_eq_true (by kernel_rfl)
theorem isWrap : Tryz.f5.isWrapper Tryz.pinned.checked.prog Rows.topOneRow.wrapper Rows.topOneRow.mainSum := by
  unfold Func.isWrapper; first | (rw [if_pos (by decide +kernel)]; kernel_rfl) | (rw [if_neg (by decide +kernel)]; exact ⟨rfl, rfl⟩)
theorem named : Tryz.prog.funcNamed Rows.topOneRow.func = some 5 := by kernel_rfl
end Go.Proofs.YtgidfnhfgiehjaaGreatDoor.topOne
end
