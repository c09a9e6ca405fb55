/-
  Texts of the proof, joined: FactTopStream. Conditions: as each names.
-/
import Derived.Test.YtgidfnhfgiehjaaGreatDoorRows
import Derived.Test.YtgidfnhfgiehjaaGreatDoorCards
import Derived.Test.YtgidfnhfgiehjaaGreatDoorTie
import Derived.Test.YtgidfnhfgiehjaaGreatDoorXTopStreambc
import Derived.ProofKit
import Derived.JoinedCond

section
namespace Go.Proofs.YtgidfnhfgiehjaaGreatDoor.topStream
open Go
set_option maxRecDepth 100000
theorem f0 : Rows.topStreamRow.wf (OpenSpec.ofChange Rows.topStreamSpec) = true := by kernel_rfl
theorem f1 : mapsRowed Tryz.prog = true := by kernel_rfl
theorem f2 : Tryz.f7.params.all (Tryz.prog.readableRec ·) = true := by kernel_rfl
theorem f3 : namedTie Tryz.prog Rows.topStreamRow.named Rows.topStreamSpec.vars = true := by kernel_rfl
theorem f4 : (Rows.topStreamRow.stops == []) = true := by kernel_rfl
theorem f5 : (Tryz.prog.stops == []) = true := by kernel_rfl
theorem f6 : (Rows.topStreamRow.knobs == []) = true := by kernel_rfl
theorem f7 : (Tryz.prog.stopKnobs == []) = true := by kernel_rfl
theorem f8 : (Rows.topStreamRow.inPlace == Tryz.prog.inPlace 7) = true := by kernel_rfl
theorem f9 : (Rows.topStreamRow.unfollowed == Tryz.prog.unfollowed 7) = true := by kernel_rfl
theorem f10 : (Rows.topStreamRow.recurses == Tryz.prog.recurses 7) = true := by kernel_rfl
theorem f11 : (Rows.topStreamRow.named == Tryz.prog.varsNamed 7) = true := by kernel_rfl
theorem f12 : (Rows.topStreamRow.maps == (Tryz.f7.params.toList ++ Rows.topStreamSpec.plain.varTypes Tryz.prog).any (Tryz.prog.mapsRec ·)) = true := by kernel_rfl
theorem f13 : (Rows.topStreamRow.ifaces == (Tryz.f7.params.toList ++ Rows.topStreamSpec.plain.varTypes Tryz.prog).any (Tryz.prog.ifacesRec ·)) = true := by kernel_rfl
theorem f14 : (Rows.topStreamRow.mapsOut == Tryz.prog.mapsAmong Tryz.f7.resultTypes.toList) = true := by kernel_rfl
theorem f15 : (Rows.topStreamRow.loops == (Tryz.f7.params.toList ++ Rows.topStreamSpec.plain.varTypes Tryz.prog).any (Tryz.prog.loopsFrom ·)) = true := by kernel_rfl
theorem f16 : (Rows.topStreamRow.wideKeys == (Tryz.f7.params.toList ++ Rows.topStreamSpec.plain.varTypes Tryz.prog ++ Tryz.f7.resultTypes.toList).any (Tryz.prog.wideKeysFrom ·)) = true := by kernel_rfl
theorem f17 : Rows.topStreamSpec.vars.all (Tryz.prog.varReadable ·) = true := by kernel_rfl
theorem f18 : Tryz.f7.resultTypes.all (fun t => Tryz.prog.readableRec t && decide (t < Tryz.prog.types.size)) = true := by kernel_rfl
theorem f19 : (Rows.topStreamRow.ifacesOut == Tryz.f7.resultTypes.toList.any (Tryz.prog.ifacesRec ·)) = true := by kernel_rfl
theorem f20 : (Rows.topStreamRow.loopsOut == Tryz.f7.resultTypes.toList.any (Tryz.prog.loopsFrom ·)) = true := by kernel_rfl
theorem f21 : (Rows.topStreamRow.plainKeys == Tryz.prog.plainKeys) = true := by kernel_rfl
theorem f22 : Rows.topStreamRow.shortTexts.isNone = true := by kernel_rfl
theorem f23 : Tryz.prog.stopsHeard = true := by kernel_rfl
theorem f24 : Tryz.prog.mayEnter = true := by kernel_rfl
theorem f25 : (Rows.topStreamRow.lifted == Tryz.prog.liftsFinal) = true := by kernel_rfl
theorem f26 : (Tryz.prog.make == some Rows.topStreamRow.make) = true := by kernel_rfl
theorem f27 : (Rows.topStreamRow.kinds == (if Rows.topStreamRow.domain.isEmpty then [] else Tryz.f7.params.toList.map fun t => match Tryz.prog.underlying t with | some (.int k) => some k | _ => none)) = true := by kernel_rfl
theorem f28 : (Rows.topStreamRow.pinned == Rows.topStreamRow.pinnedBy) = true := by kernel_rfl
theorem f29 : (Rows.topStreamRow.veiled == (Tryz.f7.params.toList ++ Rows.topStreamSpec.plain.varTypes Tryz.prog ++ Tryz.f7.resultTypes.toList).any (Tryz.prog.veiledRec ·)) = true := by kernel_rfl
theorem f30 : Rows.topStreamRow.veiledFits Tryz.prog Tryz.f7.params.toList (Tryz.f7.params.toList ++ Rows.topStreamSpec.plain.varTypes Tryz.prog ++ Tryz.f7.resultTypes.toList) = true := by kernel_rfl
theorem closed : joinedFacts Tryz.pinned.checked.prog 7 Tryz.f7 (OpenSpec.ofChange Rows.topStreamSpec).bare Rows.topStreamRow = true := by
  show joinedFacts Tryz.prog 7 Tryz.f7 Rows.topStreamSpec Rows.topStreamRow = true
  have g0 : laidOutB Tryz.prog = true := laidOut
  simp only [joinedFacts, g0, f0, f1, f2, f3, f4, f5, f6, f7, f8, f9, f10, f11, f12, f13, f14, f15, f16, f17, f18, f19, f20, f21, f22, f23, f24, f25, f26, f28, f29, f30, Bool.and_self, Bool.true_and, Bool.and_true]
  exact f27
theorem isInst : Tryz.f7.isInstance Tryz.pinned.checked.prog Rows.topStreamRow.origin Rows.topStreamRow.targs := of_decide_eq_true (by kernel_rfl)
theorem isWrap : Tryz.f7.isWrapper Tryz.pinned.checked.prog Rows.topStreamRow.wrapper Rows.topStreamRow.mainSum := by
  unfold Func.isWrapper; first | (rw [if_pos (by decide +kernel)]; kernel_rfl) | (rw [if_neg (by decide +kernel)]; exact ⟨rfl, rfl⟩)
theorem named : Tryz.prog.funcNamed Rows.topStreamRow.func = some 7 := by kernel_rfl
end Go.Proofs.YtgidfnhfgiehjaaGreatDoor.topStream
end
