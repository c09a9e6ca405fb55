/-
  Texts of the proof, joined: FactTopRejects. Conditions: as each names.
-/
import Derived.Test.YtgidfnhfgiehjaaGreatDoorRows
import Derived.Test.YtgidfnhfgiehjaaGreatDoorCards
import Derived.Test.YtgidfnhfgiehjaaGreatDoorTie
import Derived.Test.YtgidfnhfgiehjaaGreatDoorXTopRejectsbe
import Derived.ProofKit
import Derived.JoinedCond

section
namespace Go.Proofs.YtgidfnhfgiehjaaGreatDoor.topRejects
open Go
set_option maxRecDepth 100000
theorem f0:Rows.topRejectsRow.wf (OpenSpec.ofChange Rows.topRejectsSpec)=true:=by kernel_rfl
theorem f1:mapsRowed Tryz.prog=true:=by kernel_rfl
theorem f2:Tryz.f3.params.all (Tryz.prog.readableRec ·)=true:=by kernel_rfl
theorem f3:namedTie Tryz.prog Rows.topRejectsRow.named Rows.topRejectsSpec.vars=true:=by kernel_rfl
theorem f4:(Rows.topRejectsRow.stops == [])=true:=by kernel_rfl
theorem f5:(Tryz.prog.stops == [])=true:=by kernel_rfl
theorem f6:(Rows.topRejectsRow.knobs == [])=true:=by kernel_rfl
theorem f7:(Tryz.prog.stopKnobs == [])=true:=by kernel_rfl
theorem f8:(Rows.topRejectsRow.inPlace == Tryz.prog.inPlace 3)=true:=by kernel_rfl
theorem f9:(Rows.topRejectsRow.unfollowed == Tryz.prog.unfollowed 3)=true:=by kernel_rfl
theorem f10:(Rows.topRejectsRow.recurses == Tryz.prog.recurses 3)=true:=by kernel_rfl
theorem f11:(Rows.topRejectsRow.named == Tryz.prog.varsNamed 3)=true:=by kernel_rfl
theorem f12:(Rows.topRejectsRow.maps == (Tryz.f3.params.toList++Rows.topRejectsSpec.plain.varTypes Tryz.prog).any (Tryz.prog.mapsRec ·))=true:=by kernel_rfl
theorem f13:(Rows.topRejectsRow.ifaces == (Tryz.f3.params.toList++Rows.topRejectsSpec.plain.varTypes Tryz.prog).any (Tryz.prog.ifacesRec ·))=true:=by kernel_rfl
theorem f14:(Rows.topRejectsRow.mapsOut == Tryz.prog.mapsAmong Tryz.f3.resultTypes.toList)=true:=by kernel_rfl
theorem f15:(Rows.topRejectsRow.loops == (Tryz.f3.params.toList++Rows.topRejectsSpec.plain.varTypes Tryz.prog).any (Tryz.prog.loopsFrom ·))=true:=by kernel_rfl
theorem f16:(Rows.topRejectsRow.wideKeys == (Tryz.f3.params.toList++Rows.topRejectsSpec.plain.varTypes Tryz.prog++Tryz.f3.resultTypes.toList).any (Tryz.prog.wideKeysFrom ·))=true:=by kernel_rfl
theorem f17:Rows.topRejectsSpec.vars.all (Tryz.prog.varReadable ·)=true:=by kernel_rfl
theorem f18:Tryz.f3.resultTypes.all (fun t => Tryz.prog.readableRec t && decide (t < Tryz.prog.types.size))=true:=by kernel_rfl
theorem f19:(Rows.topRejectsRow.ifacesOut == Tryz.f3.resultTypes.toList.any (Tryz.prog.ifacesRec ·))=true:=by kernel_rfl
theorem f20:(Rows.topRejectsRow.loopsOut == Tryz.f3.resultTypes.toList.any (Tryz.prog.loopsFrom ·))=true:=by kernel_rfl
theorem f21:(Rows.topRejectsRow.plainKeys == Tryz.prog.plainKeys)=true:=by kernel_rfl
theorem f22:Rows.topRejectsRow.shortTexts.isNone=true:=by kernel_rfl
theorem f23:Tryz.prog.stopsHeard=true:=by kernel_rfl
theorem f24:Tryz.prog.mayEnter=true:=by kernel_rfl
theorem f25:(Rows.topRejectsRow.lifted == Tryz.prog.liftsFinal)=true:=by kernel_rfl
theorem f26:(Tryz.prog.make == some Rows.topRejectsRow.make)=true:=by kernel_rfl
theorem f27:(Rows.topRejectsRow.kinds == (if Rows.topRejectsRow.domain.isEmpty then [] else Tryz.f3.params.toList.map fun t => match Tryz.prog.underlying t with | some (.int k) => some k | _ => none))=true:=by kernel_rfl
theorem f28:(Rows.topRejectsRow.pinned == Rows.topRejectsRow.pinnedBy)=true:=by kernel_rfl
theorem f29:(Rows.topRejectsRow.veiled == (Tryz.f3.params.toList++Rows.topRejectsSpec.plain.varTypes Tryz.prog++Tryz.f3.resultTypes.toList).any (Tryz.prog.veiledRec ·))=true:=by kernel_rfl
theorem f30:Rows.topRejectsRow.veiledFits Tryz.prog Tryz.f3.params.toList (Tryz.f3.params.toList++Rows.topRejectsSpec.plain.varTypes Tryz.prog++Tryz.f3.resultTypes.toList)=true:=by kernel_rfl
theorem closed:joinedFacts Tryz.pinned.checked.prog 3 Tryz.f3 (OpenSpec.ofChange Rows.topRejectsSpec).bare Rows.topRejectsRow=true:=by
 show joinedFacts Tryz.prog 3 Tryz.f3 Rows.topRejectsSpec Rows.topRejectsRow=true
 have g0:laidOutB Tryz.prog=true:=laidOut
 simp only [joinedFacts,g0,f0,f1,f2,f3,f4,f5,f6,f7,f8,f9,f10,f11,f12,f13,f14,f15,f16,f17,f18,f19,f20,f21,f22,f23,f24,f25,f26,f28,f29,f30,Bool.and_self,Bool.true_and,Bool.and_true]
 exact f27
theorem isInst:Tryz.f3.isInstance Tryz.pinned.checked.prog Rows.topRejectsRow.origin Rows.topRejectsRow.targs:=of_decide_eq_true (by kernel_rfl)
theorem isWrap:Tryz.f3.isWrapper Tryz.pinned.checked.prog Rows.topRejectsRow.wrapper Rows.topRejectsRow.mainSum:=by
 unfold Func.isWrapper;first | (rw [if_pos (by decide +kernel)];kernel_rfl) | (rw [if_neg (by decide +kernel)];exact ⟨rfl,rfl⟩)
theorem named:Tryz.prog.funcNamed Rows.topRejectsRow.func=some 3:=by kernel_rfl
end Go.Proofs.YtgidfnhfgiehjaaGreatDoor.topRejects
end
