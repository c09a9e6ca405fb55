/-
  Parts of the proof. Conditions: as each names.
-/
import Derived.Test.YtgidfnhfgiehjaaGreatDoorCards
import Derived.Test.YtgidfnhfgiehjaaGreatDoorTie
import Derived.Test.YtgidfnhfgiehjaaGreatDoorYal
section
namespace Go.Proofs.YtgidfnhfgiehjaaGreatDoor.topThere
open Go
set_option maxRecDepth 100000
theorem f0:Rows.topThereRow.wf (OpenSpec.ofChange Rows.topThereSpec)=true:=by kernel_rfl
theorem f1:mapsRowed Tryz.prog=true:=by kernel_rfl
theorem f2:Tryz.f6.params.all (Tryz.prog.readableRec ·)=true:=by kernel_rfl
theorem f3:namedTie Tryz.prog Rows.topThereRow.named Rows.topThereSpec.vars=true:=by kernel_rfl
theorem f4:(Rows.topThereRow.stops == [])=true:=by kernel_rfl
theorem f5:(Tryz.prog.stops == [])=true:=by kernel_rfl
theorem f6:(Rows.topThereRow.knobs == [])=true:=by kernel_rfl
theorem f7:(Tryz.prog.stopKnobs == [])=true:=by kernel_rfl
theorem f8:(Rows.topThereRow.inPlace == Tryz.prog.inPlace 6)=true:=by kernel_rfl
theorem f9:(Rows.topThereRow.unfollowed == Tryz.prog.unfollowed 6)=true:=by kernel_rfl
theorem f10:(Rows.topThereRow.recurses == Tryz.prog.recurses 6)=true:=by kernel_rfl
theorem f11:(Rows.topThereRow.named == Tryz.prog.varsNamed 6)=true:=by kernel_rfl
theorem f12:(Rows.topThereRow.maps == (Tryz.f6.params.toList++Rows.topThereSpec.plain.varTypes Tryz.prog).any (Tryz.prog.mapsRec ·))=true:=by kernel_rfl
theorem f13:(Rows.topThereRow.ifaces == (Tryz.f6.params.toList++Rows.topThereSpec.plain.varTypes Tryz.prog).any (Tryz.prog.ifacesRec ·))=true:=by kernel_rfl
theorem f14:(Rows.topThereRow.mapsOut == Tryz.prog.mapsAmong Tryz.f6.resultTypes.toList)=true:=by kernel_rfl
theorem f15:(Rows.topThereRow.loops == (Tryz.f6.params.toList++Rows.topThereSpec.plain.varTypes Tryz.prog).any (Tryz.prog.loopsFrom ·))=true:=by kernel_rfl
theorem f16:(Rows.topThereRow.wideKeys == (Tryz.f6.params.toList++Rows.topThereSpec.plain.varTypes Tryz.prog++Tryz.f6.resultTypes.toList).any (Tryz.prog.wideKeysFrom ·))=true:=by kernel_rfl
theorem f17:Rows.topThereSpec.vars.all (Tryz.prog.varReadable ·)=true:=by kernel_rfl
theorem f18:Tryz.f6.resultTypes.all (fun t => Tryz.prog.readableRec t && decide (t < Tryz.prog.types.size))=true:=by kernel_rfl
theorem f19:(Rows.topThereRow.ifacesOut == Tryz.f6.resultTypes.toList.any (Tryz.prog.ifacesRec ·))=true:=by kernel_rfl
theorem f20:(Rows.topThereRow.loopsOut == Tryz.f6.resultTypes.toList.any (Tryz.prog.loopsFrom ·))=true:=by kernel_rfl
theorem f21:(Rows.topThereRow.plainKeys == Tryz.prog.plainKeys)=true:=by kernel_rfl
theorem f22:Rows.topThereRow.shortTexts.isNone=true:=by kernel_rfl
theorem f23:Tryz.prog.stopsHeard=true:=by kernel_rfl
theorem f24:Tryz.prog.mayEnter=true:=by kernel_rfl
theorem f25:(Rows.topThereRow.lifted == Tryz.prog.liftsFinal)=true:=by kernel_rfl
theorem f26:(Tryz.prog.make == some Rows.topThereRow.make)=true:=by kernel_rfl
theorem f27:(Rows.topThereRow.kinds == (if Rows.topThereRow.domain.isEmpty then [] else Tryz.f6.params.toList.map fun t => match Tryz.prog.underlying t with | some (.int k) => some k | _ => none))=true:=by kernel_rfl
theorem f28:(Rows.topThereRow.pinned == Rows.topThereRow.pinnedBy)=true:=by kernel_rfl
theorem f29:(Rows.topThereRow.veiled == (Tryz.f6.params.toList++Rows.topThereSpec.plain.varTypes Tryz.prog++Tryz.f6.resultTypes.toList).any (Tryz.prog.veiledRec ·))=true:=by kernel_rfl
theorem f30:Rows.topThereRow.veiledFits Tryz.prog Tryz.f6.params.toList (Tryz.f6.params.toList++Rows.topThereSpec.plain.varTypes Tryz.prog++Tryz.f6.resultTypes.toList)=true:=by kernel_rfl
theorem closed:joinedFacts Tryz.pinned.checked.prog 6 Tryz.f6 (OpenSpec.ofChange Rows.topThereSpec).bare Rows.topThereRow=true:=by
 show joinedFacts Tryz.prog 6 Tryz.f6 Rows.topThereSpec Rows.topThereRow=true
 have g0:laidOutB Tryz.prog=true:=laidOut
 simp only [joinedFacts,g0,f0,f1,f2,f3,f4,f5,f6,f7,f8,f9,f10,f11,f12,f13,f14,f15,f16,f17,f18,f19,f20,f21,f22,f23,f24,f25,f26,f28,f29,f30,Bool.and_self,Bool.true_and,Bool.and_true]
 exact f27
theorem isInst:Tryz.f6.isInstance Tryz.pinned.checked.prog Rows.topThereRow.origin Rows.topThereRow.targs:=of_decide_eq_true (by kernel_rfl)
theorem isWrap:Tryz.f6.isWrapper Tryz.pinned.checked.prog Rows.topThereRow.wrapper Rows.topThereRow.mainSum:=by
 unfold Func.isWrapper;first | (rw [if_pos (by decide +kernel)];kernel_rfl) | (rw [if_neg (by decide +kernel)];exact ⟨rfl,rfl⟩)
theorem named:Tryz.prog.funcNamed Rows.topThereRow.func=some 6:=by kernel_rfl
end Go.Proofs.YtgidfnhfgiehjaaGreatDoor.topThere
end
