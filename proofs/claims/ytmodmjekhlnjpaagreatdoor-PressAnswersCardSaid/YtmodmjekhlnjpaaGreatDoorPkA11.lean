/- The proof of PressAnswers, part 11 of 14 (texts joined and shortened by a program: PFactC). -/
import Derived.Test.YtmodmjekhlnjpaaGreatDoorPkA10
namespace Go.Proofs.YtmodmjekhlnjpaaGreatDoor
open Go
theorem fact_1 : (Rows.pressAnswersRow.wf (OpenSpec.ofChange Rows.pressAnswersSpec)) = true := by kernel_rfl
theorem fact_3 : (mapsRowed Tryz.prog) = true := by kernel_rfl
theorem fact_4 : (Tryz.f3.params.all (Tryz.prog.readableRec ·)) = true := by kernel_rfl
theorem fact_5 : (namedTie Tryz.prog Rows.pressAnswersRow.named Rows.pressAnswersSpec.vars) = true := by kernel_rfl
theorem fact_6 : ((Rows.pressAnswersRow.stops == [])) = true := by kernel_rfl
theorem fact_7 : ((Tryz.prog.stops == [])) = true := by kernel_rfl
theorem fact_8 : ((Rows.pressAnswersRow.knobs == [])) = true := by kernel_rfl
theorem fact_9 : ((Tryz.prog.stopKnobs == [])) = true := by kernel_rfl
theorem fact_13 : ((Rows.pressAnswersRow.named == Tryz.prog.varsNamed 3)) = true := by kernel_rfl
theorem fact_14 : ((Rows.pressAnswersRow.maps == (Tryz.f3.params.toList ++ Rows.pressAnswersSpec.plain.varTypes Tryz.prog).any (Tryz.prog.mapsRec ·))) = true := by kernel_rfl
theorem fact_15 : ((Rows.pressAnswersRow.ifaces == (Tryz.f3.params.toList ++ Rows.pressAnswersSpec.plain.varTypes Tryz.prog).any (Tryz.prog.ifacesRec ·))) = true := by kernel_rfl
theorem fact_16 : ((Rows.pressAnswersRow.mapsOut == Tryz.prog.mapsAmong Tryz.f3.resultTypes.toList)) = true := by kernel_rfl
theorem fact_17 : ((Rows.pressAnswersRow.loops == (Tryz.f3.params.toList ++ Rows.pressAnswersSpec.plain.varTypes Tryz.prog).any (Tryz.prog.loopsFrom ·))) = true := by kernel_rfl
theorem fact_18 : ((Rows.pressAnswersRow.wideKeys == (Tryz.f3.params.toList ++ Rows.pressAnswersSpec.plain.varTypes Tryz.prog ++ Tryz.f3.resultTypes.toList).any (Tryz.prog.wideKeysFrom ·))) = true := by kernel_rfl
theorem fact_19 : (Rows.pressAnswersSpec.vars.all (Tryz.prog.varReadable ·)) = true := by kernel_rfl
theorem fact_20 : (Tryz.f3.resultTypes.all (fun t => Tryz.prog.readableRec t && decide (t < Tryz.prog.types.size))) = true := by kernel_rfl
theorem fact_21 : ((Rows.pressAnswersRow.ifacesOut == Tryz.f3.resultTypes.toList.any (Tryz.prog.ifacesRec ·))) = true := by kernel_rfl
theorem fact_22 : ((Rows.pressAnswersRow.loopsOut == Tryz.f3.resultTypes.toList.any (Tryz.prog.loopsFrom ·))) = true := by kernel_rfl
theorem fact_23 : ((Rows.pressAnswersRow.plainKeys == Tryz.prog.plainKeys)) = true := by kernel_rfl
theorem fact_24 : (Rows.pressAnswersRow.shortTexts.isNone) = true := by kernel_rfl
theorem fact_25 : (Tryz.prog.stopsHeard) = true := by kernel_rfl
theorem fact_26 : (Tryz.prog.mayEnter) = true := by kernel_rfl
theorem fact_27 : ((Rows.pressAnswersRow.lifted == Tryz.prog.liftsFinal)) = true := by kernel_rfl
theorem fact_28 : ((Tryz.prog.make == some Rows.pressAnswersRow.make)) = true := by kernel_rfl
theorem fact_30 : ((Rows.pressAnswersRow.pinned == Rows.pressAnswersRow.pinnedBy)) = true := by kernel_rfl
theorem fact_31 : ((Rows.pressAnswersRow.veiled == (Tryz.f3.params.toList ++ Rows.pressAnswersSpec.plain.varTypes Tryz.prog ++ Tryz.f3.resultTypes.toList).any (Tryz.prog.veiledRec ·))) = true := by kernel_rfl
theorem fact_32 : (Rows.pressAnswersRow.veiledFits Tryz.prog Tryz.f3.params.toList (Tryz.f3.params.toList ++ Rows.pressAnswersSpec.plain.varTypes Tryz.prog ++ Tryz.f3.resultTypes.toList)) = true := by kernel_rfl
end Go.Proofs.YtmodmjekhlnjpaaGreatDoor
