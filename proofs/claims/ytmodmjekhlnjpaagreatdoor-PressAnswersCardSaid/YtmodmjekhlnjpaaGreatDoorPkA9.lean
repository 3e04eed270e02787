/- The proof of PressAnswers, part 9 of 14 (texts joined and shortened by a program: PFactA). -/
import Derived.Test.YtmodmjekhlnjpaaGreatDoorPkA8
namespace Go.Proofs.YtmodmjekhlnjpaaGreatDoor
open Go
theorem fact_2 : (laidOutB Tryz.prog) = true := by kernel_rfl
theorem fact_10 : ((Rows.pressAnswersRow.inPlace == Tryz.prog.inPlace 3)) = true := by kernel_rfl
end Go.Proofs.YtmodmjekhlnjpaaGreatDoor
