/- The proof of PressAnswers, part 10 of 14 (texts joined and shortened by a program: PFactB). -/
import Derived.Test.YtmodmjekhlnjpaaGreatDoorPkA9
namespace Go.Proofs.YtmodmjekhlnjpaaGreatDoor
open Go
theorem fact_11 : ((Rows.pressAnswersRow.unfollowed == Tryz.prog.unfollowed 3)) = true := by kernel_rfl
theorem fact_12 : ((Rows.pressAnswersRow.recurses == Tryz.prog.recurses 3)) = true := by kernel_rfl
end Go.Proofs.YtmodmjekhlnjpaaGreatDoor
