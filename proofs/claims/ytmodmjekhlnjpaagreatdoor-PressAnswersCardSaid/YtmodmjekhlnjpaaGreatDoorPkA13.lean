/- The proof of PressAnswers, part 13 of 14 (texts joined and shortened by a program: PRow). -/
import Derived.Test.YtmodmjekhlnjpaaGreatDoorPkA12
import Derived.Test.YtmodmjekhlnjpaaGreatDoorRows
import Derived.Test.YtmodmjekhlnjpaaGreatDoorTie
import Derived.Test.YtmodmjekhlnjpaaGreatDoorCards
namespace Go.Proofs.YtmodmjekhlnjpaaGreatDoor
open Go.ChangeShapes Go.WideShapes Go.ChangeAt Go.RowKit Lf
theorem pressAnswers_holds : Rows.PressAnswersSaid :=
  OpenClaim.holds_of_wide 3 Tryz.f3 rfl rfl rfl rfl rfl rfl rfl ⟨rfl, rfl, rfl, rfl, rfl⟩ rfl rfl rfl rfl rfl (by kernel_rfl) Tryz.func3 closed_all
    (of_decide_eq_true (by kernel_rfl)) (by unfold Func.isWrapper; first | (rw [if_pos (by decide +kernel)]; kernel_rfl) | (rw [if_neg (by decide +kernel)]; exact ⟨rfl, rfl⟩))
    (fun os started H enc _ => pressAnswers_lifted os started H enc)
#print axioms pressAnswers_holds
end Go.Proofs.YtmodmjekhlnjpaaGreatDoor
