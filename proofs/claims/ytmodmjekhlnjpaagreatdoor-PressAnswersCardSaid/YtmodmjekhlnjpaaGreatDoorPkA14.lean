/- The proof of PressAnswers, part 14 of 14 (texts joined and shortened by a program: PressAnswersCard). -/
import Derived.Test.YtmodmjekhlnjpaaGreatDoorPkA13
import Derived.Test.YtmodmjekhlnjpaaGreatDoorRows
import Derived.Test.YtmodmjekhlnjpaaGreatDoorTie
import Derived.Test.YtmodmjekhlnjpaaGreatDoorCards
namespace Go.Proofs.YtmodmjekhlnjpaaGreatDoor
open Go

theorem pressAnswers_card : Rows.PressAnswersCardSaid :=
  Claim7.holds_tied_plain_at .later [] [.data, .data, .data, .data, .data, .data] true (true, "9474de26ae9becff0fe42fd93a2601827821227a9ee287708be52f8d55873cc7") true
    pressAnswers_holds (fun _ h => by cases h) (by kernel_rfl) (fun _ h => by cases h) pressAnswers_row_tie rfl ⟨rfl, rfl⟩ (by kernel_rfl) rfl
    (fun f fn hf hfn => by
      obtain rfl : f = 3 := Option.some.inj ((show Tryz.prog.funcNamed "imprimatur/imprimaturlaw16.PressAnswers" = some 3 by kernel_rfl).symm.trans hf) |>.symm
      obtain rfl : fn = Tryz.f3 := (Option.some.inj (Tryz.func3.symm.trans hfn)).symm
      exact ⟨by kernel_rfl, fun j t ht => by
        rw [Tryz.params3] at ht
        have hm : t ∈ [24, 25, 27] := by simpa using Array.mem_of_getElem? ht
        have hall : ([24, 25, 27].all fun u => !Tryz.prog.wantsStandIn u) = true := by kernel_rfl
        exact (show Tryz.prog.wantsStandIn t = false by simpa using List.all_eq_true.1 hall t hm)⟩)
    (by kernel_rfl)
#print axioms pressAnswers_card
end Go.Proofs.YtmodmjekhlnjpaaGreatDoor
