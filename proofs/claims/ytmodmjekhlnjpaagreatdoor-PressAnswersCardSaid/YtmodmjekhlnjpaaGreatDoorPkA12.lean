/- The proof of PressAnswers, part 12 of 14 (texts joined and shortened by a program: PFacts). -/
import Derived.Test.YtmodmjekhlnjpaaGreatDoorPkA11
namespace Go.Proofs.YtmodmjekhlnjpaaGreatDoor
open Go
theorem band {a b : Bool} (h : a = true) (k : b = true) : (a && b) = true := by rw [h, k]; rfl
theorem closed_all : joinedFacts Tryz.prog 3 Tryz.f3 Rows.pressAnswersSpec Rows.pressAnswersRow = true := by
  unfold joinedFacts
  exact band (band (band (band (band (band (band (band (band (band (band (band (band (band (band (band (band (band (band (band (band (band (band (band (band (band (band (band (band (band (band (fact_1) fact_2) fact_3) fact_4) fact_5) fact_6) fact_7) fact_8) fact_9) fact_10) fact_11) fact_12) fact_13) fact_14) fact_15) fact_16) fact_17) fact_18) fact_19) fact_20) fact_21) fact_22) fact_23) fact_24) fact_25) fact_26) fact_27) fact_28) (by kernel_rfl)) fact_30) fact_31) fact_32
end Go.Proofs.YtmodmjekhlnjpaaGreatDoor
