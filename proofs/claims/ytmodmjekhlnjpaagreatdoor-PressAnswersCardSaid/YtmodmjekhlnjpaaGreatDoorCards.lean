/-
  DERIVED. GIVEN WITH THE SEED: THE CARDS: each row of YtmodmjekhlnjpaaGreatDoorRows.lean that lists a variable, with what it lists TIED to the program's text (the seventh form; the later family's looks); each row that meets fmt, with fmt's text TOLD by the authors' own Lean function (tested against real Go, not proved from fmt's source: count such statements apart). THE CARD IS WHAT COUNTS. Prove the row's statement (the work); the ties are given (YtmodmjekhlnjpaaGreatDoorTie.lean); close each card by the builder's one call (the guide's Derived/Test/ToyasCard.lean, 'card_holds'). Laid BY PROGRAM, IN A SANDBOX (cutbox-door.mjs). By AI agents, Wed Nov 11 2026. No macro, syntax, notation, axiom, sorry.
-/
import Derived.Test.YtmodmjekhlnjpaaGreatDoorRows
import GoSem.ClaimSeven
namespace Go.Proofs.YtmodmjekhlnjpaaGreatDoor
namespace Rows

/-- THE TIED CARD OF 'imprimaturlaw16.PressAnswers'. -/
def pressAnswersCard : Claim7 := { stood := { row := pressAnswersRow, standIns := [], harness := (true, "9474de26ae9becff0fe42fd93a2601827821227a9ee287708be52f8d55873cc7"), looks := true }, kinds := [], alts := [], laidByText := true, laidKinds := [.data, .data, .data, .data, .data, .data], laidTests := true, laidLooks := .later }
def PressAnswersCardSaid : Prop := Claim7.holds Tryz.pinned (.plain (OpenSpec.ofChange pressAnswersSpec)) pressAnswersCard

/-- THE TIED CARD OF 'imprimaturlaw16.PressRoots'. -/
def pressRootsCard : Claim7 := { stood := { row := pressRootsRow, standIns := [], harness := (true, "9474de26ae9becff0fe42fd93a2601827821227a9ee287708be52f8d55873cc7"), looks := true }, kinds := [], alts := [], laidByText := true, laidKinds := [.data, .data, .widerDeep, .data, .data, .data, .data], laidTests := true, laidLooks := .later }
def PressRootsCardSaid : Prop := Claim7.holds Tryz.pinned (.plain (OpenSpec.ofChange pressRootsSpec)) pressRootsCard

/-- THE TIED CARD OF 'imprimaturlaw16.PressPublishes'. -/
def pressPublishesCard : Claim7 := { stood := { row := pressPublishesRow, standIns := [], harness := (true, "9474de26ae9becff0fe42fd93a2601827821227a9ee287708be52f8d55873cc7"), looks := true }, kinds := [], alts := [], laidByText := true, laidKinds := [.data, .data, .widerDeep, .data, .data, .data, .data], laidTests := true, laidLooks := .later }
def PressPublishesCardSaid : Prop := Claim7.holds Tryz.pinned (.plain (OpenSpec.ofChange pressPublishesSpec)) pressPublishesCard

/-- THE TIED CARD OF 'imprimaturlaw16.PressTrusted'. -/
def pressTrustedCard : Claim7 := { stood := { row := pressTrustedRow, standIns := [], harness := (true, "9474de26ae9becff0fe42fd93a2601827821227a9ee287708be52f8d55873cc7"), looks := true }, kinds := [], alts := [], laidByText := true, laidKinds := [.data, .data, .widerDeep, .data, .data, .data, .data], laidTests := true, laidLooks := .later }
def PressTrustedCardSaid : Prop := Claim7.holds Tryz.pinned (.plain (OpenSpec.ofChange pressTrustedSpec)) pressTrustedCard

/-- THE SECOND FORM's CARD OF 'imprimaturlaw16.PressAnswers'. -/
def pressAnswersUptoCard : Claim7 := { stood := { row := pressAnswersUptoRow, standIns := [], harness := (true, "9474de26ae9becff0fe42fd93a2601827821227a9ee287708be52f8d55873cc7"), looks := true }, kinds := [], alts := [], laidByText := true, laidKinds := [.data, .data, .data, .data, .data, .data], laidTests := true, laidLooks := .later }
def PressAnswersUptoCardSaid : Prop := Claim7.holds Tryz.pinned (.plain (OpenSpec.upto pressAnswersSpec)) pressAnswersUptoCard

/-- THE SECOND FORM's CARD OF 'imprimaturlaw16.PressRoots'. -/
def pressRootsUptoCard : Claim7 := { stood := { row := pressRootsUptoRow, standIns := [], harness := (true, "9474de26ae9becff0fe42fd93a2601827821227a9ee287708be52f8d55873cc7"), looks := true }, kinds := [], alts := [], laidByText := true, laidKinds := [.data, .data, .widerDeep, .data, .data, .data, .data], laidTests := true, laidLooks := .later }
def PressRootsUptoCardSaid : Prop := Claim7.holds Tryz.pinned (.plain (OpenSpec.upto pressRootsSpec)) pressRootsUptoCard

/-- THE SECOND FORM's CARD OF 'imprimaturlaw16.PressPublishes'. -/
def pressPublishesUptoCard : Claim7 := { stood := { row := pressPublishesUptoRow, standIns := [], harness := (true, "9474de26ae9becff0fe42fd93a2601827821227a9ee287708be52f8d55873cc7"), looks := true }, kinds := [], alts := [], laidByText := true, laidKinds := [.data, .data, .widerDeep, .data, .data, .data, .data], laidTests := true, laidLooks := .later }
def PressPublishesUptoCardSaid : Prop := Claim7.holds Tryz.pinned (.plain (OpenSpec.upto pressPublishesSpec)) pressPublishesUptoCard

/-- THE SECOND FORM's CARD OF 'imprimaturlaw16.PressTrusted'. -/
def pressTrustedUptoCard : Claim7 := { stood := { row := pressTrustedUptoRow, standIns := [], harness := (true, "9474de26ae9becff0fe42fd93a2601827821227a9ee287708be52f8d55873cc7"), looks := true }, kinds := [], alts := [], laidByText := true, laidKinds := [.data, .data, .widerDeep, .data, .data, .data, .data], laidTests := true, laidLooks := .later }
def PressTrustedUptoCardSaid : Prop := Claim7.holds Tryz.pinned (.plain (OpenSpec.upto pressTrustedSpec)) pressTrustedUptoCard
end Rows
end Go.Proofs.YtmodmjekhlnjpaaGreatDoor
