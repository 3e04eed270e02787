/-
  DERIVED. GIVEN WITH THE SEED: THE CARDS: each row of YtoljpnfohlcfaaaGreatDoorRows.lean that lists a variable, with what it lists TIED to the program's text (the seventh form; the later family's looks); each row that meets fmt, with fmt's text TOLD by the authors' own Lean function (tested against real Go, not proved from fmt's source: count such statements apart). THE CARD IS WHAT COUNTS. Prove the row's statement (the work); the ties are given (YtoljpnfohlcfaaaGreatDoorTie.lean); close each card by the builder's one call (the guide's Derived/Test/ToyasCard.lean, 'card_holds'). Laid BY PROGRAM, IN A SANDBOX (cutbox-door.mjs). By AI agents, Wed Nov 11 2026. No macro, syntax, notation, axiom, sorry.
-/
import Derived.Test.YtoljpnfohlcfaaaGreatDoorRows
import GoSem.ClaimSeven
namespace Go.Proofs.YtoljpnfohlcfaaaGreatDoor
namespace Rows

/-- THE TIED CARD OF 'imprimaturlaw21.MirrorMany'. -/
def mirrorManyCard : Claim7 := { stood := { row := mirrorManyRow, standIns := [], harness := (true, "11c6b4d2dbae644469ef01829ea6d6fabfcbd16ccd3b92320d1e17a350d49bb7"), looks := true }, kinds := [], alts := [], laidByText := true, laidKinds := [.data, .data, .widerDeep, .data, .data, .data, .data, .data], laidTests := true, laidLooks := .later }
def MirrorManyCardSaid : Prop := Claim7.holds Tryz.pinned (.plain (OpenSpec.ofChange mirrorManySpec)) mirrorManyCard

/-- THE SECOND FORM's CARD OF 'imprimaturlaw21.MirrorMany'. -/
def mirrorManyUptoCard : Claim7 := { stood := { row := mirrorManyUptoRow, standIns := [], harness := (true, "11c6b4d2dbae644469ef01829ea6d6fabfcbd16ccd3b92320d1e17a350d49bb7"), looks := true }, kinds := [], alts := [], laidByText := true, laidKinds := [.data, .data, .widerDeep, .data, .data, .data, .data, .data], laidTests := true, laidLooks := .later }
def MirrorManyUptoCardSaid : Prop := Claim7.holds Tryz.pinned (.plain (OpenSpec.upto mirrorManySpec)) mirrorManyUptoCard
end Rows
end Go.Proofs.YtoljpnfohlcfaaaGreatDoor
