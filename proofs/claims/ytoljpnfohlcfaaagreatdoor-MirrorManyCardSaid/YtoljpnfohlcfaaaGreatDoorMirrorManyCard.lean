/- THE CARD OF MirrorMany: its statement, with the listed variables tied to the program's text. -/
import Derived.Test.YtoljpnfohlcfaaaGreatDoorTie
import Derived.Test.YtoljpnfohlcfaaaGreatDoorCards
import Derived.Test.YtoljpnfohlcfaaaGreatDoorMRow
import Derived.SevenTiedAt
namespace Go.Proofs.YtoljpnfohlcfaaaGreatDoor
open Go

theorem mirrorMany_card : Rows.MirrorManyCardSaid :=
  Claim7.holds_tied_plain_at .later [] [.data, .data, .widerDeep, .data, .data, .data, .data, .data] true (true, "11c6b4d2dbae644469ef01829ea6d6fabfcbd16ccd3b92320d1e17a350d49bb7") true
    mirrorMany_holds (fun _ h => by cases h) (by kernel_rfl) (fun _ h => by cases h) mirrorMany_row_tie rfl ⟨rfl, rfl⟩ (by kernel_rfl) rfl
    (fun f fn hf hfn => by
      obtain rfl : f = 3 := Option.some.inj ((show Tryz.prog.funcNamed "imprimatur/imprimaturlaw21.MirrorMany" = some 3 by kernel_rfl).symm.trans hf) |>.symm
      obtain rfl : fn = Tryz.f3 := (Option.some.inj (Tryz.func3.symm.trans hfn)).symm
      exact ⟨by kernel_rfl, fun j t ht => by
        rw [Tryz.params3] at ht
        have hm : t ∈ [22, 22, 22] := by simpa using Array.mem_of_getElem? ht
        have hall : ([22, 22, 22].all fun u => !Tryz.prog.wantsStandIn u) = true := by kernel_rfl
        exact (show Tryz.prog.wantsStandIn t = false by simpa using List.all_eq_true.1 hall t hm)⟩)
    (by kernel_rfl)
#print axioms mirrorMany_card
end Go.Proofs.YtoljpnfohlcfaaaGreatDoor
