/- slices.Clone of a row of bytes: nil stays nil, else a new row with the same letters. -/
import Derived.Test.YtoljpnfohlcfaaaGreatDoorProg
import Derived.Test.YtoljpnfohlcfaaaGreatDoorBase
import Derived.BigQuiet
import Derived.Deep.QuietTactic
import Derived.Outline
namespace Go.Proofs.YtoljpnfohlcfaaaGreatDoor
open Go.RowKit

theorem info_u8 : (Tryz.prog.info? 5).map (fun i => (i.zero, i.size, i.bytes)) = some (some (.int .u8 0), 1, 1) := by kernel_rfl
theorem sty_bytes : STy Tryz.prog 32 5 1 1 := STy.mk Tryz.underlying32 info_u8 rfl (by decide) (by decide)
/-- Bytes of the call's own. -/
abbrev OwnB (w : World) (B : Nat) (v : Value) (xs : List Int) : Prop := Own u8 5 w B (tyO []) v xs

theorem clone_ok (v : Value) (xs : List Int) (w : World) (h : Reads u8 w v xs) (hl : xs.length ≤ 140737488351232) :
    Calls Tryz.prog 11 #[v] w fun e w' => ∃ v', e = .returned v' ∧ OwnB w' w.heap.size v' xs ∧ Below w.heap.size w w' := by
  obtain ⟨A, c, rfl, h1, h2, h3⟩ := h
  have hs : Reads u8 w (.slice A xs.length c) xs := ⟨A, c, rfl, h1, h2, h3⟩
  have he := @Lib.run_eql_slice_nil Tryz.prog
  cases A with
  | none =>
    have hc0 := h2 rfl
    obtain rfl : xs = [] := List.eq_nil_of_length_eq_zero (by omega)
    subst hc0
    go_enter Tryz.func11, Tryz.ntmps11
    go_wp2
    go_ret
    exact ⟨_, rfl, Own.nil _ _ _ _ _, Below.refl _ _⟩
  | some ad =>
    clear h1 h2 h3
    have hsrc := Lib.hid ((hs.alloc (.cells #[] 5)).src)
    clear hs
    go_enter Tryz.func11, Tryz.ntmps11
    go_wp2_with (first | (at_builtin; refine wpList_app (d := u8) (B := w.heap.size) (ok := tyO []) (v := .slice (some ⟨w.heap.size, 0, none⟩) 0 0) (xs := []) rfl _ _ rfl sty_bytes rfl rfl ?c1 hsrc.out.scalar_any ?c3 ?c4 ?_))
    case c1 => exact Own.lit (xs := []) (inner := []) w (Reps.nil _ _) (Nat.le_refl _)
    case c3 => simp; omega
    case c4 => simp
    · intro v' w' ho hg hat
      have hb := Lib.hid (below_app ((Below.refl w.heap.size w).alloc (Nat.le_refl _) _) hg (row_new (by simp)) (by simp))
      clear hg hat
      go_wp2
      go_ret
      exact ⟨_, rfl, ho, hb.out⟩
end Go.Proofs.YtoljpnfohlcfaaaGreatDoor
