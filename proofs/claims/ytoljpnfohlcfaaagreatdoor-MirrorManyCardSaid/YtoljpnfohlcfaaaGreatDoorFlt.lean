/- Faults in memory; a copy of a row of them. -/
import Derived.Test.YtoljpnfohlcfaaaGreatDoorClone
namespace Go.Proofs.YtoljpnfohlcfaaaGreatDoor
open Go.RowKit

structure Flt where
  kind : Int
  pos : Int
  num : Int
def fltR : Rep Flt := Rep.iso (Rep.pair (Rep.int .i64) (Rep.pair (Rep.int .i64) (Rep.int .i64))) fun e => (e.kind, e.pos, e.num)
theorem fltR_mk {h : Hp} {x : Flt} (h0 : (Lit.int .i64 x.kind).wf = true) (h1 : (Lit.int .i64 x.pos).wf = true) (h2 : (Lit.int .i64 x.num).wf = true) : fltR.K h x [.int .i64 x.kind, .int .i64 x.pos, .int .i64 x.num] :=
  ⟨_, _, rfl, ⟨rfl, h0⟩, _, _, rfl, ⟨rfl, h1⟩, rfl, h2⟩
theorem fltR_elim {h : Hp} {x : Flt} {cs : List Value} (hk : fltR.K h x cs) : cs = [.int .i64 x.kind, .int .i64 x.pos, .int .i64 x.num] ∧ (Lit.int .i64 x.kind).wf = true ∧ (Lit.int .i64 x.pos).wf = true ∧ (Lit.int .i64 x.num).wf = true := by
  obtain ⟨_, _, rfl, ⟨rfl, h0⟩, _, _, rfl, ⟨rfl, h1⟩, rfl, h2⟩ := hk
  exact ⟨rfl, h0, h1, h2⟩
theorem fltR_src {w : World} {h h' : Hp} {v : Value} {xs : List Flt} (s : Src fltR w h v xs) : Src fltR w h' v xs := s
theorem info_flt : (Tryz.prog.info? 45).map (fun i => (i.zero, i.size, i.bytes)) = some (some (.agg #[.int .i64 0, .int .i64 0, .int .i64 0]), 3, 24) := by kernel_rfl
theorem sty_flts : STy Tryz.prog 29 45 3 24 := STy.mk Tryz.underlying29 info_flt rfl (by decide) (by decide)

theorem cloneF_ok (v : Value) (xs : List Flt) (w : World) (h : Reads fltR w v xs) (hl : xs.length ≤ 5864062014805) :
    Calls Tryz.prog 10 #[v] w fun e w' => ∃ v', e = .returned v' ∧ Own fltR 45 w' w.heap.size (tyO []) v' xs ∧ Below w.heap.size w w' := by
  obtain ⟨A, c, rfl, h1, h2, h3⟩ := h
  have hs : Reads fltR w (.slice A xs.length c) xs := ⟨A, c, rfl, h1, h2, h3⟩
  have he := @Lib.run_eql_slice_nil Tryz.prog
  cases A with
  | none =>
    have hc0 := h2 rfl
    obtain rfl : xs = [] := List.eq_nil_of_length_eq_zero (by omega)
    subst hc0
    go_enter Tryz.func10, Tryz.ntmps10
    go_wp2
    go_ret
    exact ⟨_, rfl, Own.nil _ _ _ _ _, Below.refl _ _⟩
  | some ad =>
    clear h1 h2 h3
    have hsrc := Lib.hid ((hs.alloc (.cells #[] 45)).src)
    clear hs
    go_enter Tryz.func10, Tryz.ntmps10
    go_wp2_with (first | (at_builtin; refine wpList_app (d := fltR) (B := w.heap.size) (ok := tyO []) (v := .slice (some ⟨w.heap.size, 0, none⟩) 0 0) (xs := []) rfl _ _ rfl sty_flts rfl rfl ?c1 (fltR_src hsrc.out) ?c3 ?c4 ?_))
    case c1 => exact Own.lit (xs := []) (inner := []) w (Reps.nil _ _) (Nat.le_refl _)
    case c3 => simp; omega
    case c4 => simp
    · intro v' w' ho hg hat
      have hb := Lib.hid (below_app ((Below.refl w.heap.size w).alloc (Nat.le_refl _) _) hg (row_new (by simp)) (by simp))
      clear hg hat
      go_wp2
      go_ret
      exact ⟨_, rfl, ho, hb.out⟩
end Go.Proofs.YtoljpnfohlcfaaaGreatDoor
