/- The proof of PressAnswers, part 7 of 14 (texts joined and shortened by a program: PRow0). -/
import Derived.Test.YtmodmjekhlnjpaaGreatDoorPkA6
namespace Go.Proofs.YtmodmjekhlnjpaaGreatDoor
open Go.ChangeShapes Go.WideShapes Go.ChangeAt Go.RowKit Lf

theorem ownKnob_none : ownKnob Tryz.prog.godebug = none := by kernel_rfl
theorem laidOut : laidOutB Tryz.prog = true := by kernel_rfl
/-- A heap that meets the condition: the listed values, laid by the function. -/
theorem start_met (os : Os) (args : Array Value) : laidMetH Tryz.prog Rows.pressAnswersRow.laid ((World.laidAll Tryz.prog os Rows.pressAnswersRow.laid).forCall (fun _ _ => 0) ⟨#[], args, []⟩).memory := by
  rw [MakeChecks.laidMetH_plain _ _ _ (by kernel_rfl)]
  exact laidMet_laidAll _ (by kernel_rfl) (by kernel_rfl)
theorem i64_le {n : Int} (h : (Lit.int .i64 n).wf = true) : n ≤ 9223372036854775807 := by
  simp [Lit.wf, IntKind.min, IntKind.max, IntKind.bits, IntKind.signed] at h
  omega
theorem opn_u8 (W : World) : Opn Tryz.prog W 5 (un .u8) fun n => n < 2 ^ 8 := opn_un .u8 Tryz.underlying5 (by kernel_rfl) rfl
theorem opn_bytes (W : World) : Opn Tryz.prog W 22 (Rep.slice (un .u8)) fun xs => xs.length ≤ 140737488355328 ∧ ∀ x ∈ xs, x < 2 ^ 8 :=
  opn_slice Tryz.underlying22 (by kernel_rfl) (by kernel_rfl) rfl (opn_u8 W)
theorem opn_texts (W : World) : Opn Tryz.prog W 25 (Rep.slice (Rep.slice (un .u8))) fun xs => xs.length ≤ 140737488355328 ∧ ∀ x ∈ xs, x.length ≤ 140737488355328 ∧ ∀ y ∈ x, y < 2 ^ 8 :=
  opn_slice Tryz.underlying25 (by kernel_rfl) (by kernel_rfl) rfl (opn_bytes W)
theorem opn_i64 (W : World) : Opn Tryz.prog W 2 (sn .i64) fun n => (Lit.int .i64 n).wf = true := opn_sn .i64 Tryz.underlying2 (by kernel_rfl)
theorem opn_int (W : World) : Opn Tryz.prog W 3 (sn .i64) fun n => (Lit.int .i64 n).wf = true := opn_sn .i64 Tryz.underlying3 (by kernel_rfl)
theorem weigh {H : Type} {P : Program} {ts : List TypeId} {ds : List (DataW H)} (h : (DataW.weightsEach P ts ds).all (· ≤ reachBytes) = true) {j : Nat} {t : TypeId} {d : DataW H} (ht : ts[j]? = some t) (hd : ds[j]? = some d) : ∀ n ∈ d.weights P t, n ≤ 140737488355328 := by
  intro n hn
  have := List.all_eq_true.1 h _ (DataW.weights_mem_each ht hd n hn)
  have h2 : n ≤ reachBytes := by simpa using this
  exact Nat.le_trans h2 (by decide)

theorem five {cs : Array Value} (h : cs.size = 5) : ∃ a0 a1 a2 a3 a4, cs = #[a0, a1, a2, a3, a4] := by
  obtain ⟨l⟩ := cs
  have h : l.length = 5 := h
  match l, h with
  | [a0, a1, a2, a3, a4], _ => exact ⟨a0, a1, a2, a3, a4, rfl⟩
theorem three {cs : Array Value} (h : cs.size = 3) : ∃ a0 a1 a2, cs = #[a0, a1, a2] := by
  obtain ⟨l⟩ := cs
  have h : l.length = 3 := h
  match l, h with
  | [a0, a1, a2], _ => exact ⟨a0, a1, a2, rfl⟩
end Go.Proofs.YtmodmjekhlnjpaaGreatDoor
