/- Rows of bytes as strings: two are the same just where the rows are. -/
import Derived.Test.YtoljpnfohlcfaaaGreatDoorClone
import Derived.Laws.BytesArg
namespace Go.Proofs.YtoljpnfohlcfaaaGreatDoor
open Go.RowKit

theorem wf_u8 {n : Int} (h : (Lit.int .u8 n).wf = true) : 0 ≤ n ∧ n < 256 := by
  simp [Lit.wf, IntKind.min, IntKind.max, IntKind.bits, IntKind.signed] at h
  omega
theorem sl_bytes {h : Hp} {A : Option Addr} {xs : List Int} (s : SL u8 h A xs) : ∀ x ∈ xs, 0 ≤ x ∧ x < 256 := by
  intro x hx
  obtain ⟨i, hi, rfl⟩ := List.mem_iff_getElem.1 hx
  obtain ⟨g, off, cells, e, fz, cs, h1, h2, h3, h4⟩ := s.2 (by intro e; rw [e] at hi; simp at hi)
  exact wf_u8 (h3.2 i _ (List.getElem?_eq_getElem hi)).2
theorem sv_bytes {h : Hp} {v : Value} {xs : List Int} (s : SV u8 h v xs) : ∀ x ∈ xs, 0 ≤ x ∧ x < 256 := by
  obtain ⟨A, c, _, _, _, s⟩ := s
  exact sl_bytes s
theorem run_string_of {P : Program} {w : World} {ok : Hp} {v : Value} {xs : List Int} (s : SV u8 (hp w ok) v xs) (src e dst : TypeId) (hs : P.underlying src = some (.slice e)) (he : P.underlying e = some (.int .u8)) (hd : P.underlying dst = some .string) :
    (convert src dst v).run P w = .ok (.string (strOfNums xs)) w := by
  obtain ⟨A, c, rfl, h1, h2, h3⟩ := s
  by_cases hx : xs = []
  · subst hx
    cases A with
    | none => exact run_convert_bytes_nil w src e hs he _ _ dst hd
    | some ad =>
      rw [run_convert_bytes_string w src dst e _ _ c hs he hd]
      simp [Conv.bytesToString, loadCells, loadCellsFrom, strOfNums]
      rfl
  · obtain ⟨g, off, cs, rfl, h4, h5⟩ := h3.cells hx
    refine run_convert_bytes_arg w src e hs he g off _ c xs rfl (fun i hi => ?_) dst hd
    obtain ⟨g', off', h6, h7, _⟩ := h3.int_at i hi
    cases h6
    exact h7
theorem strOfNums_inj {xs ys : List Int} (hx : ∀ x ∈ xs, 0 ≤ x ∧ x < 256) (hy : ∀ x ∈ ys, 0 ≤ x ∧ x < 256) (h : strOfNums xs = strOfNums ys) : xs = ys := by
  have h1 : xs.map (fun n => UInt8.ofNat n.toNat) = ys.map (fun n => UInt8.ofNat n.toNat) := by
    rw [← strOfNums_data, ← strOfNums_data, h]
  have key : ∀ (zs : List Int), (∀ x ∈ zs, 0 ≤ x ∧ x < 256) → (zs.map (fun n => UInt8.ofNat n.toNat)).map (fun b : UInt8 => (b.toNat : Int)) = zs := by
    intro zs hz
    rw [List.map_map]
    conv => rhs; rw [← List.map_id zs]
    refine List.map_congr_left fun x hx => ?_
    have := hz x hx
    simp only [Function.comp, UInt8.toNat_ofNat', id]
    omega
  rw [← key xs hx, ← key ys hy, h1]
theorem same_ok (a b : Value) (xs ys : List Int) (w : World) (ha : Reads u8 w a xs) (hb : Reads u8 w b ys) :
    Calls Tryz.prog 13 #[a, b] w fun e w' => e = .returned (.bool (decide (xs = ys))) ∧ w = w' := by
  have r1 := run_string_of (P := Tryz.prog) ha 32 5 9 Tryz.underlying32 Tryz.underlying5 Tryz.underlying9
  have r2 := run_string_of (P := Tryz.prog) hb 32 5 9 Tryz.underlying32 Tryz.underlying5 Tryz.underlying9
  have he : ((strOfNums xs).toList == (strOfNums ys).toList) = decide (xs = ys) := by
    by_cases h : xs = ys
    · subst h; simp
    · simp only [h, decide_false, beq_eq_false_iff_ne, ne_eq]
      intro h'
      exact h (strOfNums_inj (sv_bytes ha) (sv_bytes hb) (by
        rw [ByteArray.toList_eq, ByteArray.toList_eq] at h'
        exact WideShapes.bytes_inj h'))
  go_enter Tryz.func13, Tryz.ntmps13
  go_wp2
  go_ret
  exact ⟨rfl, rfl⟩
end Go.Proofs.YtoljpnfohlcfaaaGreatDoor
