/- A mirror's answer to a wanted timestamp, by one edition and one fault that loses its first answer. -/
import Derived.Test.YtoljpnfohlcfaaaGreatDoorMAns0
namespace Go.Proofs.YtoljpnfohlcfaaaGreatDoor
open Go.RowKit
set_option maxHeartbeats 1000000 in
theorem by2_ok (B p k : Nat) (rv ev fv : Value) (es : List Edn) (n ve pl : Int) (w : World) (hM : Blk w p #[rv, ev, fv, .int .i64 n] 49) (hO : Own ednR 34 w B (tyO [5]) ev es) (hk : k < es.length) (hls : es[k].stamp.length ≤ 140737488351232) :
    Calls Tryz.prog 14 #[.pointer (some ⟨p, 0, none⟩), .int .i64 k, .agg #[.int .i64 2, .int .i64 ve, .int .i64 pl]] w fun e w' => ∃ v', e = .returned (.tuple #[v', .int .i64 0]) ∧ OwnB w' w.heap.size v' es[k].stamp ∧ Below w.heap.size w w' := by
  obtain ⟨g, off, c, cs, heq, hKe, _, hcell⟩ := sv_at hO.reads k hk
  obtain ⟨s0, s1, s2, s3, rfl, h0, h1, h2, h3, hch⟩ := ednR_elim hKe
  obtain ⟨EA, ec, rfl, _⟩ := hO.shape
  injection heq with e1 e2 e3
  subst e1 e3
  have hb0 : Below w.heap.size w (w.alloc (.cells #[.int .i64 2, .int .i64 ve, .int .i64 pl] 38)).drew := by go_grown
  have hc0 : (w.alloc (.cells #[.int .i64 2, .int .i64 ve, .int .i64 pl] 38)).drew.cell? ⟨g, off + k * 5, none⟩ = some s0 := cell_below (by simpa [ednR, Rep.iso, Rep.pair, Rep.slice, Rep.int, Rep.scalar] using hcell 0 _ rfl) hb0
  have hc1 : (w.alloc (.cells #[.int .i64 2, .int .i64 ve, .int .i64 pl] 38)).drew.cell? ⟨g, off + k * 5 + 1, none⟩ = some s1 := cell_below (by simpa [ednR, Rep.iso, Rep.pair, Rep.slice, Rep.int, Rep.scalar, Nat.add_assoc] using hcell 1 _ rfl) hb0
  have hc2 : (w.alloc (.cells #[.int .i64 2, .int .i64 ve, .int .i64 pl] 38)).drew.cell? ⟨g, off + k * 5 + 2, none⟩ = some s2 := cell_below (by simpa [ednR, Rep.iso, Rep.pair, Rep.slice, Rep.int, Rep.scalar, Nat.add_assoc] using hcell 2 _ rfl) hb0
  have hc3 : (w.alloc (.cells #[.int .i64 2, .int .i64 ve, .int .i64 pl] 38)).drew.cell? ⟨g, off + k * 5 + 3, none⟩ = some s3 := cell_below (by simpa [ednR, Rep.iso, Rep.pair, Rep.slice, Rep.int, Rep.scalar, Nat.add_assoc] using hcell 3 _ rfl) hb0
  have hc4 : (w.alloc (.cells #[.int .i64 2, .int .i64 ve, .int .i64 pl] 38)).drew.cell? ⟨g, off + k * 5 + 4, none⟩ = some (.int .i64 es[k].chunk) := cell_below (by simpa [ednR, Rep.iso, Rep.pair, Rep.slice, Rep.int, Rep.scalar, Nat.add_assoc] using hcell 4 _ rfl) hb0
  have hk0 : (0 : Int) ≤ (k : Int) := Int.natCast_nonneg _
  have hk1 : (k : Int) < (es.length : Int) := by omega
  go_enter Tryz.func14, Tryz.ntmps14
  go_wp2
  refine wp_region_F 12 (fun w' => Blk w' p #[rv, .slice (some ⟨g, off, none⟩) es.length ec, fv, .int .i64 n] 49 ∧ Blk w' w.heap.size #[.int .i64 2, .int .i64 ve, .int .i64 pl] 38 ∧ w'.cell? ⟨g, off + k * 5, none⟩ = some s0 ∧ w'.cell? ⟨g, off + k * 5 + 1, none⟩ = some s1 ∧ w'.cell? ⟨g, off + k * 5 + 2, none⟩ = some s2 ∧ w'.cell? ⟨g, off + k * 5 + 3, none⟩ = some s3 ∧ w'.cell? ⟨g, off + k * 5 + 4, none⟩ = some (.int .i64 es[k].chunk) ∧ Below w.heap.size w w') (by kernel_rfl) ?hC (fun WR hHeld => ?_)
  case hC => exact ⟨hM.alloc _, Blk.new _ _ _, hc0, hc1, hc2, hc3, hc4, by go_grown⟩
  refine wpAnyC_pure (i := 0) (v := _) (some 8) rfl rfl (by kernel_rfl) (by kernel_rfl) (by kernel_rfl) (fun _ _ _ h => h) (by kernel_rfl) (by kernel_rfl) (by kernel_rfl) (Or.inl ⟨by rfl, fun w _ => by go_simp; (try with_reducible rfl)⟩) (fun _ => hHeld) ?_
  try simp only [Act.put, List.setIfInBounds_toArray, List.set_cons_zero, List.set_cons_succ]
  refine wpAnyC_pure (i := 1) (v := _) (some 9) rfl rfl (by kernel_rfl) (by kernel_rfl) (by kernel_rfl) (fun _ _ _ h => h) (by kernel_rfl) (by kernel_rfl) (by kernel_rfl) (Or.inl ⟨by rfl, fun w _ => by go_simp; (try with_reducible rfl)⟩) (fun _ => hHeld) ?_
  try simp only [Act.put, List.setIfInBounds_toArray, List.set_cons_zero, List.set_cons_succ]
  refine wpAnyC_pure (i := 2) (v := _) (some 10) rfl rfl (by kernel_rfl) (by kernel_rfl) (by kernel_rfl) (fun _ _ _ h => h) (by kernel_rfl) (by kernel_rfl) (by kernel_rfl) (Or.inl ⟨by rfl, fun w _ => by go_simp; (try with_reducible rfl)⟩) (fun _ => hHeld) ?_
  try simp only [Act.put, List.setIfInBounds_toArray, List.set_cons_zero, List.set_cons_succ]
  refine wpAnyC_take (i := 3) (v := _) (some 11) rfl rfl (by kernel_rfl) (by kernel_rfl) (by kernel_rfl) (fun _ _ _ h => h) (by kernel_rfl) (by kernel_rfl) (by kernel_rfl) (by kernel_rfl) (Or.inl ⟨by rfl, fun w hSw => by (try dsimp only at hSw); obtain ⟨q1, q2, c0, c1, c2, c3, c4, _⟩ := hSw; have q3 := q1.cell; have q4 := q2.cell; go_simp; (try with_reducible rfl)⟩) hHeld ?_
  try simp only [Act.put, List.setIfInBounds_toArray, List.set_cons_zero, List.set_cons_succ]
  refine wpAnyC_pure (i := 4) (v := _) (some 12) rfl rfl (by kernel_rfl) (by kernel_rfl) (by kernel_rfl) (fun _ _ _ h => h) (by kernel_rfl) (by kernel_rfl) (by kernel_rfl) (Or.inl ⟨by rfl, fun w _ => by go_simp; (try with_reducible rfl)⟩) (fun _ => hHeld) ?_
  try simp only [Act.put, List.setIfInBounds_toArray, List.set_cons_zero, List.set_cons_succ]
  refine wpAnyC_pure (i := 5) (v := _) (some 13) rfl rfl (by kernel_rfl) (by kernel_rfl) (by kernel_rfl) (fun _ _ _ h => h) (by kernel_rfl) (by kernel_rfl) (by kernel_rfl) (Or.inl ⟨by rfl, fun w _ => by go_simp; (try with_reducible rfl)⟩) (fun _ => hHeld) ?_
  try simp only [Act.put, List.setIfInBounds_toArray, List.set_cons_zero, List.set_cons_succ]
  refine wpAnyC_take (i := 6) (v := _) (some 14) rfl rfl (by kernel_rfl) (by kernel_rfl) (by kernel_rfl) (fun _ _ _ h => h) (by kernel_rfl) (by kernel_rfl) (by kernel_rfl) (by kernel_rfl) (Or.inl ⟨by rfl, fun w hSw => by (try dsimp only at hSw); obtain ⟨q1, q2, c0, c1, c2, c3, c4, _⟩ := hSw; have q3 := q1.cell; have q4 := q2.cell; go_simp; (try with_reducible rfl)⟩) hHeld ?_
  try simp only [Act.put, List.setIfInBounds_toArray, List.set_cons_zero, List.set_cons_succ]
  refine wpAnyC_pure (i := 7) (v := _) (some 15) rfl rfl (by kernel_rfl) (by kernel_rfl) (by kernel_rfl) (fun _ _ _ h => h) (by kernel_rfl) (by kernel_rfl) (by kernel_rfl) (Or.inl ⟨by rfl, fun w _ => by go_simp; (try with_reducible rfl)⟩) (fun _ => hHeld) ?_
  try simp only [Act.put, List.setIfInBounds_toArray, List.set_cons_zero, List.set_cons_succ]
  refine wpAnyC_pure (i := 8) (v := _) (some 16) rfl rfl (by kernel_rfl) (by kernel_rfl) (by kernel_rfl) (fun _ _ _ h => h) (by kernel_rfl) (by kernel_rfl) (by kernel_rfl) (Or.inl ⟨by rfl, fun w _ => by go_simp; (try with_reducible rfl)⟩) (fun _ => hHeld) ?_
  try simp only [Act.put, List.setIfInBounds_toArray, List.set_cons_zero, List.set_cons_succ]
  refine wpAnyC_pure (i := 9) (v := _) (some 17) rfl rfl (by kernel_rfl) (by kernel_rfl) (by kernel_rfl) (fun _ _ _ h => h) (by kernel_rfl) (by kernel_rfl) (by kernel_rfl) (Or.inl ⟨by rfl, fun w _ => by go_simp; (try with_reducible rfl)⟩) (fun _ => hHeld) ?_
  try simp only [Act.put, List.setIfInBounds_toArray, List.set_cons_zero, List.set_cons_succ]
  refine wpAnyC_take (i := 10) (v := _) (some 18) rfl rfl (by kernel_rfl) (by kernel_rfl) (by kernel_rfl) (fun _ _ _ h => h) (by kernel_rfl) (by kernel_rfl) (by kernel_rfl) (by kernel_rfl) (Or.inl ⟨by rfl, fun w hSw => by (try dsimp only at hSw); obtain ⟨q1, q2, c0, c1, c2, c3, c4, _⟩ := hSw; have q3 := q1.cell; have q4 := q2.cell; go_simp; (try with_reducible rfl)⟩) hHeld ?_
  try simp only [Act.put, List.setIfInBounds_toArray, List.set_cons_zero, List.set_cons_succ]
  refine wpAnyC_take (i := 11) (v := _) (some 19) rfl rfl (by kernel_rfl) (by kernel_rfl) (by kernel_rfl) (fun _ _ _ h => h) (by kernel_rfl) (by kernel_rfl) (by kernel_rfl) (by kernel_rfl) (Or.inl ⟨by rfl, fun w hSw => by (try dsimp only at hSw); obtain ⟨q1, q2, c0, c1, c2, c3, c4, _⟩ := hSw; have q3 := q1.cell; have q4 := q2.cell; go_simp; (try with_reducible rfl)⟩) hHeld ?_
  try simp only [Act.put, List.setIfInBounds_toArray, List.set_cons_zero, List.set_cons_succ]
  refine wpAnyC_end (i := 12) rfl (by kernel_rfl) (by kernel_rfl) (fun Kc hKc => ?_)
  go_simp
  go_at_call 18
  refine (press2_ok s0 s1 s2 s3 _ es[k].stamp _ _ _ _ (h0.reads.below hHeld.2.2.2.2.2.2.2) hls).mono ?_
  rintro e w1 ⟨v0, rfl, ho0, hb1⟩
  obtain ⟨A0, c0, rfl, _⟩ := ho0.shape
  refine hKc.out _ _ ?_
  clear hKc Kc
  try simp only [Act.put, List.setIfInBounds_toArray, List.set_cons_zero, List.set_cons_succ]
  refine wpAnyC_pure (i := 13) (v := _) (some 21) rfl rfl (by kernel_rfl) (by kernel_rfl) (by kernel_rfl) (fun _ _ _ h => h) (by kernel_rfl) (by kernel_rfl) (by kernel_rfl) (Or.inl ⟨by rfl, fun w _ => by go_simp; (try with_reducible rfl)⟩) (fun h => (by simp at h)) ?_
  try simp only [Act.put, List.setIfInBounds_toArray, List.set_cons_zero, List.set_cons_succ]
  refine wpAnyC_pure (i := 14) (v := _) (some 22) rfl rfl (by kernel_rfl) (by kernel_rfl) (by kernel_rfl) (fun _ _ _ h => h) (by kernel_rfl) (by kernel_rfl) (by kernel_rfl) (Or.inl ⟨by rfl, fun w _ => by go_simp; (try with_reducible rfl)⟩) (fun h => (by simp at h)) ?_
  try simp only [Act.put, List.setIfInBounds_toArray, List.set_cons_zero, List.set_cons_succ]
  refine wpAnyC_pure (i := 15) (v := _) (some 6) rfl rfl (by kernel_rfl) (by kernel_rfl) (by kernel_rfl) (fun _ _ _ h => h) (by kernel_rfl) (by kernel_rfl) (by kernel_rfl) (Or.inl ⟨by rfl, fun w _ => by go_simp; (try with_reducible rfl)⟩) (fun h => (by simp at h)) ?_
  try simp only [Act.put, List.setIfInBounds_toArray, List.set_cons_zero, List.set_cons_succ]
  refine wpAnyC_pure (i := 16) (v := _) (some 7) rfl rfl (by kernel_rfl) (by kernel_rfl) (by kernel_rfl) (fun _ _ _ h => h) (by kernel_rfl) (by kernel_rfl) (by kernel_rfl) (Or.inl ⟨by rfl, fun w _ => by go_simp; (try with_reducible rfl)⟩) (fun h => (by simp at h)) ?_
  try simp only [Act.put, List.setIfInBounds_toArray, List.set_cons_zero, List.set_cons_succ]
  refine wpAnyC_done (by kernel_rfl) ?_ _
  go_wp2
  go_ret2
  exact ⟨_, rfl, ho0.lower hHeld.2.2.2.2.2.2.2.size, hHeld.2.2.2.2.2.2.2.trans (hb1.mono hHeld.2.2.2.2.2.2.2.size)⟩
end Go.Proofs.YtoljpnfohlcfaaaGreatDoor
