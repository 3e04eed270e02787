/- own: a row of rows of bytes, copied row by row. -/
import Derived.Test.YtoljpnfohlcfaaaGreatDoorClone
import Derived.Test.YtoljpnfohlcfaaaGreatDoorRegion
namespace Go.Proofs.YtoljpnfohlcfaaaGreatDoor
open Go.RowKit
set_option maxHeartbeats 1000000 in
theorem own_ok (s0 s1 s2 s3 : Value) (x0 x1 x2 x3 : List Int) (ch : Int) (w : World) (h0 : Reads u8 w s0 x0) (h1 : Reads u8 w s1 x1) (h2 : Reads u8 w s2 x2) (h3 : Reads u8 w s3 x3)
    (hl0 : x0.length ≤ 140737488351232) (hl1 : x1.length ≤ 140737488351232) (hl2 : x2.length ≤ 140737488351232) (hl3 : x3.length ≤ 140737488351232) :
    Calls Tryz.prog 12 #[.agg #[s0, s1, s2, s3, .int .i64 ch]] w fun e w' => ∃ v0 v1 v2 v3, e = .returned (.agg #[v0, v1, v2, v3, .int .i64 ch]) ∧
      OwnB w' w.heap.size v0 x0 ∧ OwnB w' w.heap.size v1 x1 ∧ OwnB w' w.heap.size v2 x2 ∧ OwnB w' w.heap.size v3 x3 ∧ Below w.heap.size w w' := by
  go_enter Tryz.func12, Tryz.ntmps12
  go_wp2
  refine wp_region_F 13 (fun w' => Blk w' w.heap.size #[s0, s1, s2, s3, .int .i64 ch] 34 ∧ Blk w' (w.heap.size + 1) #[.slice none 0 0, .slice none 0 0, .slice none 0 0, .slice none 0 0, .int .i64 0] 34 ∧ Below w.heap.size w w') (by kernel_rfl) ?hC (fun WR hHeld => ?_)
  case hC => exact ⟨(Blk.new _ _ _).alloc _, heap_alloc2_new _ _ _, by go_grown⟩
  have hWR : w.heap.size + 1 < WR.heap.size := hHeld.2.1.lt
  refine wpAnyC_pure (i := 0) (v := _) (some 3) rfl rfl (by kernel_rfl) (by kernel_rfl) (by kernel_rfl) (fun _ _ _ h => h) (by kernel_rfl) (by kernel_rfl) (by kernel_rfl) (Or.inl ⟨by rfl, fun w _ => by go_simp; (try with_reducible rfl)⟩) (fun _ => hHeld) ?_
  try simp only [Act.put, List.setIfInBounds_toArray, List.set_cons_zero, List.set_cons_succ]
  refine wpAnyC_take (i := 1) (v := _) (some 4) rfl rfl (by kernel_rfl) (by kernel_rfl) (by kernel_rfl) (fun _ _ _ h => h) (by kernel_rfl) (by kernel_rfl) (by kernel_rfl) (by kernel_rfl) (Or.inl ⟨by rfl, fun w hSw => by (try dsimp only at hSw); obtain ⟨q1, _⟩ := hSw; have q2 := q1.cell; go_simp; (try with_reducible rfl)⟩) hHeld ?_
  try simp only [Act.put, List.setIfInBounds_toArray, List.set_cons_zero, List.set_cons_succ]
  refine wpAnyC_pure (i := 3) (v := _) (some 6) rfl rfl (by kernel_rfl) (by kernel_rfl) (by kernel_rfl) (fun _ _ _ h => h) (by kernel_rfl) (by kernel_rfl) (by kernel_rfl) (Or.inl ⟨by rfl, fun w _ => by go_simp; (try with_reducible rfl)⟩) (fun _ => hHeld) ?_
  try simp only [Act.put, List.setIfInBounds_toArray, List.set_cons_zero, List.set_cons_succ]
  refine wpAnyC_take (i := 4) (v := _) (some 7) rfl rfl (by kernel_rfl) (by kernel_rfl) (by kernel_rfl) (fun _ _ _ h => h) (by kernel_rfl) (by kernel_rfl) (by kernel_rfl) (by kernel_rfl) (Or.inl ⟨by rfl, fun w hSw => by (try dsimp only at hSw); obtain ⟨q1, _⟩ := hSw; have q2 := q1.cell; go_simp; (try with_reducible rfl)⟩) hHeld ?_
  try simp only [Act.put, List.setIfInBounds_toArray, List.set_cons_zero, List.set_cons_succ]
  refine wpAnyC_pure (i := 6) (v := _) (some 9) rfl rfl (by kernel_rfl) (by kernel_rfl) (by kernel_rfl) (fun _ _ _ h => h) (by kernel_rfl) (by kernel_rfl) (by kernel_rfl) (Or.inl ⟨by rfl, fun w _ => by go_simp; (try with_reducible rfl)⟩) (fun _ => hHeld) ?_
  try simp only [Act.put, List.setIfInBounds_toArray, List.set_cons_zero, List.set_cons_succ]
  refine wpAnyC_take (i := 7) (v := _) (some 10) rfl rfl (by kernel_rfl) (by kernel_rfl) (by kernel_rfl) (fun _ _ _ h => h) (by kernel_rfl) (by kernel_rfl) (by kernel_rfl) (by kernel_rfl) (Or.inl ⟨by rfl, fun w hSw => by (try dsimp only at hSw); obtain ⟨q1, _⟩ := hSw; have q2 := q1.cell; go_simp; (try with_reducible rfl)⟩) hHeld ?_
  try simp only [Act.put, List.setIfInBounds_toArray, List.set_cons_zero, List.set_cons_succ]
  refine wpAnyC_pure (i := 9) (v := _) (some 12) rfl rfl (by kernel_rfl) (by kernel_rfl) (by kernel_rfl) (fun _ _ _ h => h) (by kernel_rfl) (by kernel_rfl) (by kernel_rfl) (Or.inl ⟨by rfl, fun w _ => by go_simp; (try with_reducible rfl)⟩) (fun _ => hHeld) ?_
  try simp only [Act.put, List.setIfInBounds_toArray, List.set_cons_zero, List.set_cons_succ]
  refine wpAnyC_take (i := 10) (v := _) (some 13) rfl rfl (by kernel_rfl) (by kernel_rfl) (by kernel_rfl) (fun _ _ _ h => h) (by kernel_rfl) (by kernel_rfl) (by kernel_rfl) (by kernel_rfl) (Or.inl ⟨by rfl, fun w hSw => by (try dsimp only at hSw); obtain ⟨q1, _⟩ := hSw; have q2 := q1.cell; go_simp; (try with_reducible rfl)⟩) hHeld ?_
  try simp only [Act.put, List.setIfInBounds_toArray, List.set_cons_zero, List.set_cons_succ]
  refine wpAnyC_do (i := 2) rfl (by kernel_rfl) (fun Kc hKc => ?_)
  go_simp
  go_at_call 11
  refine (clone_ok s0 x0 _ (h0.below hHeld.2.2) hl0).mono ?_
  rintro e w1 ⟨v0, rfl, ho0, hb0⟩
  obtain ⟨A0, c0, rfl, _⟩ := ho0.shape
  refine hKc.out _ _ ?hC (fun hHeld => ?_)
  case hC => exact ⟨hHeld.1.below hb0, hHeld.2.1.below hb0, hHeld.2.2.trans (hb0.mono (hHeld.2.2.size))⟩
  clear hKc Kc
  try simp only [Act.put, List.setIfInBounds_toArray, List.set_cons_zero, List.set_cons_succ]
  refine wpAnyC_pure (i := 12) (v := _) (some 15) rfl rfl (by kernel_rfl) (by kernel_rfl) (by kernel_rfl) (fun _ _ _ h => h) (by kernel_rfl) (by kernel_rfl) (by kernel_rfl) (Or.inl ⟨by rfl, fun w _ => by go_simp; (try with_reducible rfl)⟩) (fun _ => hHeld) ?_
  try simp only [Act.put, List.setIfInBounds_toArray, List.set_cons_zero, List.set_cons_succ]
  refine wpAnyC_do (i := 5) rfl (by kernel_rfl) (fun Kc hKc => ?_)
  go_simp
  go_at_call 11
  refine (clone_ok s1 x1 _ (h1.below hHeld.2.2) hl1).mono ?_
  rintro e w2 ⟨v1, rfl, ho1, hb1⟩
  obtain ⟨A1, c1, rfl, _⟩ := ho1.shape
  refine hKc.out _ _ ?hC (fun hHeld => ?_)
  case hC => exact ⟨hHeld.1.below hb1, hHeld.2.1.below hb1, hHeld.2.2.trans (hb1.mono (hHeld.2.2.size))⟩
  clear hKc Kc
  try simp only [Act.put, List.setIfInBounds_toArray, List.set_cons_zero, List.set_cons_succ]
  refine wpAnyC_do (i := 8) rfl (by kernel_rfl) (fun Kc hKc => ?_)
  go_simp
  go_at_call 11
  refine (clone_ok s2 x2 _ (h2.below hHeld.2.2) hl2).mono ?_
  rintro e w3 ⟨v2, rfl, ho2, hb2⟩
  obtain ⟨A2, c2, rfl, _⟩ := ho2.shape
  refine hKc.out _ _ ?hC (fun hHeld => ?_)
  case hC => exact ⟨hHeld.1.below hb2, hHeld.2.1.below hb2, hHeld.2.2.trans (hb2.mono (hHeld.2.2.size))⟩
  clear hKc Kc
  try simp only [Act.put, List.setIfInBounds_toArray, List.set_cons_zero, List.set_cons_succ]
  refine wpAnyC_do (i := 11) rfl (by kernel_rfl) (fun Kc hKc => ?_)
  go_simp
  go_at_call 11
  refine (clone_ok s3 x3 _ (h3.below hHeld.2.2) hl3).mono ?_
  rintro e w4 ⟨v3, rfl, ho3, hb3⟩
  obtain ⟨A3, c3, rfl, _⟩ := ho3.shape
  refine hKc.out _ _ ?hC (fun hHeld => ?_)
  case hC => exact ⟨hHeld.1.below hb3, hHeld.2.1.below hb3, hHeld.2.2.trans (hb3.mono (hHeld.2.2.size))⟩
  clear hKc Kc
  try simp only [Act.put, List.setIfInBounds_toArray, List.set_cons_zero, List.set_cons_succ]
  obtain ⟨hB0, hB1, hBel⟩ := hHeld
  have q0 := hB0.cell
  have z0 := hB0.free
  refine wpAnyC_end (i := 13) rfl (by kernel_rfl) (by kernel_rfl) (fun Kc hKc => ?_)
  go_simp
  refine hKc.out _ _ ?_
  clear hKc Kc
  try simp only [Act.put, List.setIfInBounds_toArray, List.set_cons_zero, List.set_cons_succ]
  refine wpAnyC_pure (i := 14) (v := _) (some 16) rfl rfl (by kernel_rfl) (by kernel_rfl) (by kernel_rfl) (fun _ _ _ h => h) (by kernel_rfl) (by kernel_rfl) (by kernel_rfl) (Or.inl ⟨by rfl, fun w _ => by go_simp; (try with_reducible rfl)⟩) (fun h => (by simp at h)) ?_
  try simp only [Act.put, List.setIfInBounds_toArray, List.set_cons_zero, List.set_cons_succ]
  refine wpAnyC_end (i := 15) rfl (by kernel_rfl) (by kernel_rfl) (fun Kc hKc => ?_)
  go_simp
  refine hKc.out _ _ ?_
  clear hKc Kc
  try simp only [Act.put, List.setIfInBounds_toArray, List.set_cons_zero, List.set_cons_succ]
  refine wpAnyC_pure (i := 16) (v := _) (some 17) rfl rfl (by kernel_rfl) (by kernel_rfl) (by kernel_rfl) (fun _ _ _ h => h) (by kernel_rfl) (by kernel_rfl) (by kernel_rfl) (Or.inl ⟨by rfl, fun w _ => by go_simp; (try with_reducible rfl)⟩) (fun h => (by simp at h)) ?_
  try simp only [Act.put, List.setIfInBounds_toArray, List.set_cons_zero, List.set_cons_succ]
  refine wpAnyC_end (i := 17) rfl (by kernel_rfl) (by kernel_rfl) (fun Kc hKc => ?_)
  go_simp
  refine hKc.out _ _ ?_
  clear hKc Kc
  try simp only [Act.put, List.setIfInBounds_toArray, List.set_cons_zero, List.set_cons_succ]
  refine wpAnyC_pure (i := 18) (v := _) (some 18) rfl rfl (by kernel_rfl) (by kernel_rfl) (by kernel_rfl) (fun _ _ _ h => h) (by kernel_rfl) (by kernel_rfl) (by kernel_rfl) (Or.inl ⟨by rfl, fun w _ => by go_simp; (try with_reducible rfl)⟩) (fun h => (by simp at h)) ?_
  try simp only [Act.put, List.setIfInBounds_toArray, List.set_cons_zero, List.set_cons_succ]
  refine wpAnyC_end (i := 19) rfl (by kernel_rfl) (by kernel_rfl) (fun Kc hKc => ?_)
  go_simp
  refine hKc.out _ _ ?_
  clear hKc Kc
  try simp only [Act.put, List.setIfInBounds_toArray, List.set_cons_zero, List.set_cons_succ]
  refine wpAnyC_done (by kernel_rfl) ?_ _
  refine forget (fun W => Blk W w.heap.size #[.slice A0 x0.length c0, .slice A1 x1.length c1, .slice A2 x2.length c2, .slice A3 x3.length c3, .int .i64 ch] 34 ∧ Blk W (w.heap.size + 1) #[.slice none 0 0, .slice none 0 0, .slice none 0 0, .slice none 0 0, .int .i64 0] 34 ∧ Turn (fun k => k = w.heap.size) w4 W) ?_ (fun W5 hW5 => ?_)
  · refine ⟨(((hB0.set 0 _).set 1 _).set 2 _).set 3 _, ?_, ?_⟩
    · exact (((hB1.far (by simp) _).far (by simp) _).far (by simp) _).far (by simp) _
    · exact ((((Turn.refl (fun k => k = w.heap.size) _).setCell (.inl rfl) _).setCell (.inl rfl) _).setCell (.inl rfl) _).setCell (.inl rfl) _
  obtain ⟨p0, p1, p2⟩ := hW5
  clear q0 z0 hB0 hB1
  have q0 := p0.cell
  have q1 := p1.cell
  have z1 := p1.free
  go_wp2
  clear q0 q1 z1
  refine forget (fun W => Blk W (w.heap.size + 1) #[.slice A0 x0.length c0, .slice A1 x1.length c1, .slice A2 x2.length c2, .slice A3 x3.length c3, .int .i64 ch] 34 ∧ Turn (fun k => k = w.heap.size ∨ k = w.heap.size + 1) w4 W) ?_ (fun W6 hW6 => ?_)
  · refine ⟨((((p1.set 0 _).set 1 _).set 2 _).set 3 _).set 4 _, ?_⟩
    have p3 : Turn (fun k => k = w.heap.size ∨ k = w.heap.size + 1) w4 W5 := p2.mono fun _ _ h => .inl h
    exact ((((p3.setCell (.inl (.inr rfl)) _).setCell (.inl (.inr rfl)) _).setCell (.inl (.inr rfl)) _).setCell (.inl (.inr rfl)) _).setCell (.inl (.inr rfl)) _
  obtain ⟨r1, r2⟩ := hW6
  have hS : ∀ k, (k = w.heap.size ∨ k = w.heap.size + 1) → k < WR.heap.size := fun k h => by omega
  have s1 := hb0.size
  have s2 := hb1.size
  have s3 := hb2.size
  refine bodyPost_ret (results_cell_row rfl _ _ (w.heap.size + 1) 34 _ _ _ rfl r1 Tryz.underlying34 rfl (by kernel_rfl)) rfl ⟨_, _, _, _, rfl, ?_, ?_, ?_, ?_, ?_⟩
  · exact ((((ho0.below hb1).below hb2).below hb3).turnNew r2 hS).lower (by omega)
  · exact (((ho1.below hb2).below hb3).turnNew r2 fun k h => by have := hS k h; omega).lower (by omega)
  · exact ((ho2.below hb3).turnNew r2 fun k h => by have := hS k h; omega).lower (by omega)
  · exact (ho3.turnNew r2 fun k h => by have := hS k h; omega).lower (by omega)
  · exact hBel.trans (r2.below hBel.size fun k h => by omega)
