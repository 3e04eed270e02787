/- The first two answers of a mirror with one edition and one fault that loses the first answer. -/
import Derived.Test.YtoljpnfohlcfaaaGreatDoorMAns
namespace Go.Proofs.YtoljpnfohlcfaaaGreatDoor
open Go.RowKit
set_option maxRecDepth 100000 in
set_option maxHeartbeats 2000000 in
theorem answer_0 (B p : Nat) (rv ev fv : Value) (x : Edn) (ve pl f2 : Int) (w : World) (hM : Blk w p #[rv, ev, fv, .int .i64 0] 49) (hO : Own ednR 34 w B (tyO [5]) ev [x]) (hF : Own fltR 45 w B (tyO []) fv [⟨1, 0, f2⟩]) (hls : x.stamp.length ≤ 140737488351232) :
    Calls Tryz.prog 7 #[.pointer (some ⟨p, 0, none⟩), .agg #[.int .i64 2, .int .i64 ve, .int .i64 pl]] w fun e w' => e = .returned (.tuple #[.slice none 0 0, .int .i64 0]) ∧ Blk w' p #[rv, ev, fv, .int .i64 1] 49 ∧ Turn (fun k => k = p) w w' := by
  obtain ⟨EA, ec, rfl⟩ := hO.shape_n 1 rfl
  obtain ⟨FA, fc, rfl⟩ := hF.shape_n 1 rfl
  have q := hM.cell
  have hlt := hM.lt
  go_enter Tryz.func7, Tryz.ntmps7
  go_wp2
  clear q
  refine wp_region_F 11 (fun w' => Blk w' p #[rv, .slice EA 1 ec, .slice FA 1 fc, .int .i64 0] 49 ∧ Blk w' w.heap.size #[.int .i64 2, .int .i64 ve, .int .i64 pl] 38 ∧ Own ednR 34 w' B (tyO [5]) (.slice EA 1 ec) [x] ∧ Own fltR 45 w' B (tyO []) (.slice FA 1 fc) [⟨1, 0, f2⟩] ∧ Below w.heap.size w w') (by kernel_rfl) ?hC (fun WR hHeld => ?_)
  case hC => exact ⟨hM.alloc _, Blk.new _ _ _, hO.alloc _, hF.alloc _, by go_grown⟩
  refine wpAnyC_pure (i := 0) (v := _) (some 22) rfl rfl (by kernel_rfl) (by kernel_rfl) (by kernel_rfl) (fun _ _ _ h => h) (by kernel_rfl) (by kernel_rfl) (by kernel_rfl) (Or.inl ⟨by rfl, fun w _ => by go_simp; (try with_reducible rfl)⟩) (fun _ => hHeld) ?_
  try simp only [Act.put, List.setIfInBounds_toArray, List.set_cons_zero, List.set_cons_succ]
  refine wpAnyC_pure (i := 1) (v := _) (some 23) rfl rfl (by kernel_rfl) (by kernel_rfl) (by kernel_rfl) (fun _ _ _ h => h) (by kernel_rfl) (by kernel_rfl) (by kernel_rfl) (Or.inl ⟨by rfl, fun w _ => by go_simp; (try with_reducible rfl)⟩) (fun _ => hHeld) ?_
  try simp only [Act.put, List.setIfInBounds_toArray, List.set_cons_zero, List.set_cons_succ]
  refine wpAnyC_pure (i := 2) (v := _) (some 24) rfl rfl (by kernel_rfl) (by kernel_rfl) (by kernel_rfl) (fun _ _ _ h => h) (by kernel_rfl) (by kernel_rfl) (by kernel_rfl) (Or.inl ⟨by rfl, fun w _ => by go_simp; (try with_reducible rfl)⟩) (fun _ => hHeld) ?_
  try simp only [Act.put, List.setIfInBounds_toArray, List.set_cons_zero, List.set_cons_succ]
  refine wpAnyC_pure (i := 3) (v := _) (some 25) rfl rfl (by kernel_rfl) (by kernel_rfl) (by kernel_rfl) (fun _ _ _ h => h) (by kernel_rfl) (by kernel_rfl) (by kernel_rfl) (Or.inl ⟨by rfl, fun w _ => by go_simp; (try with_reducible rfl)⟩) (fun _ => hHeld) ?_
  try simp only [Act.put, List.setIfInBounds_toArray, List.set_cons_zero, List.set_cons_succ]
  refine wpAnyC_pure (i := 4) (v := _) (some 26) rfl rfl (by kernel_rfl) (by kernel_rfl) (by kernel_rfl) (fun _ _ _ h => h) (by kernel_rfl) (by kernel_rfl) (by kernel_rfl) (Or.inl ⟨by rfl, fun w _ => by go_simp; (try with_reducible rfl)⟩) (fun _ => hHeld) ?_
  try simp only [Act.put, List.setIfInBounds_toArray, List.set_cons_zero, List.set_cons_succ]
  refine wpAnyC_pure (i := 5) (v := _) (some 27) rfl rfl (by kernel_rfl) (by kernel_rfl) (by kernel_rfl) (fun _ _ _ h => h) (by kernel_rfl) (by kernel_rfl) (by kernel_rfl) (Or.inl ⟨by rfl, fun w _ => by go_simp; (try with_reducible rfl)⟩) (fun _ => hHeld) ?_
  try simp only [Act.put, List.setIfInBounds_toArray, List.set_cons_zero, List.set_cons_succ]
  refine wpAnyC_pure (i := 6) (v := _) (some 28) rfl rfl (by kernel_rfl) (by kernel_rfl) (by kernel_rfl) (fun _ _ _ h => h) (by kernel_rfl) (by kernel_rfl) (by kernel_rfl) (Or.inl ⟨by rfl, fun w _ => by go_simp; (try with_reducible rfl)⟩) (fun _ => hHeld) ?_
  try simp only [Act.put, List.setIfInBounds_toArray, List.set_cons_zero, List.set_cons_succ]
  refine wpAnyC_take (i := 7) (v := _) (some 29) rfl rfl (by kernel_rfl) (by kernel_rfl) (by kernel_rfl) (fun _ _ _ h => h) (by kernel_rfl) (by kernel_rfl) (by kernel_rfl) (by kernel_rfl) (Or.inl ⟨by rfl, fun w hSw => by (try dsimp only at hSw); obtain ⟨q1, q2, _⟩ := hSw; have q3 := q1.cell; have q4 := q2.cell; go_simp; (try with_reducible rfl)⟩) hHeld ?_
  try simp only [Act.put, List.setIfInBounds_toArray, List.set_cons_zero, List.set_cons_succ]
  refine wpAnyC_pure (i := 8) (v := _) (some 30) rfl rfl (by kernel_rfl) (by kernel_rfl) (by kernel_rfl) (fun _ _ _ h => h) (by kernel_rfl) (by kernel_rfl) (by kernel_rfl) (Or.inl ⟨by rfl, fun w _ => by go_simp; (try with_reducible rfl)⟩) (fun _ => hHeld) ?_
  try simp only [Act.put, List.setIfInBounds_toArray, List.set_cons_zero, List.set_cons_succ]
  refine wpAnyC_pure (i := 9) (v := _) (some 31) rfl rfl (by kernel_rfl) (by kernel_rfl) (by kernel_rfl) (fun _ _ _ h => h) (by kernel_rfl) (by kernel_rfl) (by kernel_rfl) (Or.inl ⟨by rfl, fun w _ => by go_simp; (try with_reducible rfl)⟩) (fun _ => hHeld) ?_
  try simp only [Act.put, List.setIfInBounds_toArray, List.set_cons_zero, List.set_cons_succ]
  refine wpAnyC_take (i := 10) (v := _) (some 32) rfl rfl (by kernel_rfl) (by kernel_rfl) (by kernel_rfl) (fun _ _ _ h => h) (by kernel_rfl) (by kernel_rfl) (by kernel_rfl) (by kernel_rfl) (Or.inl ⟨by rfl, fun w hSw => by (try dsimp only at hSw); obtain ⟨q1, q2, _⟩ := hSw; have q3 := q1.cell; have q4 := q2.cell; go_simp; (try with_reducible rfl)⟩) hHeld ?_
  try simp only [Act.put, List.setIfInBounds_toArray, List.set_cons_zero, List.set_cons_succ]
  refine wpAnyC_end (i := 11) rfl (by kernel_rfl) (by kernel_rfl) (fun Kc hKc => ?_)
  go_simp
  go_at_call 14
  refine (by2_ok B p 0 rv _ _ [x] 0 ve pl _ hHeld.1 hHeld.2.2.1 (by simp) hls).mono ?_
  rintro e w1 ⟨v0, rfl, ho0, hb1⟩
  replace ho0 : OwnB w1 _ v0 x.stamp := ho0
  obtain ⟨A0, c0, rfl, _⟩ := ho0.shape
  refine hKc.out _ _ ?_
  clear hKc Kc
  try simp only [Act.put, List.setIfInBounds_toArray, List.set_cons_zero, List.set_cons_succ]
  refine wpAnyC_pure (i := 12) (v := _) (some 21) rfl rfl (by kernel_rfl) (by kernel_rfl) (by kernel_rfl) (fun _ _ _ h => h) (by kernel_rfl) (by kernel_rfl) (by kernel_rfl) (Or.inl ⟨by rfl, fun w _ => by go_simp; (try with_reducible rfl)⟩) (fun h => (by simp at h)) ?_
  try simp only [Act.put, List.setIfInBounds_toArray, List.set_cons_zero, List.set_cons_succ]
  refine wpAnyC_pure (i := 13) (v := _) (some 34) rfl rfl (by kernel_rfl) (by kernel_rfl) (by kernel_rfl) (fun _ _ _ h => h) (by kernel_rfl) (by kernel_rfl) (by kernel_rfl) (Or.inl ⟨by rfl, fun w _ => by go_simp; (try with_reducible rfl)⟩) (fun h => (by simp at h)) ?_
  try simp only [Act.put, List.setIfInBounds_toArray, List.set_cons_zero, List.set_cons_succ]
  refine wpAnyC_pure (i := 14) (v := _) (some 35) rfl rfl (by kernel_rfl) (by kernel_rfl) (by kernel_rfl) (fun _ _ _ h => h) (by kernel_rfl) (by kernel_rfl) (by kernel_rfl) (Or.inl ⟨by rfl, fun w _ => by go_simp; (try with_reducible rfl)⟩) (fun h => (by simp at h)) ?_
  try simp only [Act.put, List.setIfInBounds_toArray, List.set_cons_zero, List.set_cons_succ]
  refine wpAnyC_pure (i := 15) (v := _) (some 6) rfl rfl (by kernel_rfl) (by kernel_rfl) (by kernel_rfl) (fun _ _ _ h => h) (by kernel_rfl) (by kernel_rfl) (by kernel_rfl) (Or.inl ⟨by rfl, fun w _ => by go_simp; (try with_reducible rfl)⟩) (fun h => (by simp at h)) ?_
  try simp only [Act.put, List.setIfInBounds_toArray, List.set_cons_zero, List.set_cons_succ]
  refine wpAnyC_pure (i := 16) (v := _) (some 7) rfl rfl (by kernel_rfl) (by kernel_rfl) (by kernel_rfl) (fun _ _ _ h => h) (by kernel_rfl) (by kernel_rfl) (by kernel_rfl) (Or.inl ⟨by rfl, fun w _ => by go_simp; (try with_reducible rfl)⟩) (fun h => (by simp at h)) ?_
  try simp only [Act.put, List.setIfInBounds_toArray, List.set_cons_zero, List.set_cons_succ]
  refine wpAnyC_done (by kernel_rfl) ?_ _
  have t1 := hHeld.1.below hb1
  have t2 := hHeld.2.2.1.below hb1
  have t3 := hHeld.2.1.below hb1
  have t4 := hHeld.2.2.2.1.below hb1
  have t5 : Below w.heap.size w w1 := hHeld.2.2.2.2.trans (hb1.mono hHeld.2.2.2.2.size)
  replace ho0 := ho0.lower (B' := w.heap.size) hHeld.2.2.2.2.size
  clear hHeld hb1 hO hF hM
  have q := t1.cell
  obtain ⟨gf, off, c, cs, heq, hKe, _, hcell⟩ := sv_at t4.reads 0 (by simp)
  obtain ⟨rfl, _⟩ := fltR_elim hKe
  injection heq with e1 e2 e3
  subst e1 e3
  clear e2
  have hc0 : w1.cell? ⟨gf, off, none⟩ = some (.int .i64 1) := by simpa [fltR, Rep.iso, Rep.pair, Rep.int, Rep.scalar] using hcell 0 _ rfl
  have hc1 : w1.cell? ⟨gf, off + 1, none⟩ = some (.int .i64 0) := by simpa [fltR, Rep.iso, Rep.pair, Rep.int, Rep.scalar] using hcell 1 _ rfl
  have hc2 : w1.cell? ⟨gf, off + 2, none⟩ = some (.int .i64 f2) := by simpa [fltR, Rep.iso, Rep.pair, Rep.int, Rep.scalar] using hcell 2 _ rfl
  clear hcell hKe
  go_wp2
  refine wp_loop_rounds 2 ?_
  rw [rounds_succ]
  go_wp2
  clear hc0 hc1 hc2 q
  refine wp_region_F 6 (fun w' => Blk w' p #[rv, .slice EA 1 ec, .slice (some ⟨gf, off, none⟩) 1 fc, .int .i64 0] 49 ∧ Blk w' w1.heap.size #[.int .i64 1, .int .i64 0, .int .i64 f2] 45 ∧ Own ednR 34 w' B (tyO [5]) (.slice EA 1 ec) [x] ∧ Blk w' w.heap.size #[.int .i64 2, .int .i64 ve, .int .i64 pl] 38 ∧ Own fltR 45 w' B (tyO []) (.slice (some ⟨gf, off, none⟩) 1 fc) [⟨1, 0, f2⟩] ∧ Below w1.heap.size w1 w') (by kernel_rfl) ?hC (fun WR hHeld => ?_)
  case hC => exact ⟨t1.alloc _, Blk.new _ _ _, t2.alloc _, t3.alloc _, t4.alloc _, by go_grown⟩
  refine wpAnyC_pure (i := 0) (v := _) (some 48) rfl rfl (by kernel_rfl) (by kernel_rfl) (by kernel_rfl) (fun _ _ _ h => h) (by kernel_rfl) (by kernel_rfl) (by kernel_rfl) (Or.inl ⟨by rfl, fun w _ => by go_simp; (try with_reducible rfl)⟩) (fun _ => hHeld) ?_
  try simp only [Act.put, List.setIfInBounds_toArray, List.set_cons_zero, List.set_cons_succ]
  refine wpAnyC_take (i := 1) (v := _) (some 49) rfl rfl (by kernel_rfl) (by kernel_rfl) (by kernel_rfl) (fun _ _ _ h => h) (by kernel_rfl) (by kernel_rfl) (by kernel_rfl) (by kernel_rfl) (Or.inl ⟨by rfl, fun w hSw => by (try dsimp only at hSw); obtain ⟨q1, q2, _⟩ := hSw; have q3 := q1.cell; have q4 := q2.cell; go_simp; (try with_reducible rfl)⟩) hHeld ?_
  try simp only [Act.put, List.setIfInBounds_toArray, List.set_cons_zero, List.set_cons_succ]
  refine wpAnyC_pure (i := 2) (v := _) (some 50) rfl rfl (by kernel_rfl) (by kernel_rfl) (by kernel_rfl) (fun _ _ _ h => h) (by kernel_rfl) (by kernel_rfl) (by kernel_rfl) (Or.inl ⟨by rfl, fun w _ => by go_simp; (try with_reducible rfl)⟩) (fun _ => hHeld) ?_
  try simp only [Act.put, List.setIfInBounds_toArray, List.set_cons_zero, List.set_cons_succ]
  refine wpAnyC_pure (i := 3) (v := _) (some 51) rfl rfl (by kernel_rfl) (by kernel_rfl) (by kernel_rfl) (fun _ _ _ h => h) (by kernel_rfl) (by kernel_rfl) (by kernel_rfl) (Or.inl ⟨by rfl, fun w _ => by go_simp; (try with_reducible rfl)⟩) (fun _ => hHeld) ?_
  try simp only [Act.put, List.setIfInBounds_toArray, List.set_cons_zero, List.set_cons_succ]
  refine wpAnyC_pure (i := 4) (v := _) (some 52) rfl rfl (by kernel_rfl) (by kernel_rfl) (by kernel_rfl) (fun _ _ _ h => h) (by kernel_rfl) (by kernel_rfl) (by kernel_rfl) (Or.inl ⟨by rfl, fun w _ => by go_simp; (try with_reducible rfl)⟩) (fun _ => hHeld) ?_
  try simp only [Act.put, List.setIfInBounds_toArray, List.set_cons_zero, List.set_cons_succ]
  refine wpAnyC_take (i := 5) (v := _) (some 53) rfl rfl (by kernel_rfl) (by kernel_rfl) (by kernel_rfl) (fun _ _ _ h => h) (by kernel_rfl) (by kernel_rfl) (by kernel_rfl) (by kernel_rfl) (Or.inl ⟨by rfl, fun w hSw => by (try dsimp only at hSw); obtain ⟨q1, q2, _⟩ := hSw; have q3 := q1.cell; have q4 := q2.cell; go_simp; (try with_reducible rfl)⟩) hHeld ?_
  try simp only [Act.put, List.setIfInBounds_toArray, List.set_cons_zero, List.set_cons_succ]
  refine wpAnyC_end (i := 6) rfl (by kernel_rfl) (by kernel_rfl) (fun Kc hKc => ?_)
  go_simp
  refine hKc.out _ _ ?_
  clear hKc Kc
  try simp only [Act.put, List.setIfInBounds_toArray, List.set_cons_zero, List.set_cons_succ]
  refine wpAnyC_done (by kernel_rfl) ?_ _
  obtain ⟨u1, u2, u3, u4, u5, u6⟩ := hHeld
  go_wp2
  refine wp_region_F 6 (fun w' => Blk w' w1.heap.size #[.int .i64 1, .int .i64 0, .int .i64 f2] 45 ∧ Blk w' w.heap.size #[.int .i64 2, .int .i64 ve, .int .i64 pl] 38 ∧ Blk w' p #[rv, .slice EA 1 ec, .slice (some ⟨gf, off, none⟩) 1 fc, .int .i64 0] 49 ∧ Own ednR 34 w' B (tyO [5]) (.slice EA 1 ec) [x] ∧ Own fltR 45 w' B (tyO []) (.slice (some ⟨gf, off, none⟩) 1 fc) [⟨1, 0, f2⟩] ∧ Below w1.heap.size w1 w') (by kernel_rfl) ?hC (fun WR hHeld => ?_)
  case hC => exact ⟨u2, u4, u1, u3, u5, u6.drew⟩
  refine wpAnyC_pure (i := 0) (v := _) (some 55) rfl rfl (by kernel_rfl) (by kernel_rfl) (by kernel_rfl) (fun _ _ _ h => h) (by kernel_rfl) (by kernel_rfl) (by kernel_rfl) (Or.inl ⟨by rfl, fun w _ => by go_simp; (try with_reducible rfl)⟩) (fun _ => hHeld) ?_
  try simp only [Act.put, List.setIfInBounds_toArray, List.set_cons_zero, List.set_cons_succ]
  refine wpAnyC_pure (i := 1) (v := _) (some 56) rfl rfl (by kernel_rfl) (by kernel_rfl) (by kernel_rfl) (fun _ _ _ h => h) (by kernel_rfl) (by kernel_rfl) (by kernel_rfl) (Or.inl ⟨by rfl, fun w _ => by go_simp; (try with_reducible rfl)⟩) (fun _ => hHeld) ?_
  try simp only [Act.put, List.setIfInBounds_toArray, List.set_cons_zero, List.set_cons_succ]
  refine wpAnyC_pure (i := 2) (v := _) (some 57) rfl rfl (by kernel_rfl) (by kernel_rfl) (by kernel_rfl) (fun _ _ _ h => h) (by kernel_rfl) (by kernel_rfl) (by kernel_rfl) (Or.inl ⟨by rfl, fun w _ => by go_simp; (try with_reducible rfl)⟩) (fun _ => hHeld) ?_
  try simp only [Act.put, List.setIfInBounds_toArray, List.set_cons_zero, List.set_cons_succ]
  refine wpAnyC_pure (i := 3) (v := _) (some 58) rfl rfl (by kernel_rfl) (by kernel_rfl) (by kernel_rfl) (fun _ _ _ h => h) (by kernel_rfl) (by kernel_rfl) (by kernel_rfl) (Or.inl ⟨by rfl, fun w _ => by go_simp; (try with_reducible rfl)⟩) (fun _ => hHeld) ?_
  try simp only [Act.put, List.setIfInBounds_toArray, List.set_cons_zero, List.set_cons_succ]
  refine wpAnyC_take (i := 4) (v := _) (some 59) rfl rfl (by kernel_rfl) (by kernel_rfl) (by kernel_rfl) (fun _ _ _ h => h) (by kernel_rfl) (by kernel_rfl) (by kernel_rfl) (by kernel_rfl) (Or.inl ⟨by rfl, fun w hSw => by (try dsimp only at hSw); obtain ⟨q1, q2, q5⟩ := hSw; have q3 := q1.cell; have q4 := q2.cell; go_simp; (try with_reducible rfl)⟩) hHeld ?_
  try simp only [Act.put, List.setIfInBounds_toArray, List.set_cons_zero, List.set_cons_succ]
  refine wpAnyC_take (i := 5) (v := _) (some 60) rfl rfl (by kernel_rfl) (by kernel_rfl) (by kernel_rfl) (fun _ _ _ h => h) (by kernel_rfl) (by kernel_rfl) (by kernel_rfl) (by kernel_rfl) (Or.inl ⟨by rfl, fun w hSw => by (try dsimp only at hSw); obtain ⟨q1, q2, q5⟩ := hSw; have q3 := q1.cell; have q4 := q2.cell; go_simp; (try with_reducible rfl)⟩) hHeld ?_
  try simp only [Act.put, List.setIfInBounds_toArray, List.set_cons_zero, List.set_cons_succ]
  refine wpAnyC_end (i := 6) rfl (by kernel_rfl) (by kernel_rfl) (fun Kc hKc => ?_)
  go_simp
  go_at_call 15
  refine (spoilt_lost (.slice none 0 0) _ (.int .i64 pl) (.slice none 0 0) 0 f2 _ (.int .i64 2) (.int .i64 ve) ⟨p, 0, none⟩).mono ?_
  rintro e w2 ⟨rfl, hb2⟩
  refine hKc.out _ _ ?_
  clear hKc Kc
  try simp only [Act.put, List.setIfInBounds_toArray, List.set_cons_zero, List.set_cons_succ]
  refine wpAnyC_pure (i := 7) (v := _) (some 6) rfl rfl (by kernel_rfl) (by kernel_rfl) (by kernel_rfl) (fun _ _ _ h => h) (by kernel_rfl) (by kernel_rfl) (by kernel_rfl) (Or.inl ⟨by rfl, fun w _ => by go_simp; (try with_reducible rfl)⟩) (fun h => (by simp at h)) ?_
  try simp only [Act.put, List.setIfInBounds_toArray, List.set_cons_zero, List.set_cons_succ]
  refine wpAnyC_done (by kernel_rfl) ?_ _
  have y1 := hHeld.2.2.1.below hb2
  have y2 := hHeld.2.2.2.2.2.trans (hb2.mono hHeld.2.2.2.2.2.size)
  have q := y1.cell
  have z := y1.free
  go_wp2
  rw [rounds_succ]
  go_wp2
  go_ret2
  exact ⟨rfl, y1.set 3 _, Turn.setCell (S := fun k => k = p) (below_turnAll (t5.trans (y2.mono t5.size))) (.inl rfl) _⟩

set_option maxRecDepth 100000 in
set_option maxHeartbeats 2000000 in
theorem answer_1 (B p : Nat) (rv ev fv : Value) (x : Edn) (ve pl f2 : Int) (w : World) (hM : Blk w p #[rv, ev, fv, .int .i64 1] 49) (hO : Own ednR 34 w B (tyO [5]) ev [x]) (hF : Own fltR 45 w B (tyO []) fv [⟨1, 0, f2⟩]) (hls : x.stamp.length ≤ 140737488351232) :
    Calls Tryz.prog 7 #[.pointer (some ⟨p, 0, none⟩), .agg #[.int .i64 2, .int .i64 ve, .int .i64 pl]] w fun e w' => (∃ v', e = .returned (.tuple #[v', .int .i64 0]) ∧ OwnB w' w.heap.size v' x.stamp) ∧ Blk w' p #[rv, ev, fv, .int .i64 2] 49 ∧ Turn (fun k => k = p) w w' := by
  obtain ⟨EA, ec, rfl⟩ := hO.shape_n 1 rfl
  obtain ⟨FA, fc, rfl⟩ := hF.shape_n 1 rfl
  have q := hM.cell
  have hlt := hM.lt
  go_enter Tryz.func7, Tryz.ntmps7
  go_wp2
  clear q
  refine wp_region_F 11 (fun w' => Blk w' p #[rv, .slice EA 1 ec, .slice FA 1 fc, .int .i64 1] 49 ∧ Blk w' w.heap.size #[.int .i64 2, .int .i64 ve, .int .i64 pl] 38 ∧ Own ednR 34 w' B (tyO [5]) (.slice EA 1 ec) [x] ∧ Own fltR 45 w' B (tyO []) (.slice FA 1 fc) [⟨1, 0, f2⟩] ∧ Below w.heap.size w w') (by kernel_rfl) ?hC (fun WR hHeld => ?_)
  case hC => exact ⟨hM.alloc _, Blk.new _ _ _, hO.alloc _, hF.alloc _, by go_grown⟩
  refine wpAnyC_pure (i := 0) (v := _) (some 22) rfl rfl (by kernel_rfl) (by kernel_rfl) (by kernel_rfl) (fun _ _ _ h => h) (by kernel_rfl) (by kernel_rfl) (by kernel_rfl) (Or.inl ⟨by rfl, fun w _ => by go_simp; (try with_reducible rfl)⟩) (fun _ => hHeld) ?_
  try simp only [Act.put, List.setIfInBounds_toArray, List.set_cons_zero, List.set_cons_succ]
  refine wpAnyC_pure (i := 1) (v := _) (some 23) rfl rfl (by kernel_rfl) (by kernel_rfl) (by kernel_rfl) (fun _ _ _ h => h) (by kernel_rfl) (by kernel_rfl) (by kernel_rfl) (Or.inl ⟨by rfl, fun w _ => by go_simp; (try with_reducible rfl)⟩) (fun _ => hHeld) ?_
  try simp only [Act.put, List.setIfInBounds_toArray, List.set_cons_zero, List.set_cons_succ]
  refine wpAnyC_pure (i := 2) (v := _) (some 24) rfl rfl (by kernel_rfl) (by kernel_rfl) (by kernel_rfl) (fun _ _ _ h => h) (by kernel_rfl) (by kernel_rfl) (by kernel_rfl) (Or.inl ⟨by rfl, fun w _ => by go_simp; (try with_reducible rfl)⟩) (fun _ => hHeld) ?_
  try simp only [Act.put, List.setIfInBounds_toArray, List.set_cons_zero, List.set_cons_succ]
  refine wpAnyC_pure (i := 3) (v := _) (some 25) rfl rfl (by kernel_rfl) (by kernel_rfl) (by kernel_rfl) (fun _ _ _ h => h) (by kernel_rfl) (by kernel_rfl) (by kernel_rfl) (Or.inl ⟨by rfl, fun w _ => by go_simp; (try with_reducible rfl)⟩) (fun _ => hHeld) ?_
  try simp only [Act.put, List.setIfInBounds_toArray, List.set_cons_zero, List.set_cons_succ]
  refine wpAnyC_pure (i := 4) (v := _) (some 26) rfl rfl (by kernel_rfl) (by kernel_rfl) (by kernel_rfl) (fun _ _ _ h => h) (by kernel_rfl) (by kernel_rfl) (by kernel_rfl) (Or.inl ⟨by rfl, fun w _ => by go_simp; (try with_reducible rfl)⟩) (fun _ => hHeld) ?_
  try simp only [Act.put, List.setIfInBounds_toArray, List.set_cons_zero, List.set_cons_succ]
  refine wpAnyC_pure (i := 5) (v := _) (some 27) rfl rfl (by kernel_rfl) (by kernel_rfl) (by kernel_rfl) (fun _ _ _ h => h) (by kernel_rfl) (by kernel_rfl) (by kernel_rfl) (Or.inl ⟨by rfl, fun w _ => by go_simp; (try with_reducible rfl)⟩) (fun _ => hHeld) ?_
  try simp only [Act.put, List.setIfInBounds_toArray, List.set_cons_zero, List.set_cons_succ]
  refine wpAnyC_pure (i := 6) (v := _) (some 28) rfl rfl (by kernel_rfl) (by kernel_rfl) (by kernel_rfl) (fun _ _ _ h => h) (by kernel_rfl) (by kernel_rfl) (by kernel_rfl) (Or.inl ⟨by rfl, fun w _ => by go_simp; (try with_reducible rfl)⟩) (fun _ => hHeld) ?_
  try simp only [Act.put, List.setIfInBounds_toArray, List.set_cons_zero, List.set_cons_succ]
  refine wpAnyC_take (i := 7) (v := _) (some 29) rfl rfl (by kernel_rfl) (by kernel_rfl) (by kernel_rfl) (fun _ _ _ h => h) (by kernel_rfl) (by kernel_rfl) (by kernel_rfl) (by kernel_rfl) (Or.inl ⟨by rfl, fun w hSw => by (try dsimp only at hSw); obtain ⟨q1, q2, _⟩ := hSw; have q3 := q1.cell; have q4 := q2.cell; go_simp; (try with_reducible rfl)⟩) hHeld ?_
  try simp only [Act.put, List.setIfInBounds_toArray, List.set_cons_zero, List.set_cons_succ]
  refine wpAnyC_pure (i := 8) (v := _) (some 30) rfl rfl (by kernel_rfl) (by kernel_rfl) (by kernel_rfl) (fun _ _ _ h => h) (by kernel_rfl) (by kernel_rfl) (by kernel_rfl) (Or.inl ⟨by rfl, fun w _ => by go_simp; (try with_reducible rfl)⟩) (fun _ => hHeld) ?_
  try simp only [Act.put, List.setIfInBounds_toArray, List.set_cons_zero, List.set_cons_succ]
  refine wpAnyC_pure (i := 9) (v := _) (some 31) rfl rfl (by kernel_rfl) (by kernel_rfl) (by kernel_rfl) (fun _ _ _ h => h) (by kernel_rfl) (by kernel_rfl) (by kernel_rfl) (Or.inl ⟨by rfl, fun w _ => by go_simp; (try with_reducible rfl)⟩) (fun _ => hHeld) ?_
  try simp only [Act.put, List.setIfInBounds_toArray, List.set_cons_zero, List.set_cons_succ]
  refine wpAnyC_take (i := 10) (v := _) (some 32) rfl rfl (by kernel_rfl) (by kernel_rfl) (by kernel_rfl) (fun _ _ _ h => h) (by kernel_rfl) (by kernel_rfl) (by kernel_rfl) (by kernel_rfl) (Or.inl ⟨by rfl, fun w hSw => by (try dsimp only at hSw); obtain ⟨q1, q2, _⟩ := hSw; have q3 := q1.cell; have q4 := q2.cell; go_simp; (try with_reducible rfl)⟩) hHeld ?_
  try simp only [Act.put, List.setIfInBounds_toArray, List.set_cons_zero, List.set_cons_succ]
  refine wpAnyC_end (i := 11) rfl (by kernel_rfl) (by kernel_rfl) (fun Kc hKc => ?_)
  go_simp
  go_at_call 14
  refine (by2_ok B p 0 rv _ _ [x] 1 ve pl _ hHeld.1 hHeld.2.2.1 (by simp) hls).mono ?_
  rintro e w1 ⟨v0, rfl, ho0, hb1⟩
  replace ho0 : OwnB w1 _ v0 x.stamp := ho0
  obtain ⟨A0, c0, rfl, _⟩ := ho0.shape
  refine hKc.out _ _ ?_
  clear hKc Kc
  try simp only [Act.put, List.setIfInBounds_toArray, List.set_cons_zero, List.set_cons_succ]
  refine wpAnyC_pure (i := 12) (v := _) (some 21) rfl rfl (by kernel_rfl) (by kernel_rfl) (by kernel_rfl) (fun _ _ _ h => h) (by kernel_rfl) (by kernel_rfl) (by kernel_rfl) (Or.inl ⟨by rfl, fun w _ => by go_simp; (try with_reducible rfl)⟩) (fun h => (by simp at h)) ?_
  try simp only [Act.put, List.setIfInBounds_toArray, List.set_cons_zero, List.set_cons_succ]
  refine wpAnyC_pure (i := 13) (v := _) (some 34) rfl rfl (by kernel_rfl) (by kernel_rfl) (by kernel_rfl) (fun _ _ _ h => h) (by kernel_rfl) (by kernel_rfl) (by kernel_rfl) (Or.inl ⟨by rfl, fun w _ => by go_simp; (try with_reducible rfl)⟩) (fun h => (by simp at h)) ?_
  try simp only [Act.put, List.setIfInBounds_toArray, List.set_cons_zero, List.set_cons_succ]
  refine wpAnyC_pure (i := 14) (v := _) (some 35) rfl rfl (by kernel_rfl) (by kernel_rfl) (by kernel_rfl) (fun _ _ _ h => h) (by kernel_rfl) (by kernel_rfl) (by kernel_rfl) (Or.inl ⟨by rfl, fun w _ => by go_simp; (try with_reducible rfl)⟩) (fun h => (by simp at h)) ?_
  try simp only [Act.put, List.setIfInBounds_toArray, List.set_cons_zero, List.set_cons_succ]
  refine wpAnyC_pure (i := 15) (v := _) (some 6) rfl rfl (by kernel_rfl) (by kernel_rfl) (by kernel_rfl) (fun _ _ _ h => h) (by kernel_rfl) (by kernel_rfl) (by kernel_rfl) (Or.inl ⟨by rfl, fun w _ => by go_simp; (try with_reducible rfl)⟩) (fun h => (by simp at h)) ?_
  try simp only [Act.put, List.setIfInBounds_toArray, List.set_cons_zero, List.set_cons_succ]
  refine wpAnyC_pure (i := 16) (v := _) (some 7) rfl rfl (by kernel_rfl) (by kernel_rfl) (by kernel_rfl) (fun _ _ _ h => h) (by kernel_rfl) (by kernel_rfl) (by kernel_rfl) (Or.inl ⟨by rfl, fun w _ => by go_simp; (try with_reducible rfl)⟩) (fun h => (by simp at h)) ?_
  try simp only [Act.put, List.setIfInBounds_toArray, List.set_cons_zero, List.set_cons_succ]
  refine wpAnyC_done (by kernel_rfl) ?_ _
  have t1 := hHeld.1.below hb1
  have t2 := hHeld.2.2.1.below hb1
  have t3 := hHeld.2.1.below hb1
  have t4 := hHeld.2.2.2.1.below hb1
  have t5 : Below w.heap.size w w1 := hHeld.2.2.2.2.trans (hb1.mono hHeld.2.2.2.2.size)
  replace ho0 := ho0.lower (B' := w.heap.size) hHeld.2.2.2.2.size
  clear hHeld hb1 hO hF hM
  have q := t1.cell
  obtain ⟨gf, off, c, cs, heq, hKe, _, hcell⟩ := sv_at t4.reads 0 (by simp)
  obtain ⟨rfl, _⟩ := fltR_elim hKe
  injection heq with e1 e2 e3
  subst e1 e3
  clear e2
  have hc0 : w1.cell? ⟨gf, off, none⟩ = some (.int .i64 1) := by simpa [fltR, Rep.iso, Rep.pair, Rep.int, Rep.scalar] using hcell 0 _ rfl
  have hc1 : w1.cell? ⟨gf, off + 1, none⟩ = some (.int .i64 0) := by simpa [fltR, Rep.iso, Rep.pair, Rep.int, Rep.scalar] using hcell 1 _ rfl
  have hc2 : w1.cell? ⟨gf, off + 2, none⟩ = some (.int .i64 f2) := by simpa [fltR, Rep.iso, Rep.pair, Rep.int, Rep.scalar] using hcell 2 _ rfl
  clear hcell hKe
  go_wp2
  refine wp_loop_rounds 2 ?_
  rw [rounds_succ]
  go_wp2
  clear hc0 hc1 hc2 q
  refine wp_region_F 6 (fun w' => Blk w' p #[rv, .slice EA 1 ec, .slice (some ⟨gf, off, none⟩) 1 fc, .int .i64 1] 49 ∧ Blk w' w1.heap.size #[.int .i64 1, .int .i64 0, .int .i64 f2] 45 ∧ Own ednR 34 w' B (tyO [5]) (.slice EA 1 ec) [x] ∧ Blk w' w.heap.size #[.int .i64 2, .int .i64 ve, .int .i64 pl] 38 ∧ Own fltR 45 w' B (tyO []) (.slice (some ⟨gf, off, none⟩) 1 fc) [⟨1, 0, f2⟩] ∧ Below w1.heap.size w1 w') (by kernel_rfl) ?hC (fun WR hHeld => ?_)
  case hC => exact ⟨t1.alloc _, Blk.new _ _ _, t2.alloc _, t3.alloc _, t4.alloc _, by go_grown⟩
  refine wpAnyC_pure (i := 0) (v := _) (some 48) rfl rfl (by kernel_rfl) (by kernel_rfl) (by kernel_rfl) (fun _ _ _ h => h) (by kernel_rfl) (by kernel_rfl) (by kernel_rfl) (Or.inl ⟨by rfl, fun w _ => by go_simp; (try with_reducible rfl)⟩) (fun _ => hHeld) ?_
  try simp only [Act.put, List.setIfInBounds_toArray, List.set_cons_zero, List.set_cons_succ]
  refine wpAnyC_take (i := 1) (v := _) (some 49) rfl rfl (by kernel_rfl) (by kernel_rfl) (by kernel_rfl) (fun _ _ _ h => h) (by kernel_rfl) (by kernel_rfl) (by kernel_rfl) (by kernel_rfl) (Or.inl ⟨by rfl, fun w hSw => by (try dsimp only at hSw); obtain ⟨q1, q2, _⟩ := hSw; have q3 := q1.cell; have q4 := q2.cell; go_simp; (try with_reducible rfl)⟩) hHeld ?_
  try simp only [Act.put, List.setIfInBounds_toArray, List.set_cons_zero, List.set_cons_succ]
  refine wpAnyC_pure (i := 2) (v := _) (some 50) rfl rfl (by kernel_rfl) (by kernel_rfl) (by kernel_rfl) (fun _ _ _ h => h) (by kernel_rfl) (by kernel_rfl) (by kernel_rfl) (Or.inl ⟨by rfl, fun w _ => by go_simp; (try with_reducible rfl)⟩) (fun _ => hHeld) ?_
  try simp only [Act.put, List.setIfInBounds_toArray, List.set_cons_zero, List.set_cons_succ]
  refine wpAnyC_pure (i := 3) (v := _) (some 51) rfl rfl (by kernel_rfl) (by kernel_rfl) (by kernel_rfl) (fun _ _ _ h => h) (by kernel_rfl) (by kernel_rfl) (by kernel_rfl) (Or.inl ⟨by rfl, fun w _ => by go_simp; (try with_reducible rfl)⟩) (fun _ => hHeld) ?_
  try simp only [Act.put, List.setIfInBounds_toArray, List.set_cons_zero, List.set_cons_succ]
  refine wpAnyC_pure (i := 4) (v := _) (some 52) rfl rfl (by kernel_rfl) (by kernel_rfl) (by kernel_rfl) (fun _ _ _ h => h) (by kernel_rfl) (by kernel_rfl) (by kernel_rfl) (Or.inl ⟨by rfl, fun w _ => by go_simp; (try with_reducible rfl)⟩) (fun _ => hHeld) ?_
  try simp only [Act.put, List.setIfInBounds_toArray, List.set_cons_zero, List.set_cons_succ]
  refine wpAnyC_take (i := 5) (v := _) (some 53) rfl rfl (by kernel_rfl) (by kernel_rfl) (by kernel_rfl) (fun _ _ _ h => h) (by kernel_rfl) (by kernel_rfl) (by kernel_rfl) (by kernel_rfl) (Or.inl ⟨by rfl, fun w hSw => by (try dsimp only at hSw); obtain ⟨q1, q2, _⟩ := hSw; have q3 := q1.cell; have q4 := q2.cell; go_simp; (try with_reducible rfl)⟩) hHeld ?_
  try simp only [Act.put, List.setIfInBounds_toArray, List.set_cons_zero, List.set_cons_succ]
  refine wpAnyC_end (i := 6) rfl (by kernel_rfl) (by kernel_rfl) (fun Kc hKc => ?_)
  go_simp
  refine hKc.out _ _ ?_
  clear hKc Kc
  try simp only [Act.put, List.setIfInBounds_toArray, List.set_cons_zero, List.set_cons_succ]
  refine wpAnyC_done (by kernel_rfl) ?_ _
  obtain ⟨u1, u2, u3, u4, u5, u6⟩ := hHeld
  have q := u1.cell
  have z := u1.free
  go_wp2
  rw [rounds_succ]
  go_wp2
  go_ret2
  exact ⟨⟨_, rfl, (ho0.below u6).store u1 (by decide) _ _⟩, u1.set 3 _, Turn.setCell (S := fun k => k = p) (below_turnAll (t5.trans (u6.mono t5.size))) (.inl rfl) _⟩

end Go.Proofs.YtoljpnfohlcfaaaGreatDoor
