/- Publish puts an edition behind the others. -/
import Derived.Test.YtoljpnfohlcfaaaGreatDoorMOwn
import Derived.Test.YtoljpnfohlcfaaaGreatDoorEdn
namespace Go.Proofs.YtoljpnfohlcfaaaGreatDoor
open Go.RowKit
set_option maxHeartbeats 1000000 in
theorem publish_ok (B p : Nat) (rv ev fv : Value) (es : List Edn) (n : Int) (s0 s1 s2 s3 : Value) (x : Edn) (w : World) (hM : Blk w p #[rv, ev, fv, .int .i64 n] 49) (hO : Own ednR 34 w B (tyO [5]) ev es)
    (h0 : Reads u8 w s0 x.stamp) (h1 : Reads u8 w s1 x.snap) (h2 : Reads u8 w s2 x.aim) (h3 : Reads u8 w s3 x.bundle) (hch : (Lit.int .i64 x.chunk).wf = true)
    (hl0 : x.stamp.length ≤ 140737488351232) (hl1 : x.snap.length ≤ 140737488351232) (hl2 : x.aim.length ≤ 140737488351232) (hl3 : x.bundle.length ≤ 140737488351232) (hB : B ≤ w.heap.size) (hk : es.length < 64) :
    Calls Tryz.prog 6 #[.pointer (some ⟨p, 0, none⟩), .agg #[s0, s1, s2, s3, .int .i64 x.chunk]] w fun e w' => e = .returned (.int .i64 0) ∧
      ∃ ev', Blk w' p #[rv, ev', fv, .int .i64 n] 49 ∧ Own ednR 34 w' B (tyO [5]) ev' (es ++ [x]) ∧ Turn (fun k => k = p ∨ some k = ev.ownBlock) w w' := by
  obtain ⟨Ae, ce, rfl, _⟩ := hO.shape
  have q := hM.cell
  have hlt := hM.lt
  have hd : decide ((64 : Int) ≤ (es.length : Int)) = false := by simp; omega
  go_enter Tryz.func6, Tryz.ntmps6
  go_wp2
  refine wp_region_F 9 (fun w' => Blk w' p #[rv, .slice Ae es.length ce, fv, .int .i64 n] 49 ∧ Blk w' w.heap.size #[s0, s1, s2, s3, .int .i64 x.chunk] 34 ∧ Own ednR 34 w' B (tyO [5]) (.slice Ae es.length ce) es ∧ Below w.heap.size w w') (by kernel_rfl) ?hC (fun WR hHeld => ?_)
  case hC => exact ⟨hM.alloc _, Blk.new _ _ _, hO.alloc _, by go_grown⟩
  refine wpAnyC_pure (i := 0) (v := _) (some 16) rfl rfl (by kernel_rfl) (by kernel_rfl) (by kernel_rfl) (fun _ _ _ h => h) (by kernel_rfl) (by kernel_rfl) (by kernel_rfl) (Or.inl ⟨by rfl, fun w _ => by go_simp; (try with_reducible rfl)⟩) (fun _ => hHeld) ?_
  try simp only [Act.put, List.setIfInBounds_toArray, List.set_cons_zero, List.set_cons_succ]
  refine wpAnyC_pure (i := 1) (v := _) (some 17) rfl rfl (by kernel_rfl) (by kernel_rfl) (by kernel_rfl) (fun _ _ _ h => h) (by kernel_rfl) (by kernel_rfl) (by kernel_rfl) (Or.inl ⟨by rfl, fun w _ => by go_simp; (try with_reducible rfl)⟩) (fun _ => hHeld) ?_
  try simp only [Act.put, List.setIfInBounds_toArray, List.set_cons_zero, List.set_cons_succ]
  refine wpAnyC_pure (i := 2) (v := _) (some 18) rfl rfl (by kernel_rfl) (by kernel_rfl) (by kernel_rfl) (fun _ _ _ h => h) (by kernel_rfl) (by kernel_rfl) (by kernel_rfl) (Or.inl ⟨by rfl, fun w _ => by go_simp; (try with_reducible rfl)⟩) (fun _ => hHeld) ?_
  try simp only [Act.put, List.setIfInBounds_toArray, List.set_cons_zero, List.set_cons_succ]
  refine wpAnyC_pure (i := 3) (v := _) (some 19) rfl rfl (by kernel_rfl) (by kernel_rfl) (by kernel_rfl) (fun _ _ _ h => h) (by kernel_rfl) (by kernel_rfl) (by kernel_rfl) (Or.inl ⟨by rfl, fun w _ => by go_simp; (try with_reducible rfl)⟩) (fun _ => hHeld) ?_
  try simp only [Act.put, List.setIfInBounds_toArray, List.set_cons_zero, List.set_cons_succ]
  refine wpAnyC_pure (i := 4) (v := _) (some 20) rfl rfl (by kernel_rfl) (by kernel_rfl) (by kernel_rfl) (fun _ _ _ h => h) (by kernel_rfl) (by kernel_rfl) (by kernel_rfl) (Or.inl ⟨by rfl, fun w _ => by go_simp; (try with_reducible rfl)⟩) (fun _ => hHeld) ?_
  try simp only [Act.put, List.setIfInBounds_toArray, List.set_cons_zero, List.set_cons_succ]
  refine wpAnyC_take (i := 5) (v := _) (some 21) rfl rfl (by kernel_rfl) (by kernel_rfl) (by kernel_rfl) (fun _ _ _ h => h) (by kernel_rfl) (by kernel_rfl) (by kernel_rfl) (by kernel_rfl) (Or.inl ⟨by rfl, fun w hSw => by (try dsimp only at hSw); obtain ⟨q1, q2, _⟩ := hSw; have q3 := q1.cell; have q4 := q2.cell; go_simp; (try with_reducible rfl)⟩) hHeld ?_
  try simp only [Act.put, List.setIfInBounds_toArray, List.set_cons_zero, List.set_cons_succ]
  refine wpAnyC_take (i := 6) (v := _) (some 22) rfl rfl (by kernel_rfl) (by kernel_rfl) (by kernel_rfl) (fun _ _ _ h => h) (by kernel_rfl) (by kernel_rfl) (by kernel_rfl) (by kernel_rfl) (Or.inl ⟨by rfl, fun w hSw => by (try dsimp only at hSw); obtain ⟨q1, q2, _⟩ := hSw; have q3 := q1.cell; have q4 := q2.cell; go_simp; (try with_reducible rfl)⟩) hHeld ?_
  try simp only [Act.put, List.setIfInBounds_toArray, List.set_cons_zero, List.set_cons_succ]
  refine wpAnyC_do (i := 7) rfl (by kernel_rfl) (fun Kc hKc => ?_)
  go_simp
  go_at_call 12
  refine (own_ok s0 s1 s2 s3 _ _ _ _ _ _ (h0.below hHeld.2.2.2) (h1.below hHeld.2.2.2) (h2.below hHeld.2.2.2) (h3.below hHeld.2.2.2) hl0 hl1 hl2 hl3).mono ?_
  rintro e w1 ⟨v0, v1, v2, v3, rfl, ho0, ho1, ho2, ho3, hb1⟩
  obtain ⟨A0, c0, rfl, _⟩ := ho0.shape
  obtain ⟨A1, c1, rfl, _⟩ := ho1.shape
  obtain ⟨A2, c2, rfl, _⟩ := ho2.shape
  obtain ⟨A3, c3, rfl, _⟩ := ho3.shape
  refine hKc.out _ _ ?hC (fun hHeld => ?_)
  case hC => exact ⟨hHeld.1.below hb1, hHeld.2.1.below hb1, hHeld.2.2.1.below hb1, hHeld.2.2.2.trans (hb1.mono hHeld.2.2.2.size)⟩
  clear hKc Kc
  try simp only [Act.put, List.setIfInBounds_toArray, List.set_cons_zero, List.set_cons_succ]
  refine wpAnyC_do (i := 8) rfl (by kernel_rfl) (fun Kc hKc => ?_)
  go_simp
  refine hKc.out _ _ ?hC (fun hHeld => ?_)
  case hC => exact ⟨hHeld.1.alloc _, hHeld.2.1.alloc _, hHeld.2.2.1.alloc _, hHeld.2.2.2.alloc hHeld.2.2.2.size _⟩
  clear hKc Kc
  try simp only [Act.put, List.setIfInBounds_toArray, List.set_cons_zero, List.set_cons_succ]
  refine wpAnyC_end (i := 9) rfl (by kernel_rfl) (by kernel_rfl) (fun Kc hKc => ?_)
  refine step_app (d := ednR) (ys := [x]) rfl _ _ rfl sty_eds rfl rfl hHeld.2.2.1 ?c0 ?c1 ?c2 ?_
  case c0 =>
    refine Src.one (t := 34) (fz := (0, 0)) (heap_alloc_new _ _) (ednR.mono (hHeld.2.2.1.apart (by decide)) (ednR_mk (x := x) (ho0.readsT.alloc _) (ho1.readsT.alloc _) (ho2.readsT.alloc _) (ho3.readsT.alloc _) hch))
  case c1 => simp; omega
  case c2 => exact Nat.le_trans hB hHeld.2.2.2.size
  intro v2 w2 hoA hg2 hat2
  obtain ⟨Ae', ce', rfl, _⟩ := hoA.shape
  have hne : some p ≠ (Value.slice Ae es.length ce).ownBlock := hHeld.2.2.1.typed hHeld.1 (by decide)
  have z3 := (hHeld.1.grown hg2 hne).cell
  have z4 := (hHeld.1.grown hg2 hne).free
  refine hKc.out _ _ ?_
  clear hKc Kc
  try simp only [Act.put, List.setIfInBounds_toArray, List.set_cons_zero, List.set_cons_succ]
  refine wpAnyC_pure (i := 10) (v := _) (some 26) rfl rfl (by kernel_rfl) (by kernel_rfl) (by kernel_rfl) (fun _ _ _ h => h) (by kernel_rfl) (by kernel_rfl) (by kernel_rfl) (Or.inl ⟨by rfl, fun w _ => by go_simp; (try with_reducible rfl)⟩) (fun h => (by simp at h)) ?_
  try simp only [Act.put, List.setIfInBounds_toArray, List.set_cons_zero, List.set_cons_succ]
  refine wpAnyC_pure (i := 11) (v := _) (some 27) rfl rfl (by kernel_rfl) (by kernel_rfl) (by kernel_rfl) (fun _ _ _ h => h) (by kernel_rfl) (by kernel_rfl) (by kernel_rfl) (Or.inl ⟨by rfl, fun w _ => by go_simp; (try with_reducible rfl)⟩) (fun h => (by simp at h)) ?_
  try simp only [Act.put, List.setIfInBounds_toArray, List.set_cons_zero, List.set_cons_succ]
  refine wpAnyC_pure (i := 12) (v := _) (some 28) rfl rfl (by kernel_rfl) (by kernel_rfl) (by kernel_rfl) (fun _ _ _ h => h) (by kernel_rfl) (by kernel_rfl) (by kernel_rfl) (Or.inl ⟨by rfl, fun w _ => by go_simp; (try with_reducible rfl)⟩) (fun h => (by simp at h)) ?_
  try simp only [Act.put, List.setIfInBounds_toArray, List.set_cons_zero, List.set_cons_succ]
  refine wpAnyC_end (i := 13) rfl (by kernel_rfl) (by kernel_rfl) (fun Kc hKc => ?_)
  go_simp
  refine hKc.out _ _ ?_
  clear hKc Kc
  try simp only [Act.put, List.setIfInBounds_toArray, List.set_cons_zero, List.set_cons_succ]
  refine wpAnyC_done (by kernel_rfl) ?_ _
  go_wp2
  go_ret
  have hM2 := hHeld.1.grown hg2 hne
  exact ⟨rfl, _, by simpa using hM2.set 1 _, hoA.store hM2 (by decide) _ _, (((below_turnAll hHeld.2.2.2).trans ((grown_turn hg2).mono fun k _ h => .inr h)).setCell (.inl (.inl rfl)) _)⟩
theorem publish_long (p : Nat) (rv fv : Value) (A : Option Addr) (k c : Nat) (n : Int) (s0 s1 s2 s3 : Value) (ch : Int) (w : World) (hM : Blk w p #[rv, .slice A k c, fv, .int .i64 n] 49) (hk : 64 ≤ k) :
    Calls Tryz.prog 6 #[.pointer (some ⟨p, 0, none⟩), .agg #[s0, s1, s2, s3, .int .i64 ch]] w fun e w' => e = .returned (.int .i64 2) ∧ Below w.heap.size w w' := by
  have q := hM.cell
  have hlt := hM.lt
  have hd : decide ((64 : Int) ≤ (k : Int)) = true := by simp; omega
  go_enter Tryz.func6, Tryz.ntmps6
  go_wp2
  go_ret
  exact ⟨rfl, by go_grown⟩
theorem publish_nil (s0 s1 s2 s3 : Value) (ch : Int) (w : World) :
    Calls Tryz.prog 6 #[.pointer none, .agg #[s0, s1, s2, s3, .int .i64 ch]] w fun e w' => e = .returned (.int .i64 3) ∧ Below w.heap.size w w' := by
  go_enter Tryz.func6, Tryz.ntmps6
  go_wp2
  go_ret
  exact ⟨rfl, by go_grown⟩
end Go.Proofs.YtoljpnfohlcfaaaGreatDoor
