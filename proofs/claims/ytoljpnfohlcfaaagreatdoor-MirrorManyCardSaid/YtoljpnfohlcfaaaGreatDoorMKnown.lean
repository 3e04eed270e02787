/- What must come of fixed calls comes. -/
import Derived.Test.YtoljpnfohlcfaaaGreatDoorMAns2
import Derived.Test.YtoljpnfohlcfaaaGreatDoorSame
namespace Go.Proofs.YtoljpnfohlcfaaaGreatDoor
open Go.RowKit
theorem reads_five {w : World} {g : Nat} (hg : w.heap[g]? = some (.cells #[.int .u8 5] 5 (0, 0))) : SV u8 (all w) (.slice (some ⟨g, 0, none⟩) 1 1) [5] :=
  sv_blk hg trivial (Reps.one1 ⟨rfl, by decide⟩) rfl (by decide)
set_option maxRecDepth 100000 in
set_option maxHeartbeats 2000000 in
theorem known_ok (w : World) : Calls Tryz.prog 5 #[] w fun e w' => e = .returned (.bool true) ∧ Below w.heap.size w w' := by
  go_enter Tryz.func5, Tryz.ntmps5
  go_wp2_with fail
  refine (new_ok _ _ _ [] [] [] _ (SV.nil _ _) (SV.nil _ _) (SV.nil _ _) (by simp) (by simp) (by simp) (by simp) (by simp)).mono ?_
  rintro e w1 ⟨p, rv, ev, fv, rfl, hp1, hM, hR, hE, hF, hb1⟩
  obtain ⟨A, c, rfl⟩ := hE.shape_n 0 rfl
  go_wp2_with fail
  refine (answer_none p rv fv A c 0 _ _ _ _ hM).mono ?_
  rintro e w2 ⟨rfl, hb2⟩
  replace hb2 := hb1.trans (hb2.mono hb1.size)
  clear hM hR hE hF hb1 hp1
  go_wp2_with fail
  have x1 : ((((w2.alloc (.cells #[.int .u8 5] 5)).alloc (.cells #[.slice (some ⟨w2.heap.size, 0, none⟩) 1 1, .slice none 0 0, .slice none 0 0, .slice none 0 0, .int .i64 0] 34)).alloc (.cells #[.int .i64 1, .int .i64 0, .int .i64 0] 45)).heap)[w2.heap.size]? = some (.cells #[.int .u8 5] 5 (0, 0)) :=
    (Below.heap_alloc _ _ _ (by simp only [World.size_alloc]; omega)).trans ((Below.heap_alloc _ _ _ (by simp)).trans (heap_alloc_new _ _))
  have x2 : ((((w2.alloc (.cells #[.int .u8 5] 5)).alloc (.cells #[.slice (some ⟨w2.heap.size, 0, none⟩) 1 1, .slice none 0 0, .slice none 0 0, .slice none 0 0, .int .i64 0] 34)).alloc (.cells #[.int .i64 1, .int .i64 0, .int .i64 0] 45)).heap)[w2.heap.size + 1]? = some (.cells #[.slice (some ⟨w2.heap.size, 0, none⟩) 1 1, .slice none 0 0, .slice none 0 0, .slice none 0 0, .int .i64 0] 34 (0, 0)) :=
    (Below.heap_alloc _ _ _ (by simp only [World.size_alloc]; omega)).trans (heap_alloc2_new _ _ _)
  have x3 : ((((w2.alloc (.cells #[.int .u8 5] 5)).alloc (.cells #[.slice (some ⟨w2.heap.size, 0, none⟩) 1 1, .slice none 0 0, .slice none 0 0, .slice none 0 0, .int .i64 0] 34)).alloc (.cells #[.int .i64 1, .int .i64 0, .int .i64 0] 45)).heap)[w2.heap.size + 1 + 1]? = some (.cells #[.int .i64 1, .int .i64 0, .int .i64 0] 45 (0, 0)) :=
    alloc_at (by simp only [World.size_alloc])
  refine (new_ok _ _ _ [] [⟨[5], [], [], [], 0⟩] [⟨1, 0, 0⟩] _ (SV.nil _ _)
    (sv_blk x2 trivial (Reps.one1 (ednR_mk (x := ⟨[5], [], [], [], 0⟩) (reads_five x1) (SV.nil _ _) (SV.nil _ _) (SV.nil _ _) (by decide))) rfl (by decide))
    (sv_blk x3 trivial (Reps.one1 (fltR_mk (x := ⟨1, 0, 0⟩) (by decide) (by decide) (by decide))) rfl (by decide)) (by simp) (by simp) (by simp) (by simp) (by simp)).mono ?_
  rintro e w4 ⟨p, rv, ev, fv, rfl, hp4, hM, hR, hE, hF, hb4⟩
  have hb5 : Below w.heap.size w w4 := (((hb2.alloc hb2.size _).alloc (Nat.le_trans hb2.size (by simp)) _).alloc (Nat.le_trans hb2.size (by simp only [World.size_alloc]; omega)) _).trans (hb4.mono (Nat.le_trans hb2.size (by simp only [World.size_alloc]; omega)))
  have hpw : w.heap.size ≤ p := Nat.le_trans hb2.size (Nat.le_trans (by simp only [World.size_alloc]; omega) hp4)
  clear x1 x2 x3 hR hb4 hb2
  replace hE := hE.lower (B' := 0) (Nat.zero_le _)
  replace hF := hF.lower (B' := 0) (Nat.zero_le _)
  go_wp2_with fail
  refine (answer_0 0 p rv ev fv _ 0 0 0 _ hM hE hF (by simp)).mono ?_
  rintro e w6 ⟨rfl, hM6, ht6⟩
  have hE6 := hE.turnB hM hM6 ht6 (by decide)
  have hF6 := hF.turnB hM hM6 ht6 (by decide)
  have hb6 := hb5.trans (ht6.below hb5.size (fun k h => by rw [h]; exact hpw))
  clear hM hE hF hb5 ht6
  go_wp2_with fail
  refine (answer_1 0 p rv ev fv _ 0 0 0 _ hM6 hE6 hF6 (by simp)).mono ?_
  rintro e w7 ⟨⟨v7, rfl, ho7⟩, hM7, ht7⟩
  have hb7 := hb6.trans (ht7.below hb6.size (fun k h => by rw [h]; exact hpw))
  have hr7 := ho7.readsAll
  clear hM6 hE6 hF6 hb6 ht7 ho7 hpw hp4
  obtain ⟨A7, c7, rfl⟩ := hr7.shape
  go_wp2_with fail
  refine (same_ok _ _ [5] [5] _ (hr7.alloc _) (reads_five (heap_alloc_new _ _))).mono ?_
  rintro e w8 ⟨rfl, rfl⟩
  go_wp2_with fail
  refine (count_ok p rv ev fv 2 _ (hM7.alloc _)).mono ?_
  rintro e w9 ⟨rfl, rfl⟩
  go_wp2
  go_ret
  exact ⟨by simp, hb7.alloc hb7.size _⟩
end Go.Proofs.YtoljpnfohlcfaaaGreatDoor
