/- The press's answer to a wanted timestamp; a lost answer; what a mirror that is not there answers. -/
import Derived.Test.YtoljpnfohlcfaaaGreatDoorMNew
namespace Go.Proofs.YtoljpnfohlcfaaaGreatDoor
open Go.RowKit

theorem press2_ok (s0 s1 s2 s3 rv : Value) (x0 : List Int) (ch ve pl : Int) (w : World) (h0 : Reads u8 w s0 x0) (hl0 : x0.length ≤ 140737488351232) :
    Calls Tryz.prog 18 #[.agg #[s0, s1, s2, s3, .int .i64 ch], rv, .agg #[.int .i64 2, .int .i64 ve, .int .i64 pl]] w fun e w' => ∃ v', e = .returned (.tuple #[v', .int .i64 0]) ∧ OwnB w' w.heap.size v' x0 ∧ Below w.heap.size w w' := by
  have hs : Reads u8 ((w.alloc (.cells #[s0, s1, s2, s3, .int .i64 ch] 34)).alloc (.cells #[.int .i64 2, .int .i64 ve, .int .i64 pl] 38)) s0 x0 := (h0.alloc _).alloc _
  replace hs := Lib.hid hs
  go_enter Tryz.func18, Tryz.ntmps18
  go_wp2_with fail
  refine (clone_ok _ _ _ hs.out hl0).mono ?_
  rintro e w1 ⟨v', rfl, ho, hb⟩
  obtain ⟨A0, c0, rfl, _⟩ := ho.shape
  go_wp2
  go_ret2
  refine ⟨_, rfl, ho.lower (B' := w.heap.size) (by simp only [World.size_alloc]; omega), ?_⟩
  have h1 : Below w.heap.size w ((w.alloc (.cells #[s0, s1, s2, s3, .int .i64 ch] 34)).alloc (.cells #[.int .i64 2, .int .i64 ve, .int .i64 pl] 38)) := by go_grown
  exact h1.trans (hb.mono (by simp only [World.size_alloc]; omega))

theorem spoilt_lost (a b v n : Value) (k1 k2 : Int) (w : World) (f0 f1 : Value) (p : Addr) :
    Calls Tryz.prog 15 #[.pointer (some p), b, .agg #[.int .i64 1, .int .i64 k1, .int .i64 k2], .agg #[f0, f1, v]] w fun e w' => e = .returned (.slice none 0 0) ∧ Below w.heap.size w w' := by
  go_enter Tryz.func15, Tryz.ntmps15
  go_wp2
  all_goals
    go_ret
    exact ⟨rfl, by go_grown⟩

theorem answer_nil (v0 v1 v2 : Value) (w : World) :
    Calls Tryz.prog 7 #[.pointer none, .agg #[v0, v1, v2]] w fun e w' => e = .returned (.tuple #[.slice none 0 0, .int .i64 3]) ∧ Below w.heap.size w w' := by
  go_enter Tryz.func7, Tryz.ntmps7
  go_wp2
  go_ret2
  exact ⟨rfl, by go_grown⟩

theorem answer_none (p : Nat) (rv fv : Value) (A : Option Addr) (c : Nat) (n : Int) (v0 v1 v2 : Value) (w : World) (hM : Blk w p #[rv, .slice A 0 c, fv, .int .i64 n] 49) :
    Calls Tryz.prog 7 #[.pointer (some ⟨p, 0, none⟩), .agg #[v0, v1, v2]] w fun e w' => e = .returned (.tuple #[.slice none 0 0, .int .i64 111]) ∧ Below w.heap.size w w' := by
  have q := hM.cell
  have hlt := hM.lt
  go_enter Tryz.func7, Tryz.ntmps7
  go_wp2
  go_ret2
  exact ⟨rfl, by go_grown⟩

theorem count_nil (w : World) : Calls Tryz.prog 9 #[.pointer none] w fun e w' => e = .returned (.int .i64 0) ∧ w = w' := by
  go_enter Tryz.func9, Tryz.ntmps9
  go_wp2
  go_ret
  exact ⟨rfl, rfl⟩
theorem count_ok (p : Nat) (rv ev fv : Value) (n : Int) (w : World) (hM : Blk w p #[rv, ev, fv, .int .i64 n] 49) :
    Calls Tryz.prog 9 #[.pointer (some ⟨p, 0, none⟩)] w fun e w' => e = .returned (.int .i64 n) ∧ w = w' := by
  have q := hM.cell
  go_enter Tryz.func9, Tryz.ntmps9
  go_wp2
  go_ret
  exact ⟨rfl, rfl⟩
theorem fetch_nil (m : Value) (a b : Int) (w : World) : Calls Tryz.prog 8 #[.pointer none, m, .int .i64 a, .int .i64 b] w fun e w' => e = .returned (.tuple #[.int .i64 0, .int .i64 3]) ∧ w = w' := by
  go_enter Tryz.func8, Tryz.ntmps8
  go_wp2
  go_ret2
  exact ⟨rfl, rfl⟩
end Go.Proofs.YtoljpnfohlcfaaaGreatDoor
