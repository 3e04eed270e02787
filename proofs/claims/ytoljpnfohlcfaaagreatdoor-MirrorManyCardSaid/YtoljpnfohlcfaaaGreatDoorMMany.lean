/- So many roots, editions and faults a mirror may have; of more none is made; a mirror that is not there answers so. -/
import Derived.Test.YtoljpnfohlcfaaaGreatDoorMKnown
import Derived.Deep.RegionWith
import Derived.Deep.DeepCutAuto
import Derived.Deep.CutBlock
import Derived.Deep.DeepMust
namespace Go.Proofs.YtoljpnfohlcfaaaGreatDoor
open Go.RowKit
abbrev ed0 : Edn := ⟨[], [], [], [], 0⟩
abbrev fl0 : Flt := ⟨0, 0, 0⟩
theorem reads_roots0 (r : Nat) (hr : r ≤ 100) (w : World) (g : Nat) (hg : w.heap[g]? = some (.cells (madeCells (Value.slice none 0 0).cells (r * 1)) 32 (0, 0))) : SV bytesR (all w) (.slice (some ⟨g, 0, none⟩) r r) (List.replicate r []) :=
  sv_blk hg trivial (Reps.made (d := bytesR) #[.slice none 0 0] r rfl (by decide) ⟨_, rfl, SV.nil _ _⟩) (by simp) (by omega)
theorem reads_eds0 (r : Nat) (hr : r ≤ 100) (w : World) (g : Nat) (hg : w.heap[g]? = some (.cells (madeCells (Value.agg #[.slice none 0 0, .slice none 0 0, .slice none 0 0, .slice none 0 0, .int .i64 0]).cells (r * 5)) 34 (0, 0))) : SV ednR (all w) (.slice (some ⟨g, 0, none⟩) r r) (List.replicate r ed0) :=
  sv_blk hg trivial (Reps.made (d := ednR) #[.slice none 0 0, .slice none 0 0, .slice none 0 0, .slice none 0 0, .int .i64 0] r rfl (by decide) (ednR_mk (x := ed0) (SV.nil _ _) (SV.nil _ _) (SV.nil _ _) (SV.nil _ _) (by decide))) (by simp) (by omega)
theorem reads_flts0 (r : Nat) (hr : r ≤ 2000) (w : World) (g : Nat) (hg : w.heap[g]? = some (.cells (madeCells (Value.agg #[.int .i64 0, .int .i64 0, .int .i64 0]).cells (r * 3)) 45 (0, 0))) : SV fltR (all w) (.slice (some ⟨g, 0, none⟩) r r) (List.replicate r fl0) :=
  sv_blk hg trivial (Reps.made (d := fltR) #[.int .i64 0, .int .i64 0, .int .i64 0] r rfl (by decide) (fltR_mk (x := fl0) (by decide) (by decide) (by decide))) (by simp) (by omega)
theorem alloc_1 {w : World} {a b c : Obj} : (((w.alloc a).alloc b).alloc c).drew.heap[w.heap.size]? = some a := (Below.heap_alloc _ _ _ (by simp only [World.size_alloc]; omega)).trans ((Below.heap_alloc _ _ _ (by simp)).trans (heap_alloc_new _ _))
theorem alloc_2 {w : World} {a b c : Obj} : (((w.alloc a).alloc b).alloc c).drew.heap[w.heap.size + 1]? = some b := (Below.heap_alloc _ _ _ (by simp only [World.size_alloc]; omega)).trans (heap_alloc2_new _ _ _)
theorem alloc_3 {w : World} {a b c : Obj} : (((w.alloc a).alloc b).alloc c).drew.heap[w.heap.size + 1 + 1]? = some c := alloc_at (by simp only [World.size_alloc])

set_option maxRecDepth 100000 in
set_option maxHeartbeats 2000000 in
theorem many_small (a0 a1 a2 : Int) (r e f : Nat) (hr : a0 % 66 = r) (he : a1 % 66 = e) (hf : a2 % 1002 = f) (h0 : 0 ≤ a0) (h0' : a0 < 65536) (h1 : 0 ≤ a1) (h1' : a1 < 65536) (h2 : 0 ≤ a2) (h2' : a2 < 65536) (hr' : r ≤ 64) (he' : e ≤ 64) (hf' : f ≤ 1000) (w : World) :
    Calls Tryz.prog 3 #[.int .u16 a0, .int .u16 a1, .int .u16 a2] w fun e w' => e = .returned (.bool true) ∧ Below w.heap.size w w' := by
  have m1 := run_mk (P := Tryz.prog) Tryz.underlying27 info_bytes r (by omega) (by omega)
  have m2 := run_mk (P := Tryz.prog) Tryz.underlying28 info_ed e (by omega) (by omega)
  have m3 := run_mk (P := Tryz.prog) Tryz.underlying29 info_flt f (by omega) (by omega)
  have v1 := Lib.hid (reads_roots0 r (by omega))
  have v2 := Lib.hid (reads_eds0 e (by omega))
  have v3 := Lib.hid (reads_flts0 f (by omega))
  generalize madeCells (Value.slice none 0 0).cells (r * 1) = C1 at m1 v1
  generalize madeCells (Value.agg #[.slice none 0 0, .slice none 0 0, .slice none 0 0, .slice none 0 0, .int .i64 0]).cells (e * 5) = C2 at m2 v2
  generalize madeCells (Value.agg #[.int .i64 0, .int .i64 0, .int .i64 0]).cells (f * 3) = C3 at m3 v3
  have d0 : decide ((64 : Int) < (r : Int)) = false := by simp; omega
  have d1 : decide ((64 : Int) < (e : Int)) = false := by simp; omega
  have d2 : decide ((1000 : Int) < (f : Int)) = false := by simp; omega
  go_enter Tryz.func3, Tryz.ntmps3
  go_upto_region 2 with (fail)
  go_cut [10, 11] (fun v10 v11 wc => ∃ p rv ev fv, v10 = .pointer (some ⟨p, 0, none⟩) ∧ v11 = .int .i64 0 ∧ w.heap.size ≤ p ∧ Blk wc p #[rv, ev, fv, .int .i64 0] 49 ∧
    Own ednR 34 wc w.heap.size (tyO [5]) ev (List.replicate e ed0) ∧ Below w.heap.size w wc)
  case first =>
    go_region_with (go_at_call 4; go_must (refine (new_ok _ _ _ (List.replicate r []) (List.replicate e ed0) (List.replicate f fl0) _ (v1.out _ _ (by first | exact alloc_1 | exact alloc_2 | exact alloc_3)) (v2.out _ _ (by first | exact alloc_1 | exact alloc_2 | exact alloc_3)) (v3.out _ _ (by first | exact alloc_1 | exact alloc_2 | exact alloc_3)) (by simp <;> omega) (by simp) (by simp <;> omega) (by simp <;> omega) (by simp <;> omega)).mono ?_); rintro _ w1 ⟨p, rv, ev, fv, rfl, hp, hM, hR, hE, hF, hb⟩)
    all_goals
      go_wp2
      go_meet
      case rel =>
        have hs : w.heap.size ≤ p := by simp only [World.size_drew, World.size_alloc] at hp; omega
        refine ⟨p, rv, ev, fv, rfl, rfl, hs, hM, hE.lower (B' := w.heap.size) (by simp only [World.size_drew, World.size_alloc]; omega), ?_⟩
        exact Below.trans (b := (((w.alloc _).alloc _).alloc _).drew) (by go_grown) (hb.mono (by simp only [World.size_drew, World.size_alloc]; omega))
  case rest =>
    clear m1 m2 m3 v1 v2 v3
    obtain ⟨p, rv, ev, fv, rfl, rfl, hp, hM, hE, hb⟩ := hcut
    go_wp2_with fail
    go_loopw [12] (fun i wr => ∃ (ev : Value) (es : List Edn), e ≤ es.length ∧ es.length ≤ 64 ∧ i = .int .i64 es.length ∧ Blk wr p #[rv, ev, fv, .int .i64 0] 49 ∧
      Own ednR 34 wr w.heap.size (tyO [5]) ev es ∧ Below w.heap.size w wr) (fun i _ => 64 - (intOf i).toNat)
    case atStart => exact ⟨ev, List.replicate e ed0, by simp, by simp; omega, by simp, hM, hE, hb⟩
    case round =>
      clear hM hE hb
      obtain ⟨ev, es, hk, hk64, rfl, hM, hE, hb⟩ := hrel
      by_cases hlt : es.length < 64
      · go_wp2_with fail
        refine (publish_ok w.heap.size p rv ev fv es 0 _ _ _ _ ed0 _ hM hE (SV.nil _ _) (SV.nil _ _) (SV.nil _ _) (SV.nil _ _) (by decide) (by simp) (by simp) (by simp) (by simp) hb.size hlt).mono ?_
        rintro _ w2 ⟨rfl, ev', hM', hE', ht⟩
        go_wp2
        go_roundw
        case rel =>
          refine ⟨ev', es ++ [ed0], by simp; omega, by simp; omega, by simp, hM', hE', hb.trans (ht.below hb.size fun k h => ?_)⟩
          rcases h with rfl | h
          · exact hp
          · exact (hE.base k h.symm).1
        case measure => simp [intOf]; omega
      · have h64 : es.length = 64 := by omega
        obtain ⟨A, c, rfl⟩ := hE.shape_n 64 h64
        rw [h64]
        clear hlt hk hk64 h64 hE
        go_wp2_with fail
        refine (answer_nil _ _ _ _).mono ?_
        rintro _ w2 ⟨rfl, hb2⟩
        have hM2 := hM.below hb2
        have hb2' := hb.trans (hb2.mono hb.size)
        clear hM hb hb2
        go_wp2_with fail
        refine (fetch_nil _ 0 1 _).mono ?_
        rintro _ w3 ⟨rfl, rfl⟩
        go_wp2_with fail
        refine (publish_long p rv fv A 64 c 0 _ _ _ _ 0 _ hM2 (by omega)).mono ?_
        rintro _ w4 ⟨rfl, hb4⟩
        have hb4' := hb2'.trans (hb4.mono hb2'.size)
        clear hM2 hb4 hb2'
        go_wp2_with fail
        refine (publish_nil _ _ _ _ 0 _).mono ?_
        rintro _ w5 ⟨rfl, hb5⟩
        have hb5' := hb4'.trans (hb5.mono hb4'.size)
        clear hb5 hb4'
        go_wp2_with fail
        refine (count_nil _).mono ?_
        rintro _ w6 ⟨rfl, rfl⟩
        go_wp2_with fail
        refine (known_ok _).mono ?_
        rintro _ w7 ⟨rfl, hb7⟩
        have hb7' := hb5'.trans (hb7.mono hb5'.size)
        clear hb7 hb5'
        go_wp2
        go_ret
        exact ⟨by simp, hb7'⟩

set_option maxRecDepth 100000 in
set_option maxHeartbeats 2000000 in
theorem many_big (a0 a1 a2 : Int) (r e f : Nat) (hr : a0 % 66 = r) (he : a1 % 66 = e) (hf : a2 % 1002 = f) (h0 : 0 ≤ a0) (h0' : a0 < 65536) (h1 : 0 ≤ a1) (h1' : a1 < 65536) (h2 : 0 ≤ a2) (h2' : a2 < 65536) (hr' : r ≤ 66) (he' : e ≤ 66) (hf' : f ≤ 1002) (hbig : 64 < r ∨ 64 < e ∨ 1000 < f) (w : World) :
    Calls Tryz.prog 3 #[.int .u16 a0, .int .u16 a1, .int .u16 a2] w fun e w' => e = .returned (.bool true) ∧ Below w.heap.size w w' := by
  have m1 := run_mk (P := Tryz.prog) Tryz.underlying27 info_bytes r (by omega) (by omega)
  have m2 := run_mk (P := Tryz.prog) Tryz.underlying28 info_ed e (by omega) (by omega)
  have m3 := run_mk (P := Tryz.prog) Tryz.underlying29 info_flt f (by omega) (by omega)
  generalize madeCells (Value.slice none 0 0).cells (r * 1) = C1 at m1
  generalize madeCells (Value.agg #[.slice none 0 0, .slice none 0 0, .slice none 0 0, .slice none 0 0, .int .i64 0]).cells (e * 5) = C2 at m2
  generalize madeCells (Value.agg #[.int .i64 0, .int .i64 0, .int .i64 0]).cells (f * 3) = C3 at m3
  replace hbig := Lib.hid hbig
  go_enter Tryz.func3, Tryz.ntmps3
  go_upto_region 2 with (fail)
  go_cut [10, 11] (fun v10 v11 wc => v10 = .pointer none ∧ v11 = .int .i64 2 ∧ Below w.heap.size w wc)
  case first =>
    go_region_with (go_at_call 4; go_must (refine (new_long _ _ _ r r e e f f _ hbig.out (by omega) (by omega) (by omega)).mono ?_); rintro _ w1 ⟨rfl, rfl⟩)
    all_goals
      go_wp2
      go_meet
      case rel => exact ⟨rfl, rfl, by go_grown⟩
  case rest =>
    clear m1 m2 m3
    obtain ⟨rfl, rfl, hb⟩ := hcut
    by_cases c0 : 64 < r
    · have d0 : decide ((64 : Int) < (r : Int)) = true := by simp; omega
      clear hbig c0
      go_wp2_with fail
      refine (known_ok _).mono ?_
      rintro _ w7 ⟨rfl, hb7⟩
      have hb7' := hb.trans (hb7.mono hb.size)
      clear hb7 hb
      go_wp2
      go_ret
      exact ⟨rfl, hb7'⟩
    · have d0 : decide ((64 : Int) < (r : Int)) = false := by simp; omega
      by_cases c1 : 64 < e
      · have d1 : decide ((64 : Int) < (e : Int)) = true := by simp; omega
        clear hbig c0 c1
        go_wp2_with fail
        refine (known_ok _).mono ?_
        rintro _ w7 ⟨rfl, hb7⟩
        have hb7' := hb.trans (hb7.mono hb.size)
        clear hb7 hb
        go_wp2
        go_ret
        exact ⟨rfl, hb7'⟩
      · have d1 : decide ((64 : Int) < (e : Int)) = false := by simp; omega
        have d2 : decide ((1000 : Int) < (f : Int)) = true := by have := hbig.out; simp; omega
        clear hbig c0 c1
        go_wp2_with fail
        refine (known_ok _).mono ?_
        rintro _ w7 ⟨rfl, hb7⟩
        have hb7' := hb.trans (hb7.mono hb.size)
        clear hb7 hb
        go_wp2
        go_ret
        exact ⟨rfl, hb7'⟩

theorem many_ok (a0 a1 a2 : Int) (h0 : 0 ≤ a0) (h0' : a0 < 65536) (h1 : 0 ≤ a1) (h1' : a1 < 65536) (h2 : 0 ≤ a2) (h2' : a2 < 65536) (w : World) :
    Calls Tryz.prog 3 #[.int .u16 a0, .int .u16 a1, .int .u16 a2] w fun e w' => e = .returned (.bool true) ∧ Below w.heap.size w w' := by
  obtain ⟨r, hr⟩ : ∃ r : Nat, a0 % 66 = r := ⟨(a0 % 66).toNat, by omega⟩
  obtain ⟨e, he⟩ : ∃ r : Nat, a1 % 66 = r := ⟨(a1 % 66).toNat, by omega⟩
  obtain ⟨f, hf⟩ : ∃ r : Nat, a2 % 1002 = r := ⟨(a2 % 1002).toNat, by omega⟩
  by_cases hb : 64 < r ∨ 64 < e ∨ 1000 < f
  · exact many_big a0 a1 a2 r e f hr he hf h0 h0' h1 h1' h2 h2' (by omega) (by omega) (by omega) hb w
  · exact many_small a0 a1 a2 r e f hr he hf h0 h0' h1 h1' h2 h2' (by omega) (by omega) (by omega) w
end Go.Proofs.YtoljpnfohlcfaaaGreatDoor
