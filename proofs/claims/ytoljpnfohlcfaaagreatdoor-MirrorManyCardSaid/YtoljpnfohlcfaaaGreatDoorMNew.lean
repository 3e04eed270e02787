/- New makes a mirror. -/
import Derived.Test.YtoljpnfohlcfaaaGreatDoorMPub
import Derived.Test.YtoljpnfohlcfaaaGreatDoorFlt
namespace Go.Proofs.YtoljpnfohlcfaaaGreatDoor
open Go.RowKit
theorem info_bytes : (Tryz.prog.info? 32).map (fun i => (i.zero, i.size, i.bytes)) = some (some (.slice none 0 0), 1, 24) := by kernel_rfl
theorem sty_rows : STy Tryz.prog 27 32 1 24 := STy.mk Tryz.underlying27 info_bytes rfl (by decide) (by decide)
set_option maxHeartbeats 1000000 in
theorem new_ok (rv ev fv : Value) (rl : List (List Int)) (el : List Edn) (fl : List Flt) (w : World) (hR : Reads bytesR w rv rl) (hE : Reads ednR w ev el) (hFv : Reads fltR w fv fl)
    (hlr : ∀ b ∈ rl, b.length ≤ 140737488351232) (hle : ∀ x ∈ el, x.stamp.length ≤ 140737488351232 ∧ x.snap.length ≤ 140737488351232 ∧ x.aim.length ≤ 140737488351232 ∧ x.bundle.length ≤ 140737488351232)
    (hr : rl.length ≤ 64) (he : el.length ≤ 64) (hf : fl.length ≤ 1000) :
    Calls Tryz.prog 4 #[rv, ev, fv] w fun e w' => ∃ p rv' ev' fv', e = .returned (.tuple #[.pointer (some ⟨p, 0, none⟩), .int .i64 0]) ∧ w.heap.size ≤ p ∧
      Blk w' p #[rv', ev', fv', .int .i64 0] 49 ∧ Own bytesR 32 w' w.heap.size (tyO [5]) rv' rl ∧ Own ednR 34 w' w.heap.size (tyO [5]) ev' el ∧ Own fltR 45 w' w.heap.size (tyO []) fv' fl ∧ Below w.heap.size w w' := by
  have HR := Lib.hid hR
  have HE := Lib.hid hE
  have HF := Lib.hid hFv
  obtain ⟨RA, rc, rfl, _⟩ := hR
  obtain ⟨EA, ec, rfl, _⟩ := hE
  obtain ⟨FA, fc, rfl, _⟩ := hFv
  have hd0 : decide ((64 : Int) < (rl.length : Int)) = false := by simp; omega
  have hd1 : decide ((64 : Int) < (el.length : Int)) = false := by simp; omega
  have hd2 : decide ((1000 : Int) < (fl.length : Int)) = false := by simp; omega
  go_enter Tryz.func4, Tryz.ntmps4
  go_wp2_with fail
  refine (cloneF_ok _ _ _ HF.out (by omega)).mono ?_
  rintro e w0 ⟨fv', rfl, hoF, hb0⟩
  obtain ⟨Af, cf, rfl, _⟩ := hoF.shape
  go_wp2_with fail
  have hsz := hb0.size
  refine forget (fun W => Blk W w0.heap.size #[.slice none 0 0, .slice none 0 0, .slice Af fl.length cf, .int .i64 0] 49 ∧ Own fltR 45 W w.heap.size (tyO []) (.slice Af fl.length cf) fl ∧ Below w.heap.size w W) ⟨Blk.new _ _ _, hoF.alloc _, hb0.alloc hsz _⟩ (fun W0 hW0 => ?_)
  go_loopw [33] (fun i wr => ∃ (k : Nat) (Ar : Option Addr) (cr : Nat), k ≤ rl.length ∧ i = .int .i64 k ∧ Blk wr w0.heap.size #[.slice Ar k cr, .slice none 0 0, .slice Af fl.length cf, .int .i64 0] 49 ∧
      Own bytesR 32 wr w.heap.size (tyO [5]) (.slice Ar k cr) (rl.take k) ∧ Own fltR 45 wr w.heap.size (tyO []) (.slice Af fl.length cf) fl ∧ Below w.heap.size w wr) (fun i _ => rl.length - (intOf i).toNat)
  case atStart => exact ⟨0, none, 0, Nat.zero_le _, rfl, hW0.1, Own.nil _ _ _ _ _, hW0.2.1, hW0.2.2⟩
  case round =>
    obtain ⟨k, Ar, cr, hk, rfl, hP, hO, hF, hBl⟩ := hrel
    by_cases hlt : k < rl.length
    · obtain ⟨g, off, c, cs, heq, ⟨sk, rfl, hSk⟩, _, hcell⟩ := sv_at HR.out k hlt
      injection heq with e1 e2 e3
      subst e1 e3
      have hck : wr.cell? ⟨g, off + k, none⟩ = some sk := cell_below (by simpa [bytesR, Rep.slice] using hcell 0 sk rfl) hBl
      have hlk : (rl.take k).length = k := by simp; omega
      replace hlk := Lib.hid hlk
      go_wp2
      refine wp_region_F 9 (fun w' => Blk w' w0.heap.size #[.slice Ar k cr, .slice none 0 0, .slice Af fl.length cf, .int .i64 0] 49 ∧ Own bytesR 32 w' w.heap.size (tyO [5]) (.slice Ar k cr) (rl.take k) ∧ Own fltR 45 w' w.heap.size (tyO []) (.slice Af fl.length cf) fl ∧ Below w.heap.size w w') (by kernel_rfl) ?hC (fun WR hHeld => ?_)
      case hC => exact ⟨hP, hO, hF, hBl.drew⟩
      refine wpAnyC_pure (i := 0) (v := _) (some 37) rfl rfl (by kernel_rfl) (by kernel_rfl) (by kernel_rfl) (fun _ _ _ h => h) (by kernel_rfl) (by kernel_rfl) (by kernel_rfl) (Or.inl ⟨by rfl, fun w _ => by go_simp; (try with_reducible rfl)⟩) (fun _ => hHeld) ?_
      try simp only [Act.put, List.setIfInBounds_toArray, List.set_cons_zero, List.set_cons_succ]
      refine wpAnyC_pure (i := 1) (v := _) (some 38) rfl rfl (by kernel_rfl) (by kernel_rfl) (by kernel_rfl) (fun _ _ _ h => h) (by kernel_rfl) (by kernel_rfl) (by kernel_rfl) (Or.inl ⟨by rfl, fun w _ => by go_simp; (try with_reducible rfl)⟩) (fun _ => hHeld) ?_
      try simp only [Act.put, List.setIfInBounds_toArray, List.set_cons_zero, List.set_cons_succ]
      refine wpAnyC_pure (i := 2) (v := _) (some 39) rfl rfl (by kernel_rfl) (by kernel_rfl) (by kernel_rfl) (fun _ _ _ h => h) (by kernel_rfl) (by kernel_rfl) (by kernel_rfl) (Or.inl ⟨by rfl, fun w _ => by go_simp; (try with_reducible rfl)⟩) (fun _ => hHeld) ?_
      try simp only [Act.put, List.setIfInBounds_toArray, List.set_cons_zero, List.set_cons_succ]
      refine wpAnyC_pure (i := 3) (v := _) (some 40) rfl rfl (by kernel_rfl) (by kernel_rfl) (by kernel_rfl) (fun _ _ _ h => h) (by kernel_rfl) (by kernel_rfl) (by kernel_rfl) (Or.inl ⟨by rfl, fun w _ => by go_simp; (try with_reducible rfl)⟩) (fun _ => hHeld) ?_
      try simp only [Act.put, List.setIfInBounds_toArray, List.set_cons_zero, List.set_cons_succ]
      refine wpAnyC_pure (i := 4) (v := _) (some 41) rfl rfl (by kernel_rfl) (by kernel_rfl) (by kernel_rfl) (fun _ _ _ h => h) (by kernel_rfl) (by kernel_rfl) (by kernel_rfl) (Or.inl ⟨by rfl, fun w _ => by go_simp; (try with_reducible rfl)⟩) (fun _ => hHeld) ?_
      try simp only [Act.put, List.setIfInBounds_toArray, List.set_cons_zero, List.set_cons_succ]
      refine wpAnyC_take (i := 5) (v := _) (some 42) rfl rfl (by kernel_rfl) (by kernel_rfl) (by kernel_rfl) (fun _ _ _ h => h) (by kernel_rfl) (by kernel_rfl) (by kernel_rfl) (by kernel_rfl) (Or.inl ⟨by rfl, fun w hSw => by (try dsimp only at hSw); obtain ⟨q1, _⟩ := hSw; have q3 := q1.cell; go_simp; (try with_reducible rfl)⟩) hHeld ?_
      try simp only [Act.put, List.setIfInBounds_toArray, List.set_cons_zero, List.set_cons_succ]
      refine wpAnyC_pure (i := 6) (v := _) (some 43) rfl rfl (by kernel_rfl) (by kernel_rfl) (by kernel_rfl) (fun _ _ _ h => h) (by kernel_rfl) (by kernel_rfl) (by kernel_rfl) (Or.inl ⟨by rfl, fun w _ => by go_simp; (try with_reducible rfl)⟩) (fun _ => hHeld) ?_
      try simp only [Act.put, List.setIfInBounds_toArray, List.set_cons_zero, List.set_cons_succ]
      refine wpAnyC_do (i := 7) rfl (by kernel_rfl) (fun Kc hKc => ?_)
      go_simp
      go_at_call 11
      refine (clone_ok sk rl[k] _ ((hSk.below hHeld.2.2.2)) (hlr _ (List.getElem_mem hlt))).mono ?_
      rintro e w1 ⟨v0, rfl, ho0, hb1⟩
      obtain ⟨A0, c0, rfl, _⟩ := ho0.shape
      refine hKc.out _ _ ?hC (fun hHeld => ?_)
      case hC => exact ⟨hHeld.1.below hb1, hHeld.2.1.below hb1, hHeld.2.2.1.below hb1, hHeld.2.2.2.trans (hb1.mono hHeld.2.2.2.size)⟩
      clear hKc Kc
      try simp only [Act.put, List.setIfInBounds_toArray, List.set_cons_zero, List.set_cons_succ]
      refine wpAnyC_do (i := 8) rfl (by kernel_rfl) (fun Kc hKc => ?_)
      go_simp
      refine hKc.out _ _ ?hC (fun hHeld => ?_)
      case hC => exact ⟨hHeld.1.alloc _, hHeld.2.1.alloc _, hHeld.2.2.1.alloc _, hHeld.2.2.2.alloc hHeld.2.2.2.size _⟩
      clear hKc Kc
      try simp only [Act.put, List.setIfInBounds_toArray, List.set_cons_zero, List.set_cons_succ]
      refine wpAnyC_end (i := 9) rfl (by kernel_rfl) (by kernel_rfl) (fun Kc hKc => ?_)
      refine step_app (d := bytesR) (ys := [rl[k]]) rfl _ _ rfl sty_rows rfl rfl hHeld.2.1 ?c0 ?c1 ?c2 ?_
      case c0 => exact Src.one (t := 32) (fz := (0, 0)) (heap_alloc_new _ _) ⟨_, rfl, (ho0.readsT.alloc _).mono (hHeld.2.1.apart (by decide))⟩
      case c1 => simp; omega
      case c2 => exact hHeld.2.2.2.size
      intro v2 w2 hoA hg2 hat2
      obtain ⟨Ae', ce', rfl⟩ := hoA.shape_n (k + 1) (by rw [List.length_append, hlk.out]; rfl)
      have hne : some w0.heap.size ≠ (Value.slice Ar k cr).ownBlock := hHeld.2.1.typed hHeld.1 (by decide)
      have z3 := (hHeld.1.grown hg2 hne).cell
      have z4 := (hHeld.1.grown hg2 hne).free
      refine hKc.out _ _ ?_
      clear hKc Kc
      try simp only [Act.put, List.setIfInBounds_toArray, List.set_cons_zero, List.set_cons_succ]
      refine wpAnyC_pure (i := 10) (v := _) (some 47) rfl rfl (by kernel_rfl) (by kernel_rfl) (by kernel_rfl) (fun _ _ _ h => h) (by kernel_rfl) (by kernel_rfl) (by kernel_rfl) (Or.inl ⟨by rfl, fun w _ => by go_simp; (try with_reducible rfl)⟩) (fun h => (by simp at h)) ?_
      try simp only [Act.put, List.setIfInBounds_toArray, List.set_cons_zero, List.set_cons_succ]
      refine wpAnyC_pure (i := 11) (v := _) (some 48) rfl rfl (by kernel_rfl) (by kernel_rfl) (by kernel_rfl) (fun _ _ _ h => h) (by kernel_rfl) (by kernel_rfl) (by kernel_rfl) (Or.inl ⟨by rfl, fun w _ => by go_simp; (try with_reducible rfl)⟩) (fun h => (by simp at h)) ?_
      try simp only [Act.put, List.setIfInBounds_toArray, List.set_cons_zero, List.set_cons_succ]
      refine wpAnyC_pure (i := 12) (v := _) (some 49) rfl rfl (by kernel_rfl) (by kernel_rfl) (by kernel_rfl) (fun _ _ _ h => h) (by kernel_rfl) (by kernel_rfl) (by kernel_rfl) (Or.inl ⟨by rfl, fun w _ => by go_simp; (try with_reducible rfl)⟩) (fun h => (by simp at h)) ?_
      try simp only [Act.put, List.setIfInBounds_toArray, List.set_cons_zero, List.set_cons_succ]
      refine wpAnyC_end (i := 13) rfl (by kernel_rfl) (by kernel_rfl) (fun Kc hKc => ?_)
      go_simp
      refine hKc.out _ _ ?_
      clear hKc Kc
      try simp only [Act.put, List.setIfInBounds_toArray, List.set_cons_zero, List.set_cons_succ]
      refine wpAnyC_done (by kernel_rfl) ?_ _
      go_wp2
      go_roundw
      case rel =>
        have hM2 := hHeld.1.grown hg2 hne
        have ht : rl.take (k + 1) = rl.take k ++ [rl[k]] := List.take_succ_eq_append_getElem hlt
        refine ⟨k + 1, Ae', ce', by omega, by go_num, ?_, ?_, ?_, ?_⟩
        · exact hM2.set 0 _
        · rw [ht]; exact hoA.store hM2 (by decide) 0 _
        · exact (hHeld.2.2.1.far hHeld.2.1 hg2 (by decide)).store hM2 (by decide) _ _
        · exact (below_app hHeld.2.2.2 hg2 (fun k hk => (hHeld.2.1.base k hk).1) hHeld.2.2.2.size).setCell hsz _
      case measure => simp [intOf]; omega
    · obtain rfl : k = rl.length := by omega
      rw [List.take_length] at hO
      clear hlt hk hW0
      go_wp2_with fail
      go_loopw [53] (fun i wr => ∃ (k : Nat) (Ae : Option Addr) (ce : Nat), k ≤ el.length ∧ i = .int .i64 k ∧ Blk wr w0.heap.size #[.slice Ar rl.length cr, .slice Ae k ce, .slice Af fl.length cf, .int .i64 0] 49 ∧
        Own bytesR 32 wr w.heap.size (tyO [5]) (.slice Ar rl.length cr) rl ∧ Own ednR 34 wr w.heap.size (tyO [5]) (.slice Ae k ce) (el.take k) ∧ Own fltR 45 wr w.heap.size (tyO []) (.slice Af fl.length cf) fl ∧ Below w.heap.size w wr) (fun i _ => el.length - (intOf i).toNat)
      case atStart => exact ⟨0, none, 0, Nat.zero_le _, rfl, hP, hO, Own.nil _ _ _ _ _, hF, hBl⟩
      case round =>
        clear hP hO hF hBl
        obtain ⟨k, Ae, ce, hk, rfl, hP, hO, hG, hF, hBl⟩ := hrel
        by_cases hlt : k < el.length
        · obtain ⟨g, off, c, cs, heq, hKe, _, hcell⟩ := sv_at HE.out k hlt
          obtain ⟨s0, s1, s2, s3, rfl, h0, h1, h2, h3, hch⟩ := ednR_elim hKe
          injection heq with e1 e2 e3
          subst e1 e3
          have hc0 : wr.cell? ⟨g, off + k * 5, none⟩ = some s0 := cell_below (by simpa [ednR, Rep.iso, Rep.pair, Rep.slice, Rep.int, Rep.scalar] using hcell 0 _ rfl) hBl
          have hc1 : wr.cell? ⟨g, off + k * 5 + 1, none⟩ = some s1 := cell_below (by simpa [ednR, Rep.iso, Rep.pair, Rep.slice, Rep.int, Rep.scalar, Nat.add_assoc] using hcell 1 _ rfl) hBl
          have hc2 : wr.cell? ⟨g, off + k * 5 + 2, none⟩ = some s2 := cell_below (by simpa [ednR, Rep.iso, Rep.pair, Rep.slice, Rep.int, Rep.scalar, Nat.add_assoc] using hcell 2 _ rfl) hBl
          have hc3 : wr.cell? ⟨g, off + k * 5 + 3, none⟩ = some s3 := cell_below (by simpa [ednR, Rep.iso, Rep.pair, Rep.slice, Rep.int, Rep.scalar, Nat.add_assoc] using hcell 3 _ rfl) hBl
          have hc4 : wr.cell? ⟨g, off + k * 5 + 4, none⟩ = some (.int .i64 el[k].chunk) := cell_below (by simpa [ednR, Rep.iso, Rep.pair, Rep.slice, Rep.int, Rep.scalar, Nat.add_assoc] using hcell 4 _ rfl) hBl
          have hlk : (el.take k).length = k := by simp; omega
          replace hlk := Lib.hid hlk
          have hltw := hP.lt
          obtain ⟨S0, d0, rfl⟩ := h0.shape
          obtain ⟨S1, d1, rfl⟩ := h1.shape
          obtain ⟨S2, d2, rfl⟩ := h2.shape
          obtain ⟨S3, d3, rfl⟩ := h3.shape
          have hle' := hle _ (List.getElem_mem hlt)
          go_wp2
          clear hc0 hc1 hc2 hc3 hc4
          refine wp_region_F 9 (fun w' => Blk w' w0.heap.size #[.slice Ar rl.length cr, .slice Ae k ce, .slice Af fl.length cf, .int .i64 0] 49 ∧ Blk w' wr.heap.size #[.slice S0 el[k].stamp.length d0, .slice S1 el[k].snap.length d1, .slice S2 el[k].aim.length d2, .slice S3 el[k].bundle.length d3, .int .i64 el[k].chunk] 34 ∧ Own bytesR 32 w' w.heap.size (tyO [5]) (.slice Ar rl.length cr) rl ∧ Own ednR 34 w' w.heap.size (tyO [5]) (.slice Ae k ce) (el.take k) ∧ Own fltR 45 w' w.heap.size (tyO []) (.slice Af fl.length cf) fl ∧ Below w.heap.size w w' ∧ wr.heap.size < w'.heap.size) (by kernel_rfl) ?hC (fun WR hHeld => ?_)
          case hC => exact ⟨hP.alloc _, Blk.new _ _ _, hO.alloc _, hG.alloc _, hF.alloc _, (hBl.alloc hBl.size _).drew, by simp⟩
          refine wpAnyC_pure (i := 0) (v := _) (some 57) rfl rfl (by kernel_rfl) (by kernel_rfl) (by kernel_rfl) (fun _ _ _ h => h) (by kernel_rfl) (by kernel_rfl) (by kernel_rfl) (Or.inl ⟨by rfl, fun w _ => by go_simp; (try with_reducible rfl)⟩) (fun _ => hHeld) ?_
          try simp only [Act.put, List.setIfInBounds_toArray, List.set_cons_zero, List.set_cons_succ]
          refine wpAnyC_pure (i := 1) (v := _) (some 58) rfl rfl (by kernel_rfl) (by kernel_rfl) (by kernel_rfl) (fun _ _ _ h => h) (by kernel_rfl) (by kernel_rfl) (by kernel_rfl) (Or.inl ⟨by rfl, fun w _ => by go_simp; (try with_reducible rfl)⟩) (fun _ => hHeld) ?_
          try simp only [Act.put, List.setIfInBounds_toArray, List.set_cons_zero, List.set_cons_succ]
          refine wpAnyC_pure (i := 2) (v := _) (some 59) rfl rfl (by kernel_rfl) (by kernel_rfl) (by kernel_rfl) (fun _ _ _ h => h) (by kernel_rfl) (by kernel_rfl) (by kernel_rfl) (Or.inl ⟨by rfl, fun w _ => by go_simp; (try with_reducible rfl)⟩) (fun _ => hHeld) ?_
          try simp only [Act.put, List.setIfInBounds_toArray, List.set_cons_zero, List.set_cons_succ]
          refine wpAnyC_pure (i := 3) (v := _) (some 60) rfl rfl (by kernel_rfl) (by kernel_rfl) (by kernel_rfl) (fun _ _ _ h => h) (by kernel_rfl) (by kernel_rfl) (by kernel_rfl) (Or.inl ⟨by rfl, fun w _ => by go_simp; (try with_reducible rfl)⟩) (fun _ => hHeld) ?_
          try simp only [Act.put, List.setIfInBounds_toArray, List.set_cons_zero, List.set_cons_succ]
          refine wpAnyC_pure (i := 4) (v := _) (some 61) rfl rfl (by kernel_rfl) (by kernel_rfl) (by kernel_rfl) (fun _ _ _ h => h) (by kernel_rfl) (by kernel_rfl) (by kernel_rfl) (Or.inl ⟨by rfl, fun w _ => by go_simp; (try with_reducible rfl)⟩) (fun _ => hHeld) ?_
          try simp only [Act.put, List.setIfInBounds_toArray, List.set_cons_zero, List.set_cons_succ]
          refine wpAnyC_take (i := 5) (v := _) (some 62) rfl rfl (by kernel_rfl) (by kernel_rfl) (by kernel_rfl) (fun _ _ _ h => h) (by kernel_rfl) (by kernel_rfl) (by kernel_rfl) (by kernel_rfl) (Or.inl ⟨by rfl, fun w hSw => by (try dsimp only at hSw); obtain ⟨q1, q2, _⟩ := hSw; have q3 := q1.cell; have q4 := q2.cell; go_simp; (try with_reducible rfl)⟩) hHeld ?_
          try simp only [Act.put, List.setIfInBounds_toArray, List.set_cons_zero, List.set_cons_succ]
          refine wpAnyC_take (i := 6) (v := _) (some 63) rfl rfl (by kernel_rfl) (by kernel_rfl) (by kernel_rfl) (fun _ _ _ h => h) (by kernel_rfl) (by kernel_rfl) (by kernel_rfl) (by kernel_rfl) (Or.inl ⟨by rfl, fun w hSw => by (try dsimp only at hSw); obtain ⟨q1, q2, _⟩ := hSw; have q3 := q1.cell; have q4 := q2.cell; go_simp; (try with_reducible rfl)⟩) hHeld ?_
          try simp only [Act.put, List.setIfInBounds_toArray, List.set_cons_zero, List.set_cons_succ]
          refine wpAnyC_do (i := 7) rfl (by kernel_rfl) (fun Kc hKc => ?_)
          go_simp
          go_at_call 12
          refine (own_ok _ _ _ _ el[k].stamp el[k].snap el[k].aim el[k].bundle _ _ (h0.below hHeld.2.2.2.2.2.1) (h1.below hHeld.2.2.2.2.2.1) (h2.below hHeld.2.2.2.2.2.1) (h3.below hHeld.2.2.2.2.2.1) hle'.1 hle'.2.1 hle'.2.2.1 hle'.2.2.2).mono ?_
          rintro e w1 ⟨v0, v1, v2, v3, rfl, ho0, ho1, ho2, ho3, hb1⟩
          obtain ⟨A0, c0, rfl, _⟩ := ho0.shape
          obtain ⟨A1, c1, rfl, _⟩ := ho1.shape
          obtain ⟨A2, c2, rfl, _⟩ := ho2.shape
          obtain ⟨A3, c3, rfl, _⟩ := ho3.shape
          refine hKc.out _ _ ?hC (fun hHeld => ?_)
          case hC => exact ⟨hHeld.1.below hb1, hHeld.2.1.below hb1, hHeld.2.2.1.below hb1, hHeld.2.2.2.1.below hb1, hHeld.2.2.2.2.1.below hb1, hHeld.2.2.2.2.2.1.trans (hb1.mono hHeld.2.2.2.2.2.1.size), Nat.lt_of_lt_of_le hHeld.2.2.2.2.2.2 hb1.size⟩
          clear hKc Kc
          try simp only [Act.put, List.setIfInBounds_toArray, List.set_cons_zero, List.set_cons_succ]
          refine wpAnyC_do (i := 8) rfl (by kernel_rfl) (fun Kc hKc => ?_)
          go_simp
          refine hKc.out _ _ ?hC (fun hHeld => ?_)
          case hC => exact ⟨hHeld.1.alloc _, hHeld.2.1.alloc _, hHeld.2.2.1.alloc _, hHeld.2.2.2.1.alloc _, hHeld.2.2.2.2.1.alloc _, hHeld.2.2.2.2.2.1.alloc hHeld.2.2.2.2.2.1.size _, by have := hHeld.2.2.2.2.2.2; simp; omega⟩
          clear hKc Kc
          try simp only [Act.put, List.setIfInBounds_toArray, List.set_cons_zero, List.set_cons_succ]
          refine wpAnyC_end (i := 9) rfl (by kernel_rfl) (by kernel_rfl) (fun Kc hKc => ?_)
          refine step_app (d := ednR) (ys := [el[k]]) rfl _ _ rfl sty_eds rfl rfl hHeld.2.2.2.1 ?c0 ?c1 ?c2 ?_
          case c0 => exact Src.one (t := 34) (fz := (0, 0)) (heap_alloc_new _ _) (ednR.mono (hHeld.2.2.2.1.apart (by decide)) (ednR_mk (x := el[k]) (ho0.readsT.alloc _) (ho1.readsT.alloc _) (ho2.readsT.alloc _) (ho3.readsT.alloc _) hch))
          case c1 => simp; omega
          case c2 => exact hHeld.2.2.2.2.2.1.size
          intro v2 w2 hoA hg2 hat2
          obtain ⟨Ae', ce', rfl⟩ := hoA.shape_n (k + 1) (by rw [List.length_append, hlk.out]; rfl)
          have hne : some w0.heap.size ≠ (Value.slice Ae k ce).ownBlock := hHeld.2.2.2.1.typed hHeld.1 (by decide)
          have z3 := (hHeld.1.grown hg2 hne).cell
          have z4 := (hHeld.1.grown hg2 hne).free
          refine hKc.out _ _ ?_
          clear hKc Kc
          try simp only [Act.put, List.setIfInBounds_toArray, List.set_cons_zero, List.set_cons_succ]
          refine wpAnyC_pure (i := 10) (v := _) (some 67) rfl rfl (by kernel_rfl) (by kernel_rfl) (by kernel_rfl) (fun _ _ _ h => h) (by kernel_rfl) (by kernel_rfl) (by kernel_rfl) (Or.inl ⟨by rfl, fun w _ => by go_simp; (try with_reducible rfl)⟩) (fun h => (by simp at h)) ?_
          try simp only [Act.put, List.setIfInBounds_toArray, List.set_cons_zero, List.set_cons_succ]
          refine wpAnyC_pure (i := 11) (v := _) (some 68) rfl rfl (by kernel_rfl) (by kernel_rfl) (by kernel_rfl) (fun _ _ _ h => h) (by kernel_rfl) (by kernel_rfl) (by kernel_rfl) (Or.inl ⟨by rfl, fun w _ => by go_simp; (try with_reducible rfl)⟩) (fun h => (by simp at h)) ?_
          try simp only [Act.put, List.setIfInBounds_toArray, List.set_cons_zero, List.set_cons_succ]
          refine wpAnyC_pure (i := 12) (v := _) (some 69) rfl rfl (by kernel_rfl) (by kernel_rfl) (by kernel_rfl) (fun _ _ _ h => h) (by kernel_rfl) (by kernel_rfl) (by kernel_rfl) (Or.inl ⟨by rfl, fun w _ => by go_simp; (try with_reducible rfl)⟩) (fun h => (by simp at h)) ?_
          try simp only [Act.put, List.setIfInBounds_toArray, List.set_cons_zero, List.set_cons_succ]
          refine wpAnyC_end (i := 13) rfl (by kernel_rfl) (by kernel_rfl) (fun Kc hKc => ?_)
          go_simp
          refine hKc.out _ _ ?_
          clear hKc Kc
          try simp only [Act.put, List.setIfInBounds_toArray, List.set_cons_zero, List.set_cons_succ]
          refine wpAnyC_done (by kernel_rfl) ?_ _
          go_wp2
          go_roundw
          case rel =>
            have hM2 := hHeld.1.grown hg2 hne
            have ht : el.take (k + 1) = el.take k ++ [el[k]] := List.take_succ_eq_append_getElem hlt
            refine ⟨k + 1, Ae', ce', by omega, by go_num, ?_, ?_, ?_, ?_, ?_⟩
            · exact hM2.set 1 _
            · exact (hHeld.2.2.1.far hHeld.2.2.2.1 hg2 (by decide)).store hM2 (by decide) _ _
            · rw [ht]; exact hoA.store hM2 (by decide) 1 _
            · exact (hHeld.2.2.2.2.1.far hHeld.2.2.2.1 hg2 (by decide)).store hM2 (by decide) _ _
            · exact (below_app hHeld.2.2.2.2.2.1 hg2 (fun k hk => (hHeld.2.2.2.1.base k hk).1) hHeld.2.2.2.2.2.1.size).setCell hsz _
          case measure => simp [intOf]; omega
        · obtain rfl : k = el.length := by omega
          rw [List.take_length] at hG
          clear hlt
          go_wp2
          go_ret2
          exact ⟨_, _, _, _, rfl, hsz, hP, hO, hG, hF, hBl⟩
theorem new_long (RA EA FA : Option Addr) (r rc e ec f fc : Nat) (w : World) (h : 64 < r ∨ 64 < e ∨ 1000 < f) (hr : r ≤ 9223372036854775807) (he : e ≤ 9223372036854775807) (hf : f ≤ 9223372036854775807) :
    Calls Tryz.prog 4 #[.slice RA r rc, .slice EA e ec, .slice FA f fc] w fun e w' => e = .returned (.tuple #[.pointer none, .int .i64 2]) ∧ w = w' := by
  by_cases h0 : 64 < r
  · have hd0 : decide ((64 : Int) < (r : Int)) = true := by simp; omega
    go_enter Tryz.func4, Tryz.ntmps4
    go_wp2
    go_ret2
    exact ⟨rfl, rfl⟩
  · have hd0 : decide ((64 : Int) < (r : Int)) = false := by simp; omega
    by_cases h1 : 64 < e
    · have hd1 : decide ((64 : Int) < (e : Int)) = true := by simp; omega
      go_enter Tryz.func4, Tryz.ntmps4
      go_wp2
      go_ret2
      exact ⟨rfl, rfl⟩
    · have hd1 : decide ((64 : Int) < (e : Int)) = false := by simp; omega
      have hd2 : decide ((1000 : Int) < (f : Int)) = true := by simp; omega
      go_enter Tryz.func4, Tryz.ntmps4
      go_wp2
      go_ret2
      exact ⟨rfl, rfl⟩
end Go.Proofs.YtoljpnfohlcfaaaGreatDoor
