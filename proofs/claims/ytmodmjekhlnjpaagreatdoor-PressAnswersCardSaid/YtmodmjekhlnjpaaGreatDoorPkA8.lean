/- The proof of PressAnswers, part 8 of 14 (texts joined and shortened by a program: PRowW PRow1). -/
import Derived.Test.YtmodmjekhlnjpaaGreatDoorPkA7
namespace Go.Proofs.YtmodmjekhlnjpaaGreatDoor
open Go.ChangeShapes Go.WideShapes Go.ChangeAt Go.RowKit Lf
set_option maxRecDepth 100000 in
theorem witness_there (os : Os) {H : Type} (enc : TypeId × Value → H) : ∃ (w : World) (tape : Tape) (i : Input), w.os = os ∧ (w.forCall tape i).Shaped Tryz.checked.prog ∧ i.vars = [] ∧ Input.okWide Tryz.checked.prog (w.forCall tape i) .any w.heap.size 3 i ∧
    ((Rows.pressAnswersSpec.pre enc Tryz.checked.prog Tryz.f3 [] false (w.forCall tape i).memory i.args ∧ laidMetH Tryz.prog Rows.pressAnswersRow.laid (w.forCall tape i).memory) ∧ sizedMet enc Tryz.checked.prog Tryz.f3 (OpenSpec.ofChange Rows.pressAnswersSpec) false (w.forCall tape i).memory i.args) ∧ ({} : Assume).holds Tryz.checked.prog (lone (Frame.enter Tryz.checked.prog 3 i.args .normal) [] (w.forCall tape i)) :=
  ChangeSpec.witness_shaped (enc := enc) (C := Tryz.checked) (os := os) (X := fun w _ => laidMetH Tryz.prog Rows.pressAnswersRow.laid w) false (World.laidAll Tryz.prog os Rows.pressAnswersRow.laid) #[.agg #[.slice none 0 0, .slice none 0 0, .slice none 0 0, .slice none 0 0, .int .i64 0], .slice none 0 0, .agg #[.int .i64 0, .int .i64 0, .int .i64 0]] 8 (World.laidAll_os _ _ _) (World.shaped_of_ZipB (by kernel_rfl) (by kernel_rfl)) (by kernel_rfl) (by kernel_rfl) (by kernel_rfl) (start_met os _)
end Go.Proofs.YtmodmjekhlnjpaaGreatDoor
namespace Go.Proofs.YtmodmjekhlnjpaaGreatDoor
open Go.ChangeShapes Go.WideShapes Go.ChangeAt Go.RowKit Lf
set_option maxRecDepth 100000 in
theorem pressAnswers_lifted (os : Os) (started : os.Started) (H : Type) (enc : TypeId × Value → H) :
    ReturnsInHanded {} Tryz.checked os 3 .any (fun w args => (Rows.pressAnswersSpec.pre enc Tryz.prog Tryz.f3 [] false w args ∧ laidMetH Tryz.prog Rows.pressAnswersRow.laid w) ∧ sizedMet enc Tryz.prog Tryz.f3 (OpenSpec.ofChange Rows.pressAnswersSpec) false w args)
      (Rows.pressAnswersSpec.post enc Tryz.prog Tryz.f3 false true false false) := by
  refine returnsInHanded_of_change_and (C := Tryz.checked) (X := fun w _ => laidMetH Tryz.prog Rows.pressAnswersRow.laid w) (fun _ _ _ hh h => h.of_heap hh) ownKnob_none started (by kernel_rfl) Tryz.func3
    (witness_there os enc) ?_
  intro W base args ds gs before hval0 hW _ hwt hL _
  have hval : ∀ (j : Nat) t v, Tryz.f3.params[j]? = some t → args[j]? = some v → Value.okWide Tryz.prog W .any base t v := hval0
  have hW' := hW
  obtain ⟨p, q, hA0, hV, rfl, hfz, hnd⟩ := hW
  have hA : DataW.TrodAll enc Tryz.prog W 0 (fun _ => true) true Tryz.f3.params.toList args.toList ds p := hA0
  have hwt' : (DataW.weightsEach Tryz.prog (Tryz.f3.params.toList ++ []) (ds ++ gs)).all (· ≤ reachBytes) = true := hwt
  rw [Tryz.params3] at hA hval hwt'
  obtain ⟨v0, vs0, d0, ds0, p0, q0, hargs, rfl, rfl, h0, r0⟩ := trodAll_cons hA
  obtain ⟨v1, vs1, d1, ds1, p1, q1, rfl, rfl, rfl, h1, r1⟩ := trodAll_cons r0
  obtain ⟨v2, vs2, d2, ds2, p2, q2, rfl, rfl, rfl, h2, r2⟩ := trodAll_cons r1
  obtain ⟨rfl, rfl, rfl⟩ := trodAll_nil r2
  obtain rfl : args = #[v0, v1, v2] := Array.ext' hargs
  obtain ⟨rfl, rfl⟩ := trodVars_none hV
  have wt0 := weigh hwt' (j := 0) (t := 24) (d := d0) rfl rfl
  have wt1 := weigh hwt' (j := 1) (t := 25) (d := d1) rfl rfl
  obtain ⟨cs0, rfl, sz0⟩ := okWide_struct Tryz.underlying24 (hval 0 24 v0 rfl rfl)
  obtain ⟨s1, n1, k1, rfl⟩ := okWide_slice Tryz.underlying25 (hval 1 25 v1 rfl rfl)
  obtain ⟨cs2, rfl, sz2⟩ := okWide_struct Tryz.underlying27 (hval 2 27 v2 rfl rfl)
  rw [show Tryz.prog.cellsOf 24 = 5 by kernel_rfl] at sz0
  rw [show Tryz.prog.cellsOf 27 = 3 by kernel_rfl] at sz2
  obtain ⟨a0, a1, a2, a3, a4, rfl⟩ := five sz0
  obtain ⟨b0, b1, b2, rfl⟩ := three sz2
  obtain ⟨fu0, t0⟩ := h0
  obtain ⟨fu1, t1⟩ := h1
  obtain ⟨fu2, t2⟩ := h2
  have wt2 : ∀ n ∈ (d2, p2).1.weights Tryz.prog 27, n ≤ 140737488355328 := weigh hwt' (j := 2) (t := 27) (d := d2) rfl rfl
  have e1 : Tryz.prog.cellsOf 22 = 1 := by kernel_rfl
  have e2 : Tryz.prog.cellsOf 2 = 1 := by kernel_rfl
  have e3 : Tryz.prog.cellsOf 3 = 1 := by kernel_rfl
  obtain ⟨x0, ⟨u0, f0, k0⟩, -, y0⟩ := opn_field Tryz.underlying24 0 rfl (opn_bytes W) t0 wt0
  obtain ⟨x1, ⟨u1, f1, k1'⟩, -, y1⟩ := opn_field Tryz.underlying24 1 rfl (opn_bytes W) t0 wt0
  obtain ⟨x2, ⟨u2, f2, k2⟩, -, y2⟩ := opn_field Tryz.underlying24 2 rfl (opn_bytes W) t0 wt0
  obtain ⟨x3, ⟨u3, f3, k3⟩, -, y3⟩ := opn_field Tryz.underlying24 3 rfl (opn_bytes W) t0 wt0
  obtain ⟨x4, ⟨f4, -⟩, y4⟩ := opn_field Tryz.underlying24 4 rfl (opn_i64 W) t0 wt0
  obtain ⟨z0, ⟨g0, -⟩, -⟩ := opn_field Tryz.underlying27 0 rfl (opn_int W) t2 wt2
  obtain ⟨z1, ⟨g1, -⟩, w1⟩ := opn_field Tryz.underlying27 1 rfl (opn_i64 W) t2 wt2
  obtain ⟨z2, ⟨g2, -⟩, w2⟩ := opn_field Tryz.underlying27 2 rfl (opn_int W) t2 wt2
  obtain ⟨rr, ⟨ur, fr, kr⟩, lr, yr⟩ := (opn_texts W).2 enc true fu1 _ _ t1 wt1
  simp only [e1, e2, e3] at f0 f1 f2 f3 f4 g0 g1 g2
  obtain rfl : a0 = u0 := List.singleton_inj.1 f0
  obtain rfl : a1 = u1 := List.singleton_inj.1 f1
  obtain rfl : a2 = u2 := List.singleton_inj.1 f2
  obtain rfl : a3 = u3 := List.singleton_inj.1 f3
  obtain rfl : a4 = .int .i64 x4 := List.singleton_inj.1 f4
  obtain rfl : b0 = .int .i64 z0 := List.singleton_inj.1 g0
  obtain rfl : b1 = .int .i64 z1 := List.singleton_inj.1 g1
  obtain rfl : b2 = .int .i64 z2 := List.singleton_inj.1 g2
  obtain rfl : Value.slice s1 n1 k1 = ur := List.singleton_inj.1 fr
  obtain ⟨hct, hst⟩ := laid_two hL
  have hlaw := p_law 281474976710656 (by decide) x0 x1 x2 x3 x4 rr z0 z1 z2 y0 y1 y2 y3 (fun x hx => (yr x hx).2) lr (fun x hx => (yr x hx).1) (i64_le w1) (i64_le w2)
  have hf := lf_law16_PressAnswers_ok 281474976710656 x0 x1 x2 x3 x4 rr z0 z1 z2 a0 a1 a2 a3 (.slice s1 n1 k1) W [] [Rd (un .u8) a0 x0, Rd (un .u8) a1 x1, Rd (un .u8) a2 x2, Rd (un .u8) a3 x3, Rd (Rep.slice (un .u8)) (.slice s1 n1 k1) rr, Cl 8 0 constsV, Cl 7 0 startsV]
    (.head _) (.tail _ (.head _)) (.tail _ (.tail _ (.head _))) (.tail _ (.tail _ (.tail _ (.head _)))) (.tail _ (.tail _ (.tail _ (.tail _ (.head _))))) (.tail _ (.tail _ (.tail _ (.tail _ (.tail _ (.head _)))))) (.tail _ (.tail _ (.tail _ (.tail _ (.tail _ (.tail _ (.head _))))))) hlaw
  have hs : St W W [] [Rd (un .u8) a0 x0, Rd (un .u8) a1 x1, Rd (un .u8) a2 x2, Rd (un .u8) a3 x3, Rd (Rep.slice (un .u8)) (.slice s1 n1 k1) rr, Cl 8 0 constsV, Cl 7 0 startsV] := by
    refine St.begin W fun r hr => ?_
    rcases List.mem_cons.1 hr with rfl | hr
    · exact k0
    rcases List.mem_cons.1 hr with rfl | hr
    · exact k1'
    rcases List.mem_cons.1 hr with rfl | hr
    · exact k2
    rcases List.mem_cons.1 hr with rfl | hr
    · exact k3
    rcases List.mem_cons.1 hr with rfl | hr
    · exact kr
    rcases List.mem_cons.1 hr with rfl | hr
    · exact hct
    rcases List.mem_cons.1 hr with rfl | hr
    · exact hst
    · cases hr
  have lt0 := DataW.trod_lt _ _ _ _ t0
  have lt1 := DataW.trod_lt _ _ _ _ t1
  have lt2 := DataW.trod_lt _ _ _ _ t2
  simp only [List.append_nil] at hW'
  refine (hf W hs).mono fun e W' ⟨v, s, r, he, ⟨hv, _, _⟩, hst'⟩ => ?_
  subst he
  subst hv
  have bel := hst'.below
  exact ⟨_, rfl, _, _, _, [], _, [], hW', trodAll_mk1 (shut_bool Tryz.underlying4 _),
    (trodAll_cons_mk (Below.trod laidOut (by kernel_rfl) (of_decide_eq_true (by kernel_rfl)) ⟨fu0, t0⟩ bel lt0)
      (trodAll_cons_mk (Below.trod laidOut (by kernel_rfl) (of_decide_eq_true (by kernel_rfl)) ⟨fu1, t1⟩ bel lt1)
        (trodAll_cons_mk (Below.trod laidOut (by kernel_rfl) (of_decide_eq_true (by kernel_rfl)) ⟨fu2, t2⟩ bel lt2) trodAll_mk0))), rfl, bel.frame _, fun h => by cases h⟩

end Go.Proofs.YtmodmjekhlnjpaaGreatDoor
