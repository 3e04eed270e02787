/- The proof of PressAnswers, part 3 of 14 (texts joined and shortened by a program: LfA). -/
import Derived.Test.YtmodmjekhlnjpaaGreatDoorPkA2
namespace Go.Proofs.YtmodmjekhlnjpaaGreatDoor
open Go.RowKit Lf
set_option maxRecDepth 4000
theorem info_3 : (Tryz.prog.info? 3).map (fun i => (i.zero, i.size, i.bytes)) = some (some (.int .i64 0), 1, 8) := by kernel_rfl
theorem info_5 : (Tryz.prog.info? 5).map (fun i => (i.zero, i.size, i.bytes)) = some (some (.int .u8 0), 1, 1) := by kernel_rfl
theorem info_22 : (Tryz.prog.info? 22).map (fun i => (i.zero, i.size, i.bytes)) = some (some (.slice none 0 0), 1, 24) := by kernel_rfl
theorem info_97 : (Tryz.prog.info? 97).map (fun i => (i.zero, i.size, i.bytes)) = some (some (.int .u64 0), 1, 8) := by kernel_rfl
theorem info_99 : (Tryz.prog.info? 99).map (fun i => (i.zero, i.size, i.bytes)) = some (some (.agg #[.int .i64 0, .int .u64 0, .slice none 0 0, .slice none 0 0]), 4, 64) := by kernel_rfl
theorem sty_22 : STy Tryz.prog 22 5 1 1 := STy.mk Tryz.underlying22 info_5 rfl (by decide) (by decide)
theorem sty_25 : STy Tryz.prog 25 22 1 24 := STy.mk Tryz.underlying25 info_22 rfl (by decide) (by decide)
theorem sty_96 : STy Tryz.prog 96 99 4 64 := STy.mk Tryz.underlying96 info_99 rfl (by decide) (by decide)
theorem sty_181 : STy Tryz.prog 181 97 1 8 := STy.mk Tryz.underlying181 info_97 rfl (by decide) (by decide)
theorem sty_240 : STy Tryz.prog 240 3 1 8 := STy.mk Tryz.underlying240 info_3 rfl (by decide) (by decide)
theorem open_Rep_slice_un_u8 {w0 : World} {sps : List Sp} {rs : List Fa} {gg off m c : Nat} {p : Int} {xs : List (List Nat)} {y : (List Nat)} (hm : Rd (Rep.slice (un .u8)) (.slice (some ⟨gg, off, none⟩) m c) xs ∈ rs) (hy : getO xs p = some y) : En w0 sps rs fun s r => ∃ (A0 : Option Addr) (c0 : Nat), sps = s ∧ Cl gg (off + p.toNat * 1) [.slice A0 y.length c0] :: Rd (un .u8) (.slice A0 y.length c0) y :: rs = r := fun W hs => by
  obtain ⟨hb, o, h1, h2, h3, h4⟩ := hs
  obtain ⟨cs, hc, hK⟩ := rd_elem (h4 _ hm) hy
  obtain ⟨v0, rfl, j0⟩ := hK
  obtain ⟨A0, c0, rfl, q0⟩ := id j0
  exact ⟨_, _, ⟨hb, o, h1, h2, h3, fun r hr => by
    rcases List.mem_cons.1 hr with rfl | hr
    · exact hc
    rcases List.mem_cons.1 hr with rfl | hr
    · exact j0
    · exact h4 r hr⟩, A0, c0, rfl, rfl⟩
theorem open_gN {w0 : World} {sps : List Sp} {rs : List Fa} {gg off m c : Nat} {p : Int} {xs : List GNode} {y : GNode} (hm : Rd gN (.slice (some ⟨gg, off, none⟩) m c) xs ∈ rs) (hy : getO xs p = some y) : En w0 sps rs fun s r => ∃ (A0 : Option Addr) (c0 : Nat) (A1 : Option Addr) (c1 : Nat), sps = s ∧ Cl gg (off + p.toNat * 4) [.int .i64 y.kind, .int .u64 ((y.num : Nat) : Int), .slice A0 y.bytes.length c0, .slice A1 y.list.length c1] :: Rd (un .u8) (.slice A0 y.bytes.length c0) y.bytes :: Rd gN (.slice A1 y.list.length c1) y.list :: rs = r := fun W hs => by
  obtain ⟨hb, o, h1, h2, h3, h4⟩ := hs
  obtain ⟨cs, hc, hK⟩ := rd_elem (h4 _ hm) hy
  rw [gN_iff] at hK
  obtain ⟨v0, v1, rfl, j0, j1⟩ := hK
  obtain ⟨A0, c0, rfl, q0⟩ := id j0
  obtain ⟨A1, c1, rfl, q1⟩ := id j1
  exact ⟨_, _, ⟨hb, o, h1, h2, h3, fun r hr => by
    rcases List.mem_cons.1 hr with rfl | hr
    · exact hc
    rcases List.mem_cons.1 hr with rfl | hr
    · exact j0
    rcases List.mem_cons.1 hr with rfl | hr
    · exact j1
    · exact h4 r hr⟩, A0, c0, A1, c1, rfl, rfl⟩
def lf_ref02_Pad_l1 (K : Nat) (p1 : Int) : Nat → (List Nat) → Nat → Int → Option ((List Nat) × Nat × Int)
  | 0, _, _, _ => none
  | k + 1, x2, x3, x4 => (bif (decide (x4 < (IntKind.wrap .i64 (p1.tdiv (32 : Int))))) then ((appO ([((x3 % 256) % 2 ^ 8)] : List Nat) x2).bind fun y2 => (lf_ref02_Pad_l1 K p1 k y2 (x3 / 256 % 2 ^ 64) (IntKind.wrap .i64 (x4 + (1 : Int))))) else (some (x2, x3, x4)))
def lf_ref02_Pad_l0 (K : Nat) (p0 : Int) (p1 : Int) : Nat → (List Nat) → Option (List Nat)
  | 0, _ => none
  | k + 1, x1 => (chk (decide ((IntKind.wrap .i64 (p1.tdiv (4 : Int))) ≠ 0)) (bif (decide (((IntKind.wrap .i64 ((IntKind.wrap .i64 (p0 + ((x1.length : Nat) : Int))) + (IntKind.wrap .i64 (p1.tdiv (32 : Int))))).tmod (IntKind.wrap .i64 (p1.tdiv (4 : Int)))) ≠ (0 : Int))) then ((appO x1 ([0] : List Nat)).bind fun y1 => (lf_ref02_Pad_l0 K p0 p1 k y1)) else (some x1)))
def lf_ref02_Pad_l3 (K : Nat) (p1 : Int) : Nat → (List Nat) → Nat → Int → Option ((List Nat) × Nat × Int)
  | 0, _, _, _ => none
  | k + 1, x6, x7, x8 => (bif (decide (x8 < (IntKind.wrap .i64 (p1.tdiv (32 : Int))))) then ((appO ([((x7 % 256) % 2 ^ 8)] : List Nat) x6).bind fun y5 => (lf_ref02_Pad_l3 K p1 k y5 (x7 / 256 % 2 ^ 64) (IntKind.wrap .i64 (x8 + (1 : Int))))) else (some (x6, x7, x8)))
def lf_ref02_Pad_l2 (K : Nat) (p0 : Int) (p1 : Int) : Nat → (List Nat) → Option (List Nat)
  | 0, _ => none
  | k + 1, x5 => (chk (decide ((IntKind.wrap .i64 (p1.tdiv (4 : Int))) ≠ 0)) (bif (decide (((IntKind.wrap .i64 ((IntKind.wrap .i64 (p0 + ((x5.length : Nat) : Int))) + (IntKind.wrap .i64 (p1.tdiv (32 : Int))))).tmod (IntKind.wrap .i64 (p1.tdiv (4 : Int)))) ≠ (0 : Int))) then ((appO x5 ([0] : List Nat)).bind fun y4 => (lf_ref02_Pad_l2 K p0 p1 k y4)) else (some x5)))
def lf_ref02_Pad (K : Nat) (p0 : Int) (p1 : Int) : Option ((List Nat) × Int) := (bif (decide (p1 ≠ (256 : Int))) then (bif (decide (p1 ≠ (512 : Int))) then (some (([] : List Nat), (1 : Int))) else (bif (decide (p0 < (0 : Int))) then (some (([] : List Nat), (1 : Int))) else (bif (decide (p0 > (1048576 : Int))) then (some (([] : List Nat), (2 : Int))) else ((lf_ref02_Pad_l0 K p0 p1 K ([128] : List Nat)).bind (fun z1 => ((lf_ref02_Pad_l1 K p1 K ([] : List Nat) (((toU .u64 p0) * 8) % 2 ^ 64) (0 : Int)).bind (fun qz2 => un2 qz2 (fun z2 => fun qz3 => un2 qz3 (fun z3 => fun z4 => ((appO z1 z2).bind fun y3 => (some (y3, (0 : Int))))))))))))) else (bif (decide (p0 < (0 : Int))) then (some (([] : List Nat), (1 : Int))) else (bif (decide (p0 > (1048576 : Int))) then (some (([] : List Nat), (2 : Int))) else ((lf_ref02_Pad_l2 K p0 p1 K ([128] : List Nat)).bind (fun z5 => ((lf_ref02_Pad_l3 K p1 K ([] : List Nat) (((toU .u64 p0) * 8) % 2 ^ 64) (0 : Int)).bind (fun qz6 => un2 qz6 (fun z6 => fun qz7 => un2 qz7 (fun z7 => fun z8 => ((appO z5 z6).bind fun y6 => (some (y6, (0 : Int)))))))))))))
theorem lf_ref02_Pad_ok (K : Nat) (p0 : Int) (p1 : Int)  (w0 : World) (sps : List Sp) (rs : List Fa)  {r0 : (List Nat)} {r1 : Int} (h : lf_ref02_Pad K p0 p1 = some (r0, r1)) : FnOk Tryz.prog 241 #[.int .i64 p0, .int .i64 p1] w0 sps rs (fun v s q => ∃ (qr0 : Value), v = .tuple #[qr0, .int .i64 r1] ∧ Row (un .u8) 5 qr0 r0 :: sps = s ∧ rs = q) := by
  unfold lf_ref02_Pad at h
  refine fn_enter Tryz.func241 rfl Tryz.ntmps241 rfl ?_
  refine cs_seq ?_
  refine cs_seq_region [0, 1] rfl ?_
  refine c_assign rfl rfl rfl rfl (v := (.slice none 0 0)) rfl ?_
  refine c_assign rfl rfl rfl rfl (v := (.int .i64 (0 : Int))) rfl ?_
  refine can_nil ?_
  refine ps_then ?_
  refine cs_seq ?_
  refine cs_seq ?_
  refine cs_seq_region [0, 1, 2, 3, 4, 5, 6, 7, 8, 9] rfl ?_
  refine c_move rfl rfl rfl rfl (v := (.int .i64 p1)) rfl ?_
  refine l_neqI (p := p1) (q := (256 : Int)) rfl rfl rfl rfl rfl rfl ?_
  refine c_move rfl rfl rfl rfl (v := (.bool (decide (p1 ≠ (256 : Int))))) rfl ?_
  refine can_splitL 14 (b := (decide (p1 ≠ (256 : Int)))) rfl h (fun hg1 h => ?_) (fun hg1 h => ?_)
  · refine c_move rfl rfl rfl rfl (v := (.int .i64 p1)) rfl ?_
    refine l_neqI (p := p1) (q := (512 : Int)) rfl rfl rfl rfl rfl rfl ?_
    refine c_pick rfl rfl rfl rfl rfl (by conv => lhs; whnf) ?_
    refine c_move rfl rfl rfl rfl (v := (.bool (decide (p1 ≠ (512 : Int))))) rfl ?_
    refine can_splitL 18 (b := (decide (p1 ≠ (512 : Int)))) rfl h (fun hg2 h => ?_) (fun hg2 h => ?_)
    · refine can_skip rfl rfl rfl (Or.inl rfl) ?_
      refine can_skip rfl rfl rfl (Or.inl rfl) ?_
      refine c_pick rfl rfl rfl rfl rfl (by conv => lhs; whnf) ?_
      refine can_nil ?_
      refine ps_then ?_
      refine cs_true rfl ?_
      refine cs_seq ?_
      refine cs_seq_region [0, 1] rfl ?_
      refine c_assign rfl rfl rfl rfl (v := (.slice none 0 0)) rfl ?_
      refine c_assign rfl rfl rfl rfl (v := (.int .i64 (1 : Int))) rfl ?_
      refine can_nil ?_
      refine ps_then ?_
      refine cs_ret ?_
      refine ps_then_ret ?_
      refine ps_en (en_nilRow (un .u8) 5) ?_
      rintro _ _ ⟨rfl, rfl⟩
      have hz0 := Option.some.inj h
      obtain ⟨rfl, hz1⟩ := prod2 hz0
      obtain rfl := hz1
      refine ps_en (en_keep (rs) (fun r hr => hr)) ?_
      rintro _ _ ⟨rfl, rfl⟩
      apply ps_end2 rfl Tryz.results241 rfl rfl
      · exact ⟨_, rfl, rfl, rfl⟩
      · exact .mk .refl .refl
    · refine c_move rfl rfl rfl rfl (v := (.int .i64 p0)) rfl ?_
      refine c_lss (p := p0) (q := (0 : Int)) rfl rfl rfl rfl rfl rfl ?_
      refine c_pick rfl rfl rfl rfl rfl (by conv => lhs; whnf) ?_
      refine can_nil ?_
      refine ps_then ?_
      refine cs_condL (b := (decide (p0 < (0 : Int)))) rfl h (fun hc1 h => ?_) (fun hc1 h => ?_)
      · refine cs_seq ?_
        refine cs_seq_region [0, 1] rfl ?_
        refine c_assign rfl rfl rfl rfl (v := (.slice none 0 0)) rfl ?_
        refine c_assign rfl rfl rfl rfl (v := (.int .i64 (1 : Int))) rfl ?_
        refine can_nil ?_
        refine ps_then ?_
        refine cs_ret ?_
        refine ps_then_ret ?_
        refine ps_en (en_nilRow (un .u8) 5) ?_
        rintro _ _ ⟨rfl, rfl⟩
        have hz0 := Option.some.inj h
        obtain ⟨rfl, hz1⟩ := prod2 hz0
        obtain rfl := hz1
        refine ps_en (en_keep (rs) (fun r hr => hr)) ?_
        rintro _ _ ⟨rfl, rfl⟩
        apply ps_end2 rfl Tryz.results241 rfl rfl
        · exact ⟨_, rfl, rfl, rfl⟩
        · exact .mk .refl .refl
      · refine cs_skip ?_
        refine ps_then ?_
        refine cs_seq ?_
        refine cs_seq ?_
        refine cs_seq_region [0, 1] rfl ?_
        refine c_move rfl rfl rfl rfl (v := (.int .i64 p0)) rfl ?_
        refine c_gtr (p := p0) (q := (1048576 : Int)) rfl rfl rfl rfl rfl rfl ?_
        refine can_nil ?_
        refine ps_then ?_
        refine cs_condL (b := (decide (p0 > (1048576 : Int)))) rfl h (fun hc2 h => ?_) (fun hc2 h => ?_)
        · refine cs_seq ?_
          refine cs_seq_region [0, 1] rfl ?_
          refine c_assign rfl rfl rfl rfl (v := (.slice none 0 0)) rfl ?_
          refine c_assign rfl rfl rfl rfl (v := (.int .i64 (2 : Int))) rfl ?_
          refine can_nil ?_
          refine ps_then ?_
          refine cs_ret ?_
          refine ps_then_ret ?_
          refine ps_en (en_nilRow (un .u8) 5) ?_
          rintro _ _ ⟨rfl, rfl⟩
          have hz0 := Option.some.inj h
          obtain ⟨rfl, hz1⟩ := prod2 hz0
          obtain rfl := hz1
          refine ps_en (en_keep (rs) (fun r hr => hr)) ?_
          rintro _ _ ⟨rfl, rfl⟩
          apply ps_end2 rfl Tryz.results241 rfl rfl
          · exact ⟨_, rfl, rfl, rfl⟩
          · exact .mk .refl .refl
        · refine cs_skip ?_
          refine ps_then ?_
          refine cs_seq ?_
          refine cs_seq_region [0, 1, 2, 3, 4, 5] rfl ?_
          refine c_move rfl rfl rfl rfl (v := (.int .i64 p1)) rfl ?_
          refine c_quo (p := p1) (q := (4 : Int)) rfl rfl rfl rfl rfl rfl (by decide) ?_
          refine c_move rfl rfl rfl rfl (v := (.int .i64 p1)) rfl ?_
          refine c_quo (p := p1) (q := (32 : Int)) rfl rfl rfl rfl rfl rfl (by decide) ?_
          refine c_assign rfl rfl rfl rfl (v := (.int .i64 (IntKind.wrap .i64 (p1.tdiv (4 : Int))))) rfl ?_
          refine c_assign rfl rfl rfl rfl (v := (.int .i64 (IntKind.wrap .i64 (p1.tdiv (32 : Int))))) rfl ?_
          refine can_nil ?_
          refine ps_then ?_
          refine cs_seq ?_
          refine cs_seq_region [0, 1] rfl ?_
          refine c_lit (cs := [(.int .u8 ((128 : Nat) : Int))]) rfl rfl rfl rfl Tryz.underlying22 Tryz.sizeOf5 Tryz.zeroValue5 rfl rfl rfl rfl rfl (fun _ => Or.inl rfl) (fun g1 => ?_)
          refine can_en (en_litRow (m := 1) (dr := (un .u8)) (xs := ([128] : List Nat)) Rem.here (fun hh hr => un_reps _) rfl rfl) ?_
          rintro _ _ ⟨rfl, rfl⟩
          refine c_assign rfl rfl rfl rfl (v := (.slice (some ⟨g1, 0, none⟩) 1 1)) rfl ?_
          refine can_nil ?_
          refine ps_then ?_
          refine cs_seq ?_
          refine cs_block ?_
          obtain ⟨o1, hl1, h⟩ := bnd h
          refine cs_loopS [8, 29, 30, 31, 32, 33, 34, 35, 36, 37, 38, 39, 40] (fun m L s r => ∃ (x1 : (List Nat)) (A1 : Option Addr) (m1 : Nat) (c1 : Nat), lf_ref02_Pad_l0 K p0 p1 m x1 = some o1 ∧ [(8, (.slice A1 m1 c1))] = L ∧ Row (un .u8) 5 (.slice A1 m1 c1) x1 :: sps = s ∧ rs = r) [(8, (.slice (some ⟨g1, 0, none⟩) 1 1))] (⟨rfl, trivial⟩) (⟨([128] : List Nat), _, _, _, hl1, rfl, rfl, rfl⟩) ?_
          rintro k1 f1 _ _ _ ⟨x1, A1, m1, c1, hl1, rfl, rfl, rfl⟩
          rcases k1 with _ | k1
          · exact absurd hl1 (by rw [lf_ref02_Pad_l0.eq_1]; exact nofun)
          rw [lf_ref02_Pad_l0.eq_2] at hl1
          refine cs_en (en_rowLen (.head _)) ?_
          rintro _ _ ⟨rfl, rfl, rfl⟩
          refine cs_seq ?_
          refine cs_seq ?_
          refine cs_seq_region [0, 1, 2, 3, 4, 5, 6, 7, 8] rfl ?_
          refine c_move rfl rfl rfl rfl (v := (.int .i64 p0)) rfl ?_
          refine c_move rfl rfl rfl rfl (v := (.slice A1 x1.length c1)) rfl ?_
          refine l_len (m := x1.length) rfl rfl rfl rfl Tryz.underlying22 rfl ?_
          refine c_add (p := p0) (q := ((x1.length : Nat) : Int)) rfl rfl rfl rfl rfl rfl ?_
          refine c_move rfl rfl rfl rfl (v := (.int .i64 (IntKind.wrap .i64 (p1.tdiv (32 : Int))))) rfl ?_
          refine c_add (p := (IntKind.wrap .i64 (p0 + ((x1.length : Nat) : Int)))) (q := (IntKind.wrap .i64 (p1.tdiv (32 : Int)))) rfl rfl rfl rfl rfl rfl ?_
          refine c_move rfl rfl rfl rfl (v := (.int .i64 (IntKind.wrap .i64 (p1.tdiv (4 : Int))))) rfl ?_
          obtain ⟨hq1, hl1⟩ := chk_ hl1
          refine c_rem (p := (IntKind.wrap .i64 ((IntKind.wrap .i64 (p0 + ((x1.length : Nat) : Int))) + (IntKind.wrap .i64 (p1.tdiv (32 : Int)))))) (q := (IntKind.wrap .i64 (p1.tdiv (4 : Int)))) rfl rfl rfl rfl rfl rfl (of_decide_eq_true hq1) ?_
          refine l_neqI (p := ((IntKind.wrap .i64 ((IntKind.wrap .i64 (p0 + ((x1.length : Nat) : Int))) + (IntKind.wrap .i64 (p1.tdiv (32 : Int))))).tmod (IntKind.wrap .i64 (p1.tdiv (4 : Int))))) (q := (0 : Int)) rfl rfl rfl rfl rfl rfl ?_
          refine can_nil ?_
          refine ps_then ?_
          refine cs_condL (b := (decide (((IntKind.wrap .i64 ((IntKind.wrap .i64 (p0 + ((x1.length : Nat) : Int))) + (IntKind.wrap .i64 (p1.tdiv (32 : Int))))).tmod (IntKind.wrap .i64 (p1.tdiv (4 : Int)))) ≠ (0 : Int)))) rfl hl1 (fun hc3 hl1 => ?_) (fun hc3 hl1 => ?_)
          · refine cs_skip ?_
            refine ps_then ?_
            refine cs_block ?_
            refine cs_seq_region [0, 1, 2, 3] rfl ?_
            refine c_move rfl rfl rfl rfl (v := (.slice A1 x1.length c1)) rfl ?_
            refine c_lit (cs := [(.int .u8 ((0 : Nat) : Int))]) rfl rfl rfl rfl Tryz.underlying22 Tryz.sizeOf5 Tryz.zeroValue5 rfl rfl rfl rfl rfl (fun _ => Or.inl rfl) (fun g2 => ?_)
            obtain ⟨y1, hy1, hl1⟩ := bnd hl1
            refine l_append1 (dr := (un .u8)) (xs := x1) (ys := [0]) rfl rfl rfl rfl sty_22 rfl rfl rfl Rem.here Foc.here rfl (fun hh hr => un_reps _) hy1 (fun _ => Or.inl rfl) (fun v1 => ?_)
            refine can_en (en_rowShape (xs := y1) (.head _)) ?_
            rintro _ _ ⟨rfl, rfl, A2, c2, rfl, -, -, -⟩
            refine c_assign rfl rfl rfl rfl (v := (.slice A2 y1.length c2)) rfl ?_
            refine can_nil ?_
            refine ps_block_normal ?_
            refine ps_en (en_keep (rs) (fun r hr => hr)) ?_
            rintro _ _ ⟨rfl, rfl⟩
            refine ps_roundS [(8, (.slice A2 y1.length c2))] ⟨rfl, trivial⟩ xA k1 (Nat.lt_succ_self _) (⟨y1, _, _, _, hl1, rfl, rfl, rfl⟩) (.mk .refl .refl)
          · refine cs_exit ?_
            refine ps_then_exit ?_
            refine ps_then_exit ?_
            obtain rfl := Option.some.inj hl1
            obtain ⟨z1, rfl⟩ : ∃ z, z = x1 := ⟨_, rfl⟩
            refine ps_block_here ?_
            refine ps_then ?_
            refine cs_seq ?_
            refine cs_seq_region [0] rfl ?_
            refine c_assign rfl rfl rfl rfl (v := (.slice none 0 0)) rfl ?_
            refine can_nil ?_
            refine ps_then ?_
            refine cs_seq ?_
            refine cs_seq_region [0, 1, 2, 3] rfl ?_
            refine c_move rfl rfl rfl rfl (v := (.int .i64 p0)) rfl ?_
            refine l_convU (p := p0) rfl rfl rfl rfl Tryz.underlying3 Tryz.underlying97 rfl rfl ?_
            refine n_mul (p := (toU .u64 p0)) (q := 8) rfl rfl rfl rfl rfl rfl rfl ?_
            refine c_assign rfl rfl rfl rfl (v := (.int .u64 (((((toU .u64 p0) * 8) % 2 ^ 64) : Nat) : Int))) rfl ?_
            refine can_nil ?_
            refine ps_then ?_
            refine cs_seq ?_
            refine cs_seq ?_
            refine cs_seq_region [0] rfl ?_
            refine c_assign rfl rfl rfl rfl (v := (.int .i64 (0 : Int))) rfl ?_
            refine can_nil ?_
            refine ps_then ?_
            refine cs_block ?_
            refine cs_en (en_nilRow (un .u8) 5) ?_
            rintro _ _ ⟨rfl, rfl⟩
            obtain ⟨o2, hl2, h⟩ := bnd h
            refine cs_loopS [9, 10, 11, 44, 45, 46, 47, 48, 49, 50, 51, 52, 53, 54, 55, 56] (fun m L s r => ∃ (x2 : (List Nat)) (x3 : Nat) (x4 : Int) (A3 : Option Addr) (m2 : Nat) (c3 : Nat), lf_ref02_Pad_l1 K p1 m x2 x3 x4 = some o2 ∧ [(9, (.slice A3 m2 c3)), (10, (.int .u64 ((x3 : Nat) : Int))), (11, (.int .i64 x4))] = L ∧ Row (un .u8) 5 (.slice A3 m2 c3) x2 :: Row (un .u8) 5 (.slice A1 z1.length c1) z1 :: sps = s ∧ rs = r) [(9, (.slice none 0 0)), (10, (.int .u64 (((((toU .u64 p0) * 8) % 2 ^ 64) : Nat) : Int))), (11, (.int .i64 (0 : Int)))] (⟨rfl, rfl, rfl, trivial⟩) (⟨([] : List Nat), (((toU .u64 p0) * 8) % 2 ^ 64), (0 : Int), _, _, _, hl2, rfl, rfl, rfl⟩) ?_
            rintro k2 f2 _ _ _ ⟨x2, x3, x4, A3, m2, c3, hl2, rfl, rfl, rfl⟩
            rcases k2 with _ | k2
            · exact absurd hl2 (by rw [lf_ref02_Pad_l1.eq_1]; exact nofun)
            rw [lf_ref02_Pad_l1.eq_2] at hl2
            refine cs_en (en_rowLen (.head _)) ?_
            rintro _ _ ⟨rfl, rfl, rfl⟩
            refine cs_seq ?_
            refine cs_seq ?_
            refine cs_seq_region [0, 1, 2] rfl ?_
            refine c_move rfl rfl rfl rfl (v := (.int .i64 x4)) rfl ?_
            refine c_move rfl rfl rfl rfl (v := (.int .i64 (IntKind.wrap .i64 (p1.tdiv (32 : Int))))) rfl ?_
            refine c_lss (p := x4) (q := (IntKind.wrap .i64 (p1.tdiv (32 : Int)))) rfl rfl rfl rfl rfl rfl ?_
            refine can_nil ?_
            refine ps_then ?_
            refine cs_condL (b := (decide (x4 < (IntKind.wrap .i64 (p1.tdiv (32 : Int)))))) rfl hl2 (fun hc4 hl2 => ?_) (fun hc4 hl2 => ?_)
            · refine cs_skip ?_
              refine ps_then ?_
              refine cs_seq ?_
              refine cs_block ?_
              refine cs_seq ?_
              refine cs_seq_region [0, 1, 2, 3, 4, 5, 6] rfl ?_
              refine c_move rfl rfl rfl rfl (v := (.int .u64 ((x3 : Nat) : Int))) rfl ?_
              refine l_rem (p := x3) (q := 256) rfl rfl rfl rfl rfl rfl rfl ?_
              refine n_conv (p := (x3 % 256)) rfl rfl rfl rfl Tryz.underlying97 Tryz.underlying5 rfl rfl ?_
              refine c_lit (cs := [(.int .u8 ((((x3 % 256) % 2 ^ 8) : Nat) : Int))]) rfl rfl rfl rfl Tryz.underlying22 Tryz.sizeOf5 Tryz.zeroValue5 rfl rfl rfl rfl rfl (fun _ => Or.inl rfl) (fun g3 => ?_)
              refine can_en (en_litRow (m := 1) (dr := (un .u8)) (xs := ([((x3 % 256) % 2 ^ 8)] : List Nat)) Rem.here (fun hh hr => un_reps _) rfl rfl) ?_
              rintro _ _ ⟨rfl, rfl⟩
              refine c_move rfl rfl rfl rfl (v := (.slice A3 x2.length c3)) rfl ?_
              refine can_en (en_give (Rem.there Rem.here)) ?_
              rintro _ _ ⟨rfl, rfl⟩
              obtain ⟨y2, hy2, hl2⟩ := bnd hl2
              refine l_append (dr := (un .u8)) (xs := ([((x3 % 256) % 2 ^ 8)] : List Nat)) (ys := x2) rfl rfl rfl rfl sty_22 rfl rfl rfl Foc.here (.head _) hy2 (fun _ => Or.inl rfl) (fun v2 => ?_)
              refine can_en (en_rowShape (xs := y2) (.head _)) ?_
              rintro _ _ ⟨rfl, rfl, A4, c4, rfl, -, -, -⟩
              refine c_assign rfl rfl rfl rfl (v := (.slice A4 y2.length c4)) rfl ?_
              refine can_nil ?_
              refine ps_then ?_
              refine cs_seq_region [0, 1, 2] rfl ?_
              refine c_move rfl rfl rfl rfl (v := (.int .u64 ((x3 : Nat) : Int))) rfl ?_
              refine l_quo (p := x3) (q := 256) rfl rfl rfl rfl rfl rfl rfl rfl ?_
              refine c_assign rfl rfl rfl rfl (v := (.int .u64 (((x3 / 256 % 2 ^ 64) : Nat) : Int))) rfl ?_
              refine can_nil ?_
              refine ps_block_normal ?_
              refine ps_then ?_
              refine cs_seq_region [0, 1, 2] rfl ?_
              refine c_move rfl rfl rfl rfl (v := (.int .i64 x4)) rfl ?_
              refine c_add (p := x4) (q := (1 : Int)) rfl rfl rfl rfl rfl rfl ?_
              refine c_assign rfl rfl rfl rfl (v := (.int .i64 (IntKind.wrap .i64 (x4 + (1 : Int))))) rfl ?_
              refine can_nil ?_
              refine ps_en (en_keep (rs) (fun r hr => (.tail _ hr))) ?_
              rintro _ _ ⟨rfl, rfl⟩
              refine ps_roundS [(9, (.slice A4 y2.length c4)), (10, (.int .u64 (((x3 / 256 % 2 ^ 64) : Nat) : Int))), (11, (.int .i64 (IntKind.wrap .i64 (x4 + (1 : Int)))))] ⟨rfl, rfl, rfl, trivial⟩ xA k2 (Nat.lt_succ_self _) (⟨y2, (x3 / 256 % 2 ^ 64), (IntKind.wrap .i64 (x4 + (1 : Int))), _, _, _, hl2, rfl, rfl, rfl⟩) (.mk .refl .refl)
            · refine cs_exit ?_
              refine ps_then_exit ?_
              refine ps_then_exit ?_
              obtain rfl := Option.some.inj hl2
              replace h := un2_ h
              replace h := un2_ h
              obtain ⟨z2, rfl⟩ : ∃ z, z = x2 := ⟨_, rfl⟩
              obtain ⟨z3, rfl⟩ : ∃ z, z = x3 := ⟨_, rfl⟩
              obtain ⟨z4, rfl⟩ : ∃ z, z = x4 := ⟨_, rfl⟩
              refine ps_block_here ?_
              refine ps_then ?_
              refine cs_seq ?_
              refine cs_seq_region [0, 1, 2, 3, 4] rfl ?_
              refine c_move rfl rfl rfl rfl (v := (.slice A1 z1.length c1)) rfl ?_
              refine c_move rfl rfl rfl rfl (v := (.slice A3 z2.length c3)) rfl ?_
              refine can_en (en_give Rem.here) ?_
              rintro _ _ ⟨rfl, rfl⟩
              obtain ⟨y3, hy3, h⟩ := bnd h
              refine l_append (dr := (un .u8)) (xs := z1) (ys := z2) rfl rfl rfl rfl sty_22 rfl rfl rfl Foc.here (.head _) hy3 (fun _ => Or.inl rfl) (fun v3 => ?_)
              refine can_en (en_rowShape (xs := y3) (.head _)) ?_
              rintro _ _ ⟨rfl, rfl, A5, c5, rfl, -, -, -⟩
              refine c_assign rfl rfl rfl rfl (v := (.slice A5 y3.length c5)) rfl ?_
              refine c_assign rfl rfl rfl rfl (v := (.int .i64 (0 : Int))) rfl ?_
              refine can_nil ?_
              refine ps_then ?_
              refine cs_ret ?_
              have hz0 := Option.some.inj h
              obtain ⟨rfl, hz1⟩ := prod2 hz0
              obtain rfl := hz1
              refine ps_en (en_keep (rs) (fun r hr => (.tail _ hr))) ?_
              rintro _ _ ⟨rfl, rfl⟩
              apply ps_end2 rfl Tryz.results241 rfl rfl
              · exact ⟨_, rfl, rfl, rfl⟩
              · exact .mk .refl .refl
  · refine can_skip rfl rfl rfl (Or.inl rfl) ?_
    refine can_skip rfl rfl rfl (Or.inl rfl) ?_
    refine c_pick rfl rfl rfl rfl rfl (by conv => lhs; whnf) ?_
    refine c_move rfl rfl rfl rfl (v := (.bool false)) rfl ?_
    refine c_move rfl rfl rfl rfl (v := (.int .i64 p0)) rfl ?_
    refine c_lss (p := p0) (q := (0 : Int)) rfl rfl rfl rfl rfl rfl ?_
    refine c_pick rfl rfl rfl rfl rfl (by conv => lhs; whnf) ?_
    refine can_nil ?_
    refine ps_then ?_
    refine cs_condL (b := (decide (p0 < (0 : Int)))) rfl h (fun hc5 h => ?_) (fun hc5 h => ?_)
    · refine cs_seq ?_
      refine cs_seq_region [0, 1] rfl ?_
      refine c_assign rfl rfl rfl rfl (v := (.slice none 0 0)) rfl ?_
      refine c_assign rfl rfl rfl rfl (v := (.int .i64 (1 : Int))) rfl ?_
      refine can_nil ?_
      refine ps_then ?_
      refine cs_ret ?_
      refine ps_then_ret ?_
      refine ps_en (en_nilRow (un .u8) 5) ?_
      rintro _ _ ⟨rfl, rfl⟩
      have hz0 := Option.some.inj h
      obtain ⟨rfl, hz1⟩ := prod2 hz0
      obtain rfl := hz1
      refine ps_en (en_keep (rs) (fun r hr => hr)) ?_
      rintro _ _ ⟨rfl, rfl⟩
      apply ps_end2 rfl Tryz.results241 rfl rfl
      · exact ⟨_, rfl, rfl, rfl⟩
      · exact .mk .refl .refl
    · refine cs_skip ?_
      refine ps_then ?_
      refine cs_seq ?_
      refine cs_seq ?_
      refine cs_seq_region [0, 1] rfl ?_
      refine c_move rfl rfl rfl rfl (v := (.int .i64 p0)) rfl ?_
      refine c_gtr (p := p0) (q := (1048576 : Int)) rfl rfl rfl rfl rfl rfl ?_
      refine can_nil ?_
      refine ps_then ?_
      refine cs_condL (b := (decide (p0 > (1048576 : Int)))) rfl h (fun hc6 h => ?_) (fun hc6 h => ?_)
      · refine cs_seq ?_
        refine cs_seq_region [0, 1] rfl ?_
        refine c_assign rfl rfl rfl rfl (v := (.slice none 0 0)) rfl ?_
        refine c_assign rfl rfl rfl rfl (v := (.int .i64 (2 : Int))) rfl ?_
        refine can_nil ?_
        refine ps_then ?_
        refine cs_ret ?_
        refine ps_then_ret ?_
        refine ps_en (en_nilRow (un .u8) 5) ?_
        rintro _ _ ⟨rfl, rfl⟩
        have hz0 := Option.some.inj h
        obtain ⟨rfl, hz1⟩ := prod2 hz0
        obtain rfl := hz1
        refine ps_en (en_keep (rs) (fun r hr => hr)) ?_
        rintro _ _ ⟨rfl, rfl⟩
        apply ps_end2 rfl Tryz.results241 rfl rfl
        · exact ⟨_, rfl, rfl, rfl⟩
        · exact .mk .refl .refl
      · refine cs_skip ?_
        refine ps_then ?_
        refine cs_seq ?_
        refine cs_seq_region [0, 1, 2, 3, 4, 5] rfl ?_
        refine c_move rfl rfl rfl rfl (v := (.int .i64 p1)) rfl ?_
        refine c_quo (p := p1) (q := (4 : Int)) rfl rfl rfl rfl rfl rfl (by decide) ?_
        refine c_move rfl rfl rfl rfl (v := (.int .i64 p1)) rfl ?_
        refine c_quo (p := p1) (q := (32 : Int)) rfl rfl rfl rfl rfl rfl (by decide) ?_
        refine c_assign rfl rfl rfl rfl (v := (.int .i64 (IntKind.wrap .i64 (p1.tdiv (4 : Int))))) rfl ?_
        refine c_assign rfl rfl rfl rfl (v := (.int .i64 (IntKind.wrap .i64 (p1.tdiv (32 : Int))))) rfl ?_
        refine can_nil ?_
        refine ps_then ?_
        refine cs_seq ?_
        refine cs_seq_region [0, 1] rfl ?_
        refine c_lit (cs := [(.int .u8 ((128 : Nat) : Int))]) rfl rfl rfl rfl Tryz.underlying22 Tryz.sizeOf5 Tryz.zeroValue5 rfl rfl rfl rfl rfl (fun _ => Or.inl rfl) (fun g4 => ?_)
        refine can_en (en_litRow (m := 1) (dr := (un .u8)) (xs := ([128] : List Nat)) Rem.here (fun hh hr => un_reps _) rfl rfl) ?_
        rintro _ _ ⟨rfl, rfl⟩
        refine c_assign rfl rfl rfl rfl (v := (.slice (some ⟨g4, 0, none⟩) 1 1)) rfl ?_
        refine can_nil ?_
        refine ps_then ?_
        refine cs_seq ?_
        refine cs_block ?_
        obtain ⟨o3, hl3, h⟩ := bnd h
        refine cs_loopS [8, 29, 30, 31, 32, 33, 34, 35, 36, 37, 38, 39, 40] (fun m L s r => ∃ (x5 : (List Nat)) (A6 : Option Addr) (m3 : Nat) (c6 : Nat), lf_ref02_Pad_l2 K p0 p1 m x5 = some o3 ∧ [(8, (.slice A6 m3 c6))] = L ∧ Row (un .u8) 5 (.slice A6 m3 c6) x5 :: sps = s ∧ rs = r) [(8, (.slice (some ⟨g4, 0, none⟩) 1 1))] (⟨rfl, trivial⟩) (⟨([128] : List Nat), _, _, _, hl3, rfl, rfl, rfl⟩) ?_
        rintro k3 f3 _ _ _ ⟨x5, A6, m3, c6, hl3, rfl, rfl, rfl⟩
        rcases k3 with _ | k3
        · exact absurd hl3 (by rw [lf_ref02_Pad_l2.eq_1]; exact nofun)
        rw [lf_ref02_Pad_l2.eq_2] at hl3
        refine cs_en (en_rowLen (.head _)) ?_
        rintro _ _ ⟨rfl, rfl, rfl⟩
        refine cs_seq ?_
        refine cs_seq ?_
        refine cs_seq_region [0, 1, 2, 3, 4, 5, 6, 7, 8] rfl ?_
        refine c_move rfl rfl rfl rfl (v := (.int .i64 p0)) rfl ?_
        refine c_move rfl rfl rfl rfl (v := (.slice A6 x5.length c6)) rfl ?_
        refine l_len (m := x5.length) rfl rfl rfl rfl Tryz.underlying22 rfl ?_
        refine c_add (p := p0) (q := ((x5.length : Nat) : Int)) rfl rfl rfl rfl rfl rfl ?_
        refine c_move rfl rfl rfl rfl (v := (.int .i64 (IntKind.wrap .i64 (p1.tdiv (32 : Int))))) rfl ?_
        refine c_add (p := (IntKind.wrap .i64 (p0 + ((x5.length : Nat) : Int)))) (q := (IntKind.wrap .i64 (p1.tdiv (32 : Int)))) rfl rfl rfl rfl rfl rfl ?_
        refine c_move rfl rfl rfl rfl (v := (.int .i64 (IntKind.wrap .i64 (p1.tdiv (4 : Int))))) rfl ?_
        obtain ⟨hq2, hl3⟩ := chk_ hl3
        refine c_rem (p := (IntKind.wrap .i64 ((IntKind.wrap .i64 (p0 + ((x5.length : Nat) : Int))) + (IntKind.wrap .i64 (p1.tdiv (32 : Int)))))) (q := (IntKind.wrap .i64 (p1.tdiv (4 : Int)))) rfl rfl rfl rfl rfl rfl (of_decide_eq_true hq2) ?_
        refine l_neqI (p := ((IntKind.wrap .i64 ((IntKind.wrap .i64 (p0 + ((x5.length : Nat) : Int))) + (IntKind.wrap .i64 (p1.tdiv (32 : Int))))).tmod (IntKind.wrap .i64 (p1.tdiv (4 : Int))))) (q := (0 : Int)) rfl rfl rfl rfl rfl rfl ?_
        refine can_nil ?_
        refine ps_then ?_
        refine cs_condL (b := (decide (((IntKind.wrap .i64 ((IntKind.wrap .i64 (p0 + ((x5.length : Nat) : Int))) + (IntKind.wrap .i64 (p1.tdiv (32 : Int))))).tmod (IntKind.wrap .i64 (p1.tdiv (4 : Int)))) ≠ (0 : Int)))) rfl hl3 (fun hc7 hl3 => ?_) (fun hc7 hl3 => ?_)
        · refine cs_skip ?_
          refine ps_then ?_
          refine cs_block ?_
          refine cs_seq_region [0, 1, 2, 3] rfl ?_
          refine c_move rfl rfl rfl rfl (v := (.slice A6 x5.length c6)) rfl ?_
          refine c_lit (cs := [(.int .u8 ((0 : Nat) : Int))]) rfl rfl rfl rfl Tryz.underlying22 Tryz.sizeOf5 Tryz.zeroValue5 rfl rfl rfl rfl rfl (fun _ => Or.inl rfl) (fun g5 => ?_)
          obtain ⟨y4, hy4, hl3⟩ := bnd hl3
          refine l_append1 (dr := (un .u8)) (xs := x5) (ys := [0]) rfl rfl rfl rfl sty_22 rfl rfl rfl Rem.here Foc.here rfl (fun hh hr => un_reps _) hy4 (fun _ => Or.inl rfl) (fun v4 => ?_)
          refine can_en (en_rowShape (xs := y4) (.head _)) ?_
          rintro _ _ ⟨rfl, rfl, A7, c7, rfl, -, -, -⟩
          refine c_assign rfl rfl rfl rfl (v := (.slice A7 y4.length c7)) rfl ?_
          refine can_nil ?_
          refine ps_block_normal ?_
          refine ps_en (en_keep (rs) (fun r hr => hr)) ?_
          rintro _ _ ⟨rfl, rfl⟩
          refine ps_roundS [(8, (.slice A7 y4.length c7))] ⟨rfl, trivial⟩ xA k3 (Nat.lt_succ_self _) (⟨y4, _, _, _, hl3, rfl, rfl, rfl⟩) (.mk .refl .refl)
        · refine cs_exit ?_
          refine ps_then_exit ?_
          refine ps_then_exit ?_
          obtain rfl := Option.some.inj hl3
          obtain ⟨z5, rfl⟩ : ∃ z, z = x5 := ⟨_, rfl⟩
          refine ps_block_here ?_
          refine ps_then ?_
          refine cs_seq ?_
          refine cs_seq_region [0] rfl ?_
          refine c_assign rfl rfl rfl rfl (v := (.slice none 0 0)) rfl ?_
          refine can_nil ?_
          refine ps_then ?_
          refine cs_seq ?_
          refine cs_seq_region [0, 1, 2, 3] rfl ?_
          refine c_move rfl rfl rfl rfl (v := (.int .i64 p0)) rfl ?_
          refine l_convU (p := p0) rfl rfl rfl rfl Tryz.underlying3 Tryz.underlying97 rfl rfl ?_
          refine n_mul (p := (toU .u64 p0)) (q := 8) rfl rfl rfl rfl rfl rfl rfl ?_
          refine c_assign rfl rfl rfl rfl (v := (.int .u64 (((((toU .u64 p0) * 8) % 2 ^ 64) : Nat) : Int))) rfl ?_
          refine can_nil ?_
          refine ps_then ?_
          refine cs_seq ?_
          refine cs_seq ?_
          refine cs_seq_region [0] rfl ?_
          refine c_assign rfl rfl rfl rfl (v := (.int .i64 (0 : Int))) rfl ?_
          refine can_nil ?_
          refine ps_then ?_
          refine cs_block ?_
          refine cs_en (en_nilRow (un .u8) 5) ?_
          rintro _ _ ⟨rfl, rfl⟩
          obtain ⟨o4, hl4, h⟩ := bnd h
          refine cs_loopS [9, 10, 11, 44, 45, 46, 47, 48, 49, 50, 51, 52, 53, 54, 55, 56] (fun m L s r => ∃ (x6 : (List Nat)) (x7 : Nat) (x8 : Int) (A8 : Option Addr) (m4 : Nat) (c8 : Nat), lf_ref02_Pad_l3 K p1 m x6 x7 x8 = some o4 ∧ [(9, (.slice A8 m4 c8)), (10, (.int .u64 ((x7 : Nat) : Int))), (11, (.int .i64 x8))] = L ∧ Row (un .u8) 5 (.slice A8 m4 c8) x6 :: Row (un .u8) 5 (.slice A6 z5.length c6) z5 :: sps = s ∧ rs = r) [(9, (.slice none 0 0)), (10, (.int .u64 (((((toU .u64 p0) * 8) % 2 ^ 64) : Nat) : Int))), (11, (.int .i64 (0 : Int)))] (⟨rfl, rfl, rfl, trivial⟩) (⟨([] : List Nat), (((toU .u64 p0) * 8) % 2 ^ 64), (0 : Int), _, _, _, hl4, rfl, rfl, rfl⟩) ?_
          rintro k4 f4 _ _ _ ⟨x6, x7, x8, A8, m4, c8, hl4, rfl, rfl, rfl⟩
          rcases k4 with _ | k4
          · exact absurd hl4 (by rw [lf_ref02_Pad_l3.eq_1]; exact nofun)
          rw [lf_ref02_Pad_l3.eq_2] at hl4
          refine cs_en (en_rowLen (.head _)) ?_
          rintro _ _ ⟨rfl, rfl, rfl⟩
          refine cs_seq ?_
          refine cs_seq ?_
          refine cs_seq_region [0, 1, 2] rfl ?_
          refine c_move rfl rfl rfl rfl (v := (.int .i64 x8)) rfl ?_
          refine c_move rfl rfl rfl rfl (v := (.int .i64 (IntKind.wrap .i64 (p1.tdiv (32 : Int))))) rfl ?_
          refine c_lss (p := x8) (q := (IntKind.wrap .i64 (p1.tdiv (32 : Int)))) rfl rfl rfl rfl rfl rfl ?_
          refine can_nil ?_
          refine ps_then ?_
          refine cs_condL (b := (decide (x8 < (IntKind.wrap .i64 (p1.tdiv (32 : Int)))))) rfl hl4 (fun hc8 hl4 => ?_) (fun hc8 hl4 => ?_)
          · refine cs_skip ?_
            refine ps_then ?_
            refine cs_seq ?_
            refine cs_block ?_
            refine cs_seq ?_
            refine cs_seq_region [0, 1, 2, 3, 4, 5, 6] rfl ?_
            refine c_move rfl rfl rfl rfl (v := (.int .u64 ((x7 : Nat) : Int))) rfl ?_
            refine l_rem (p := x7) (q := 256) rfl rfl rfl rfl rfl rfl rfl ?_
            refine n_conv (p := (x7 % 256)) rfl rfl rfl rfl Tryz.underlying97 Tryz.underlying5 rfl rfl ?_
            refine c_lit (cs := [(.int .u8 ((((x7 % 256) % 2 ^ 8) : Nat) : Int))]) rfl rfl rfl rfl Tryz.underlying22 Tryz.sizeOf5 Tryz.zeroValue5 rfl rfl rfl rfl rfl (fun _ => Or.inl rfl) (fun g6 => ?_)
            refine can_en (en_litRow (m := 1) (dr := (un .u8)) (xs := ([((x7 % 256) % 2 ^ 8)] : List Nat)) Rem.here (fun hh hr => un_reps _) rfl rfl) ?_
            rintro _ _ ⟨rfl, rfl⟩
            refine c_move rfl rfl rfl rfl (v := (.slice A8 x6.length c8)) rfl ?_
            refine can_en (en_give (Rem.there Rem.here)) ?_
            rintro _ _ ⟨rfl, rfl⟩
            obtain ⟨y5, hy5, hl4⟩ := bnd hl4
            refine l_append (dr := (un .u8)) (xs := ([((x7 % 256) % 2 ^ 8)] : List Nat)) (ys := x6) rfl rfl rfl rfl sty_22 rfl rfl rfl Foc.here (.head _) hy5 (fun _ => Or.inl rfl) (fun v5 => ?_)
            refine can_en (en_rowShape (xs := y5) (.head _)) ?_
            rintro _ _ ⟨rfl, rfl, A9, c9, rfl, -, -, -⟩
            refine c_assign rfl rfl rfl rfl (v := (.slice A9 y5.length c9)) rfl ?_
            refine can_nil ?_
            refine ps_then ?_
            refine cs_seq_region [0, 1, 2] rfl ?_
            refine c_move rfl rfl rfl rfl (v := (.int .u64 ((x7 : Nat) : Int))) rfl ?_
            refine l_quo (p := x7) (q := 256) rfl rfl rfl rfl rfl rfl rfl rfl ?_
            refine c_assign rfl rfl rfl rfl (v := (.int .u64 (((x7 / 256 % 2 ^ 64) : Nat) : Int))) rfl ?_
            refine can_nil ?_
            refine ps_block_normal ?_
            refine ps_then ?_
            refine cs_seq_region [0, 1, 2] rfl ?_
            refine c_move rfl rfl rfl rfl (v := (.int .i64 x8)) rfl ?_
            refine c_add (p := x8) (q := (1 : Int)) rfl rfl rfl rfl rfl rfl ?_
            refine c_assign rfl rfl rfl rfl (v := (.int .i64 (IntKind.wrap .i64 (x8 + (1 : Int))))) rfl ?_
            refine can_nil ?_
            refine ps_en (en_keep (rs) (fun r hr => (.tail _ hr))) ?_
            rintro _ _ ⟨rfl, rfl⟩
            refine ps_roundS [(9, (.slice A9 y5.length c9)), (10, (.int .u64 (((x7 / 256 % 2 ^ 64) : Nat) : Int))), (11, (.int .i64 (IntKind.wrap .i64 (x8 + (1 : Int)))))] ⟨rfl, rfl, rfl, trivial⟩ xA k4 (Nat.lt_succ_self _) (⟨y5, (x7 / 256 % 2 ^ 64), (IntKind.wrap .i64 (x8 + (1 : Int))), _, _, _, hl4, rfl, rfl, rfl⟩) (.mk .refl .refl)
          · refine cs_exit ?_
            refine ps_then_exit ?_
            refine ps_then_exit ?_
            obtain rfl := Option.some.inj hl4
            replace h := un2_ h
            replace h := un2_ h
            obtain ⟨z6, rfl⟩ : ∃ z, z = x6 := ⟨_, rfl⟩
            obtain ⟨z7, rfl⟩ : ∃ z, z = x7 := ⟨_, rfl⟩
            obtain ⟨z8, rfl⟩ : ∃ z, z = x8 := ⟨_, rfl⟩
            refine ps_block_here ?_
            refine ps_then ?_
            refine cs_seq ?_
            refine cs_seq_region [0, 1, 2, 3, 4] rfl ?_
            refine c_move rfl rfl rfl rfl (v := (.slice A6 z5.length c6)) rfl ?_
            refine c_move rfl rfl rfl rfl (v := (.slice A8 z6.length c8)) rfl ?_
            refine can_en (en_give Rem.here) ?_
            rintro _ _ ⟨rfl, rfl⟩
            obtain ⟨y6, hy6, h⟩ := bnd h
            refine l_append (dr := (un .u8)) (xs := z5) (ys := z6) rfl rfl rfl rfl sty_22 rfl rfl rfl Foc.here (.head _) hy6 (fun _ => Or.inl rfl) (fun v6 => ?_)
            refine can_en (en_rowShape (xs := y6) (.head _)) ?_
            rintro _ _ ⟨rfl, rfl, A10, c10, rfl, -, -, -⟩
            refine c_assign rfl rfl rfl rfl (v := (.slice A10 y6.length c10)) rfl ?_
            refine c_assign rfl rfl rfl rfl (v := (.int .i64 (0 : Int))) rfl ?_
            refine can_nil ?_
            refine ps_then ?_
            refine cs_ret ?_
            have hz0 := Option.some.inj h
            obtain ⟨rfl, hz1⟩ := prod2 hz0
            obtain rfl := hz1
            refine ps_en (en_keep (rs) (fun r hr => (.tail _ hr))) ?_
            rintro _ _ ⟨rfl, rfl⟩
            apply ps_end2 rfl Tryz.results241 rfl rfl
            · exact ⟨_, rfl, rfl, rfl⟩
            · exact .mk .refl .refl
def lf_ref02_constants (K : Nat)  : Option (List Nat) := (some ([4794697086780616226, 8158064640168781261, 13096744586834688815, 16840607885511220156, 4131703408338449720, 6480981068601479193, 10538285296894168987, 12329834152419229976, 15566598209576043074, 1334009975649890238, 2608012711638119052, 6128411473006802146, 8268148722764581231, 9286055187155687089, 11230858885718282805, 13951009754708518548, 16472876342353939154, 17275323862435702243, 1135362057144423861, 2597628984639134821, 3308224258029322869, 5365058923640841347, 6679025012923562964, 8573033837759648693, 10970295158949994411, 12119686244451234320, 12683024718118986047, 13788192230050041572, 14330467153632333762, 15395433587784984357, 489312712824947311, 1452737877330783856, 2861767655752347644, 3322285676063803686, 5560940570517711597, 5996557281743188959, 7280758554555802590, 8532644243296465576, 9350256976987008742, 10552545826968843579, 11727347734174303076, 12113106623233404929, 14000437183269869457, 14369950271660146224, 15101387698204529176, 15463397548674623760, 17586052441742319658, 1182934255886127544, 1847814050463011016, 2177327727835720531, 2830643537854262169, 3796741975233480872, 4115178125766777443, 5681478168544905931, 6601373596472566643, 7507060721942968483, 8399075790359081724, 8693463985226723168, 9568029438360202098, 10144078919501101548, 10430055236837252648, 11840083180663258601, 13761210420658862357, 14299343276471374635, 14566680578165727644, 15097957966210449927, 16922976911328602910, 17689382322260857208, 500013540394364858, 748580250866718886, 1242879168328830382, 1977374033974150939, 2944078676154940804, 3659926193048069267, 4368137639120453308, 4836135668995329356, 5532061633213252278, 6448918945643986474, 6902733635092675308, 7801388544844847127] : List Nat))
theorem lf_ref02_constants_ok (K : Nat)   (w0 : World) (sps : List Sp) (rs : List Fa)  {r0 : (List Nat)} (h : lf_ref02_constants K  = some r0) : FnOk Tryz.prog 242 #[] w0 sps rs (fun v s q => ∃ (qr0 : Value), v = qr0 ∧ Row (un .u64) 97 qr0 r0 :: sps = s ∧ rs = q) := by
  unfold lf_ref02_constants at h
  refine fn_enter Tryz.func242 rfl Tryz.ntmps242 rfl ?_
  refine cs_seq ?_
  refine cs_seq_region [0] rfl ?_
  refine c_assign rfl rfl rfl rfl (v := (.slice none 0 0)) rfl ?_
  refine can_nil ?_
  refine ps_then ?_
  refine cs_seq ?_
  refine cs_seq_region [0, 1] rfl ?_
  refine c_lit (cs := [(.int .u64 ((4794697086780616226 : Nat) : Int)), (.int .u64 ((8158064640168781261 : Nat) : Int)), (.int .u64 ((13096744586834688815 : Nat) : Int)), (.int .u64 ((16840607885511220156 : Nat) : Int)), (.int .u64 ((4131703408338449720 : Nat) : Int)), (.int .u64 ((6480981068601479193 : Nat) : Int)), (.int .u64 ((10538285296894168987 : Nat) : Int)), (.int .u64 ((12329834152419229976 : Nat) : Int)), (.int .u64 ((15566598209576043074 : Nat) : Int)), (.int .u64 ((1334009975649890238 : Nat) : Int)), (.int .u64 ((2608012711638119052 : Nat) : Int)), (.int .u64 ((6128411473006802146 : Nat) : Int)), (.int .u64 ((8268148722764581231 : Nat) : Int)), (.int .u64 ((9286055187155687089 : Nat) : Int)), (.int .u64 ((11230858885718282805 : Nat) : Int)), (.int .u64 ((13951009754708518548 : Nat) : Int)), (.int .u64 ((16472876342353939154 : Nat) : Int)), (.int .u64 ((17275323862435702243 : Nat) : Int)), (.int .u64 ((1135362057144423861 : Nat) : Int)), (.int .u64 ((2597628984639134821 : Nat) : Int)), (.int .u64 ((3308224258029322869 : Nat) : Int)), (.int .u64 ((5365058923640841347 : Nat) : Int)), (.int .u64 ((6679025012923562964 : Nat) : Int)), (.int .u64 ((8573033837759648693 : Nat) : Int)), (.int .u64 ((10970295158949994411 : Nat) : Int)), (.int .u64 ((12119686244451234320 : Nat) : Int)), (.int .u64 ((12683024718118986047 : Nat) : Int)), (.int .u64 ((13788192230050041572 : Nat) : Int)), (.int .u64 ((14330467153632333762 : Nat) : Int)), (.int .u64 ((15395433587784984357 : Nat) : Int)), (.int .u64 ((489312712824947311 : Nat) : Int)), (.int .u64 ((1452737877330783856 : Nat) : Int)), (.int .u64 ((2861767655752347644 : Nat) : Int)), (.int .u64 ((3322285676063803686 : Nat) : Int)), (.int .u64 ((5560940570517711597 : Nat) : Int)), (.int .u64 ((5996557281743188959 : Nat) : Int)), (.int .u64 ((7280758554555802590 : Nat) : Int)), (.int .u64 ((8532644243296465576 : Nat) : Int)), (.int .u64 ((9350256976987008742 : Nat) : Int)), (.int .u64 ((10552545826968843579 : Nat) : Int)), (.int .u64 ((11727347734174303076 : Nat) : Int)), (.int .u64 ((12113106623233404929 : Nat) : Int)), (.int .u64 ((14000437183269869457 : Nat) : Int)), (.int .u64 ((14369950271660146224 : Nat) : Int)), (.int .u64 ((15101387698204529176 : Nat) : Int)), (.int .u64 ((15463397548674623760 : Nat) : Int)), (.int .u64 ((17586052441742319658 : Nat) : Int)), (.int .u64 ((1182934255886127544 : Nat) : Int)), (.int .u64 ((1847814050463011016 : Nat) : Int)), (.int .u64 ((2177327727835720531 : Nat) : Int)), (.int .u64 ((2830643537854262169 : Nat) : Int)), (.int .u64 ((3796741975233480872 : Nat) : Int)), (.int .u64 ((4115178125766777443 : Nat) : Int)), (.int .u64 ((5681478168544905931 : Nat) : Int)), (.int .u64 ((6601373596472566643 : Nat) : Int)), (.int .u64 ((7507060721942968483 : Nat) : Int)), (.int .u64 ((8399075790359081724 : Nat) : Int)), (.int .u64 ((8693463985226723168 : Nat) : Int)), (.int .u64 ((9568029438360202098 : Nat) : Int)), (.int .u64 ((10144078919501101548 : Nat) : Int)), (.int .u64 ((10430055236837252648 : Nat) : Int)), (.int .u64 ((11840083180663258601 : Nat) : Int)), (.int .u64 ((13761210420658862357 : Nat) : Int)), (.int .u64 ((14299343276471374635 : Nat) : Int)), (.int .u64 ((14566680578165727644 : Nat) : Int)), (.int .u64 ((15097957966210449927 : Nat) : Int)), (.int .u64 ((16922976911328602910 : Nat) : Int)), (.int .u64 ((17689382322260857208 : Nat) : Int)), (.int .u64 ((500013540394364858 : Nat) : Int)), (.int .u64 ((748580250866718886 : Nat) : Int)), (.int .u64 ((1242879168328830382 : Nat) : Int)), (.int .u64 ((1977374033974150939 : Nat) : Int)), (.int .u64 ((2944078676154940804 : Nat) : Int)), (.int .u64 ((3659926193048069267 : Nat) : Int)), (.int .u64 ((4368137639120453308 : Nat) : Int)), (.int .u64 ((4836135668995329356 : Nat) : Int)), (.int .u64 ((5532061633213252278 : Nat) : Int)), (.int .u64 ((6448918945643986474 : Nat) : Int)), (.int .u64 ((6902733635092675308 : Nat) : Int)), (.int .u64 ((7801388544844847127 : Nat) : Int))]) rfl rfl rfl rfl Tryz.underlying181 Tryz.sizeOf97 Tryz.zeroValue97 rfl rfl rfl rfl rfl (fun _ => Or.inl rfl) (fun g1 => ?_)
  refine can_en (en_litRow (m := 80) (dr := (un .u64)) (xs := ([4794697086780616226, 8158064640168781261, 13096744586834688815, 16840607885511220156, 4131703408338449720, 6480981068601479193, 10538285296894168987, 12329834152419229976, 15566598209576043074, 1334009975649890238, 2608012711638119052, 6128411473006802146, 8268148722764581231, 9286055187155687089, 11230858885718282805, 13951009754708518548, 16472876342353939154, 17275323862435702243, 1135362057144423861, 2597628984639134821, 3308224258029322869, 5365058923640841347, 6679025012923562964, 8573033837759648693, 10970295158949994411, 12119686244451234320, 12683024718118986047, 13788192230050041572, 14330467153632333762, 15395433587784984357, 489312712824947311, 1452737877330783856, 2861767655752347644, 3322285676063803686, 5560940570517711597, 5996557281743188959, 7280758554555802590, 8532644243296465576, 9350256976987008742, 10552545826968843579, 11727347734174303076, 12113106623233404929, 14000437183269869457, 14369950271660146224, 15101387698204529176, 15463397548674623760, 17586052441742319658, 1182934255886127544, 1847814050463011016, 2177327727835720531, 2830643537854262169, 3796741975233480872, 4115178125766777443, 5681478168544905931, 6601373596472566643, 7507060721942968483, 8399075790359081724, 8693463985226723168, 9568029438360202098, 10144078919501101548, 10430055236837252648, 11840083180663258601, 13761210420658862357, 14299343276471374635, 14566680578165727644, 15097957966210449927, 16922976911328602910, 17689382322260857208, 500013540394364858, 748580250866718886, 1242879168328830382, 1977374033974150939, 2944078676154940804, 3659926193048069267, 4368137639120453308, 4836135668995329356, 5532061633213252278, 6448918945643986474, 6902733635092675308, 7801388544844847127] : List Nat)) Rem.here (fun hh hr => un_reps _) rfl rfl) ?_
  rintro _ _ ⟨rfl, rfl⟩
  refine c_assign rfl rfl rfl rfl (v := (.slice (some ⟨g1, 0, none⟩) 80 80)) rfl ?_
  refine can_nil ?_
  refine ps_then ?_
  refine cs_ret ?_
  obtain rfl := Option.some.inj h
  refine ps_en (en_keep (rs) (fun r hr => hr)) ?_
  rintro _ _ ⟨rfl, rfl⟩
  apply ps_end1 rfl Tryz.results242 rfl
  · exact ⟨_, rfl, rfl, rfl⟩
  · exact .mk .refl .refl
def lf_ref02_starts (K : Nat)  : Option (List Nat) := (some ([7640891576956012808, 13503953896175478587, 4354685564936845355, 11912009170470909681, 5840696475078001361, 11170449401992604703, 2270897969802886507, 6620516959819538809] : List Nat))
theorem lf_ref02_starts_ok (K : Nat)   (w0 : World) (sps : List Sp) (rs : List Fa)  {r0 : (List Nat)} (h : lf_ref02_starts K  = some r0) : FnOk Tryz.prog 243 #[] w0 sps rs (fun v s q => ∃ (qr0 : Value), v = qr0 ∧ Row (un .u64) 97 qr0 r0 :: sps = s ∧ rs = q) := by
  unfold lf_ref02_starts at h
  refine fn_enter Tryz.func243 rfl Tryz.ntmps243 rfl ?_
  refine cs_seq ?_
  refine cs_seq_region [0] rfl ?_
  refine c_assign rfl rfl rfl rfl (v := (.slice none 0 0)) rfl ?_
  refine can_nil ?_
  refine ps_then ?_
  refine cs_seq ?_
  refine cs_seq_region [0, 1] rfl ?_
  refine c_lit (cs := [(.int .u64 ((7640891576956012808 : Nat) : Int)), (.int .u64 ((13503953896175478587 : Nat) : Int)), (.int .u64 ((4354685564936845355 : Nat) : Int)), (.int .u64 ((11912009170470909681 : Nat) : Int)), (.int .u64 ((5840696475078001361 : Nat) : Int)), (.int .u64 ((11170449401992604703 : Nat) : Int)), (.int .u64 ((2270897969802886507 : Nat) : Int)), (.int .u64 ((6620516959819538809 : Nat) : Int))]) rfl rfl rfl rfl Tryz.underlying181 Tryz.sizeOf97 Tryz.zeroValue97 rfl rfl rfl rfl rfl (fun _ => Or.inl rfl) (fun g1 => ?_)
  refine can_en (en_litRow (m := 8) (dr := (un .u64)) (xs := ([7640891576956012808, 13503953896175478587, 4354685564936845355, 11912009170470909681, 5840696475078001361, 11170449401992604703, 2270897969802886507, 6620516959819538809] : List Nat)) Rem.here (fun hh hr => un_reps _) rfl rfl) ?_
  rintro _ _ ⟨rfl, rfl⟩
  refine c_assign rfl rfl rfl rfl (v := (.slice (some ⟨g1, 0, none⟩) 8 8)) rfl ?_
  refine can_nil ?_
  refine ps_then ?_
  refine cs_ret ?_
  obtain rfl := Option.some.inj h
  refine ps_en (en_keep (rs) (fun r hr => hr)) ?_
  rintro _ _ ⟨rfl, rfl⟩
  apply ps_end1 rfl Tryz.results243 rfl
  · exact ⟨_, rfl, rfl, rfl⟩
  · exact .mk .refl .refl
def lf_ref02_Words_cut (K : Nat) (p0_0 : Nat) (p0_1 : Nat) (p1 : Nat) : Option Nat := (bif (decide (p0_0 = 0)) then (some p1) else (chk (!(Nat.beq p0_0 0)) (some (p1 % p0_0))))
theorem lf_ref02_Words_cut_ok (K : Nat) (p0_0 : Nat) (p0_1 : Nat) (p1 : Nat)  (w0 : World) (sps : List Sp) (rs : List Fa)  {r0 : Nat} (h : lf_ref02_Words_cut K p0_0 p0_1 p1 = some r0) : FnOk Tryz.prog 246 #[.agg #[.int .u64 ((p0_0 : Nat) : Int), .int .u64 ((p0_1 : Nat) : Int)], .int .u64 ((p1 : Nat) : Int)] w0 sps rs (fun v s q => v = .int .u64 ((r0 : Nat) : Int) ∧ sps = s ∧ rs = q) := by
  unfold lf_ref02_Words_cut at h
  refine fn_enter Tryz.func246 rfl Tryz.ntmps246 rfl ?_
  refine cs_seq ?_
  refine cs_seq_region [0, 1] rfl ?_
  refine c_box (cs := [(.int .u64 ((p0_0 : Nat) : Int)), (.int .u64 ((p0_1 : Nat) : Int))]) rfl rfl rfl rfl rfl (fun _ => Or.inl rfl) (fun g1 => ?_)
  refine c_assign rfl rfl rfl rfl (v := (.int .u64 ((0 : Nat) : Int))) rfl ?_
  refine can_nil ?_
  refine ps_then ?_
  refine cs_seq ?_
  refine cs_seq ?_
  refine cs_seq_region [0, 1, 2] rfl ?_
  refine c_fieldAddr rfl rfl rfl rfl Tryz.underlying323 rfl Tryz.sizeOf97 rfl rfl ?_
  refine c_load1 (v := (.int .u64 ((p0_0 : Nat) : Int))) rfl rfl rfl Tryz.isAgg97 rfl (ldS rfl rfl (.head _) (sub1 rfl)) ?_
  refine l_eql (p := p0_0) (q := 0) rfl rfl rfl rfl rfl rfl ?_
  refine can_nil ?_
  refine ps_then ?_
  refine cs_condL (b := (decide (p0_0 = 0))) rfl h (fun hc1 h => ?_) (fun hc1 h => ?_)
  · refine cs_seq ?_
    refine cs_seq_region [0, 1] rfl ?_
    refine c_move rfl rfl rfl rfl (v := (.int .u64 ((p1 : Nat) : Int))) rfl ?_
    refine c_assign rfl rfl rfl rfl (v := (.int .u64 ((p1 : Nat) : Int))) rfl ?_
    refine can_nil ?_
    refine ps_then ?_
    refine cs_ret ?_
    refine ps_then_ret ?_
    obtain rfl := Option.some.inj h
    refine ps_en (en_arr (sps' := sps) (Arr.sub (List.Sublist.cons _ (List.Sublist.refl _)))) ?_
    rintro _ _ ⟨rfl, rfl⟩
    refine ps_en (en_keep (rs) (fun r hr => hr)) ?_
    rintro _ _ ⟨rfl, rfl⟩
    apply ps_end1 rfl Tryz.results246 rfl
    · exact ⟨rfl, rfl, rfl⟩
    · exact .mk .refl .refl
  · refine cs_skip ?_
    refine ps_then ?_
    refine cs_seq ?_
    refine cs_seq_region [0, 1, 2, 3, 4] rfl ?_
    refine c_move rfl rfl rfl rfl (v := (.int .u64 ((p1 : Nat) : Int))) rfl ?_
    refine c_fieldAddr rfl rfl rfl rfl Tryz.underlying323 rfl Tryz.sizeOf97 rfl rfl ?_
    refine c_load1 (v := (.int .u64 ((p0_0 : Nat) : Int))) rfl rfl rfl Tryz.isAgg97 rfl (ldS rfl rfl (.head _) (sub1 rfl)) ?_
    obtain ⟨hq1, h⟩ := chk_ h
    refine l_rem (p := p1) (q := p0_0) rfl rfl rfl rfl rfl rfl (by simpa using hq1) ?_
    refine c_assign rfl rfl rfl rfl (v := (.int .u64 (((p1 % p0_0) : Nat) : Int))) rfl ?_
    refine can_nil ?_
    refine ps_then ?_
    refine cs_ret ?_
    obtain rfl := Option.some.inj h
    refine ps_en (en_arr (sps' := sps) (Arr.sub (List.Sublist.cons _ (List.Sublist.refl _)))) ?_
    rintro _ _ ⟨rfl, rfl⟩
    refine ps_en (en_keep (rs) (fun r hr => hr)) ?_
    rintro _ _ ⟨rfl, rfl⟩
    apply ps_end1 rfl Tryz.results246 rfl
    · exact ⟨rfl, rfl, rfl⟩
    · exact .mk .refl .refl
def lf_ref02_Words_turn (K : Nat) (p0_0 : Nat) (p0_1 : Nat) (p1 : Nat) (p2 : Nat) : Option Nat := ((lf_ref02_Words_cut K p0_0 p0_1 (orN 64 (p1 / 2 ^ min p2 64) (p1 * 2 ^ min (usub .u64 p0_1 p2) 64 % 2 ^ 64))).bind (fun y1 => (some y1)))
theorem lf_ref02_Words_turn_ok (K : Nat) (p0_0 : Nat) (p0_1 : Nat) (p1 : Nat) (p2 : Nat)  (w0 : World) (sps : List Sp) (rs : List Fa)  {r0 : Nat} (h : lf_ref02_Words_turn K p0_0 p0_1 p1 p2 = some r0) : FnOk Tryz.prog 323 #[.agg #[.int .u64 ((p0_0 : Nat) : Int), .int .u64 ((p0_1 : Nat) : Int)], .int .u64 ((p1 : Nat) : Int), .int .u64 ((p2 : Nat) : Int)] w0 sps rs (fun v s q => v = .int .u64 ((r0 : Nat) : Int) ∧ sps = s ∧ rs = q) := by
  unfold lf_ref02_Words_turn at h
  refine fn_enter Tryz.func323 rfl Tryz.ntmps323 rfl ?_
  refine cs_seq ?_
  refine cs_seq_region [0, 1] rfl ?_
  refine c_box (cs := [(.int .u64 ((p0_0 : Nat) : Int)), (.int .u64 ((p0_1 : Nat) : Int))]) rfl rfl rfl rfl rfl (fun _ => Or.inl rfl) (fun g1 => ?_)
  refine c_assign rfl rfl rfl rfl (v := (.int .u64 ((0 : Nat) : Int))) rfl ?_
  refine can_nil ?_
  refine ps_then ?_
  refine cs_seq ?_
  refine cs_seq_region [0, 1, 2, 3, 4, 5, 6, 7, 8, 9, 10, 11, 12] rfl ?_
  refine c_loadN (cs := [(.int .u64 ((p0_0 : Nat) : Int)), (.int .u64 ((p0_1 : Nat) : Int))]) rfl rfl rfl Tryz.isAgg323 Tryz.sizeOf323 rfl (ldS rfl rfl (.head _) (subN (m := 2) rfl)) rfl ?_
  refine c_move rfl rfl rfl rfl (v := (.int .u64 ((p1 : Nat) : Int))) rfl ?_
  refine c_move rfl rfl rfl rfl (v := (.int .u64 ((p2 : Nat) : Int))) rfl ?_
  refine l_shr (p := p1) (b := p2) rfl rfl rfl rfl rfl rfl rfl ?_
  refine c_move rfl rfl rfl rfl (v := (.int .u64 ((p1 : Nat) : Int))) rfl ?_
  refine c_fieldAddr rfl rfl rfl rfl Tryz.underlying323 rfl Tryz.sizeOf97 rfl rfl ?_
  refine c_load1 (v := (.int .u64 ((p0_1 : Nat) : Int))) rfl rfl rfl Tryz.isAgg97 rfl (ldS rfl rfl (.head _) (sub1 rfl)) ?_
  refine c_move rfl rfl rfl rfl (v := (.int .u64 ((p2 : Nat) : Int))) rfl ?_
  refine l_sub (p := p0_1) (q := p2) rfl rfl rfl rfl rfl rfl rfl ?_
  refine l_shl (p := p1) (b := (usub .u64 p0_1 p2)) rfl rfl rfl rfl rfl rfl rfl rfl ?_
  refine l_or (p := (p1 / 2 ^ min p2 64)) (q := (p1 * 2 ^ min (usub .u64 p0_1 p2) 64 % 2 ^ 64)) rfl rfl rfl rfl rfl rfl rfl ?_
  obtain ⟨y1, hy1, h⟩ := bnd h
  refine c_call rfl rfl rfl rfl Tryz.call246 (lf_ref02_Words_cut_ok K p0_0 p0_1 (orN 64 (p1 / 2 ^ min p2 64) (p1 * 2 ^ min (usub .u64 p0_1 p2) 64 % 2 ^ 64))  w0 _ _  hy1) rfl (fun _ _ _ _ => Or.inl rfl) ?_
  rintro _ _ _ ⟨rfl, rfl, rfl⟩
  refine c_assign rfl rfl rfl rfl (v := (.int .u64 ((y1 : Nat) : Int))) rfl ?_
  refine can_nil ?_
  refine ps_then ?_
  refine cs_ret ?_
  obtain rfl := Option.some.inj h
  refine ps_en (en_arr (sps' := sps) (Arr.sub (List.Sublist.cons _ (List.Sublist.refl _)))) ?_
  rintro _ _ ⟨rfl, rfl⟩
  refine ps_en (en_keep (rs) (fun r hr => hr)) ?_
  rintro _ _ ⟨rfl, rfl⟩
  apply ps_end1 rfl Tryz.results323 rfl
  · exact ⟨rfl, rfl, rfl⟩
  · exact .mk .refl .refl
def lf_ref02_Words_small (K : Nat) (p0_0 : Nat) (p0_1 : Nat) (p1 : Nat) (p2 : Nat) (p3 : Nat) (p4 : Nat) : Option Nat := ((lf_ref02_Words_turn K p0_0 p0_1 p1 p2).bind (fun y1 => ((lf_ref02_Words_turn K p0_0 p0_1 p1 p3).bind (fun y2 => (some (xorN 64 (xorN 64 y1 y2) (p1 / 2 ^ min p4 64)))))))
theorem lf_ref02_Words_small_ok (K : Nat) (p0_0 : Nat) (p0_1 : Nat) (p1 : Nat) (p2 : Nat) (p3 : Nat) (p4 : Nat)  (w0 : World) (sps : List Sp) (rs : List Fa)  {r0 : Nat} (h : lf_ref02_Words_small K p0_0 p0_1 p1 p2 p3 p4 = some r0) : FnOk Tryz.prog 295 #[.agg #[.int .u64 ((p0_0 : Nat) : Int), .int .u64 ((p0_1 : Nat) : Int)], .int .u64 ((p1 : Nat) : Int), .int .u64 ((p2 : Nat) : Int), .int .u64 ((p3 : Nat) : Int), .int .u64 ((p4 : Nat) : Int)] w0 sps rs (fun v s q => v = .int .u64 ((r0 : Nat) : Int) ∧ sps = s ∧ rs = q) := by
  unfold lf_ref02_Words_small at h
  refine fn_enter Tryz.func295 rfl Tryz.ntmps295 rfl ?_
  refine cs_seq ?_
  refine cs_seq_region [0, 1] rfl ?_
  refine c_box (cs := [(.int .u64 ((p0_0 : Nat) : Int)), (.int .u64 ((p0_1 : Nat) : Int))]) rfl rfl rfl rfl rfl (fun _ => Or.inl rfl) (fun g1 => ?_)
  refine c_assign rfl rfl rfl rfl (v := (.int .u64 ((0 : Nat) : Int))) rfl ?_
  refine can_nil ?_
  refine ps_then ?_
  refine cs_seq ?_
  refine cs_draw_region_at ([Bk g1 [(.int .u64 ((p0_0 : Nat) : Int)), (.int .u64 ((p0_1 : Nat) : Int))] 323]) [1, 0, 0, 2, 1, 0, 0, 2, 0, 0, 0, 0, 0, 0] [false, false, false, true, false, false, false, true, false, false, false, false, false, false] [0, 1, 2, 4, 5, 6, 9, 10, 11, 3, 7, 8, 12, 13] (by kernel_rfl) (by kernel_rfl) (by kernel_rfl) (by kernel_rfl) (by repeat (first | with_reducible refine qok_then ?_ | with_reducible refine qok_block ?_ | exact qok_body | exact qok_bodyN)) ?_
  refine c_loadN (cs := [(.int .u64 ((p0_0 : Nat) : Int)), (.int .u64 ((p0_1 : Nat) : Int))]) rfl rfl rfl Tryz.isAgg323 Tryz.sizeOf323 rfl (ldD rfl rfl xE xM (subN (m := 2) rfl)) rfl ?_
  refine c_move rfl rfl rfl rfl (v := (.int .u64 ((p1 : Nat) : Int))) rfl ?_
  refine c_move rfl rfl rfl rfl (v := (.int .u64 ((p2 : Nat) : Int))) rfl ?_
  refine c_loadN (cs := [(.int .u64 ((p0_0 : Nat) : Int)), (.int .u64 ((p0_1 : Nat) : Int))]) rfl rfl rfl Tryz.isAgg323 Tryz.sizeOf323 rfl (ldD rfl rfl xE xM (subN (m := 2) rfl)) rfl ?_
  refine c_move rfl rfl rfl rfl (v := (.int .u64 ((p1 : Nat) : Int))) rfl ?_
  refine c_move rfl rfl rfl rfl (v := (.int .u64 ((p3 : Nat) : Int))) rfl ?_
  refine c_move rfl rfl rfl rfl (v := (.int .u64 ((p1 : Nat) : Int))) rfl ?_
  refine c_move rfl rfl rfl rfl (v := (.int .u64 ((p4 : Nat) : Int))) rfl ?_
  refine l_shr (p := p1) (b := p4) rfl rfl rfl rfl rfl rfl rfl ?_
  obtain ⟨y1, hy1, h⟩ := bnd h
  refine c_call rfl rfl rfl rfl Tryz.call323 (lf_ref02_Words_turn_ok K p0_0 p0_1 p1 p2  w0 _ _  hy1) rfl (by rintro v s r ⟨rfl, rfl, rfl⟩; exact Or.inr xE) ?_
  rintro _ _ _ ⟨rfl, rfl, rfl⟩
  obtain ⟨y2, hy2, h⟩ := bnd h
  refine c_call rfl rfl rfl rfl Tryz.call323 (lf_ref02_Words_turn_ok K p0_0 p0_1 p1 p3  w0 _ _  hy2) rfl (by rintro v s r ⟨rfl, rfl, rfl⟩; exact Or.inr xE) ?_
  rintro _ _ _ ⟨rfl, rfl, rfl⟩
  refine can_forget rfl ?_
  refine l_xor (p := y1) (q := y2) rfl rfl rfl rfl rfl rfl rfl ?_
  refine l_xor (p := (xorN 64 y1 y2)) (q := (p1 / 2 ^ min p4 64)) rfl rfl rfl rfl rfl rfl rfl ?_
  refine c_assign rfl rfl rfl rfl (v := (.int .u64 (((xorN 64 (xorN 64 y1 y2) (p1 / 2 ^ min p4 64)) : Nat) : Int))) rfl ?_
  refine can_nil ?_
  refine ps_then ?_
  refine cs_ret ?_
  obtain rfl := Option.some.inj h
  refine ps_en (en_arr (sps' := sps) (Arr.sub (List.Sublist.cons _ (List.Sublist.refl _)))) ?_
  rintro _ _ ⟨rfl, rfl⟩
  refine ps_en (en_keep (rs) (fun r hr => hr)) ?_
  rintro _ _ ⟨rfl, rfl⟩
  apply ps_end1 rfl Tryz.results295 rfl
  · exact ⟨rfl, rfl, rfl⟩
  · exact .mk .refl .refl
def lf_ref02_Words_expand_l1 (K : Nat) (p0_1 : Nat) (p1 : (List Nat)) (x2 : Int) : Nat → Nat → Int → Option (Nat × Int)
  | 0, _, _ => none
  | k + 1, x3, x4 => (bif (decide (x4 < (IntKind.wrap .i64 (((p0_1 / 8 % 2 ^ 64) : Nat) : Int)))) then ((getO p1 (IntKind.wrap .i64 ((IntKind.wrap .i64 (x2 * (IntKind.wrap .i64 (((p0_1 / 8 % 2 ^ 64) : Nat) : Int)))) + x4))).bind fun y1 => (lf_ref02_Words_expand_l1 K p0_1 p1 x2 k ((((x3 * 256) % 2 ^ 64) + (y1 % 2 ^ 64)) % 2 ^ 64) (IntKind.wrap .i64 (x4 + (1 : Int))))) else (some (x3, x4)))
def lf_ref02_Words_expand_l3 (K : Nat) (p0_0 : Nat) (p0_1 : Nat) (x5 : Int) : Nat → (List Nat) → Int → Option ((List Nat) × Int)
  | 0, _, _ => none
  | k + 1, x6, x7 => (bif (decide (x7 < x5)) then ((getO x6 (IntKind.wrap .i64 (x7 - (16 : Int)))).bind fun y3 => ((getO x6 (IntKind.wrap .i64 (x7 - (7 : Int)))).bind fun y4 => (bif (decide (p0_0 ≠ 0)) then ((getO x6 (IntKind.wrap .i64 (x7 - (15 : Int)))).bind fun y5 => ((getO x6 (IntKind.wrap .i64 (x7 - (2 : Int)))).bind fun y6 => ((lf_ref02_Words_small K p0_0 p0_1 y5 7 18 3).bind (fun y7 => ((lf_ref02_Words_small K p0_0 p0_1 y6 17 19 10).bind (fun y8 => ((lf_ref02_Words_cut K p0_0 p0_1 ((((((y3 + y4) % 2 ^ 64) + y7) % 2 ^ 64) + y8) % 2 ^ 64)).bind (fun y9 => ((appO x6 ([y9] : List Nat)).bind fun y10 => (lf_ref02_Words_expand_l3 K p0_0 p0_1 x5 k y10 (IntKind.wrap .i64 (x7 + (1 : Int))))))))))))) else ((getO x6 (IntKind.wrap .i64 (x7 - (15 : Int)))).bind fun y11 => ((getO x6 (IntKind.wrap .i64 (x7 - (2 : Int)))).bind fun y12 => ((lf_ref02_Words_small K p0_0 p0_1 y11 1 8 7).bind (fun y13 => ((lf_ref02_Words_small K p0_0 p0_1 y12 19 61 6).bind (fun y14 => ((lf_ref02_Words_cut K p0_0 p0_1 ((((((y3 + y4) % 2 ^ 64) + y13) % 2 ^ 64) + y14) % 2 ^ 64)).bind (fun y15 => ((appO x6 ([y15] : List Nat)).bind fun y16 => (lf_ref02_Words_expand_l3 K p0_0 p0_1 x5 k y16 (IntKind.wrap .i64 (x7 + (1 : Int)))))))))))))))) else (some (x6, x7)))
def lf_ref02_Words_expand_l0 (K : Nat) (p0_1 : Nat) (p1 : (List Nat)) : Nat → (List Nat) → Int → Option ((List Nat) × Int)
  | 0, _, _ => none
  | k + 1, x1, x2 => (bif (decide (x2 < (16 : Int))) then ((lf_ref02_Words_expand_l1 K p0_1 p1 x2 K 0 (0 : Int)).bind (fun qz1 => un2 qz1 (fun z1 => fun z2 => ((appO x1 ([z1] : List Nat)).bind fun y2 => (lf_ref02_Words_expand_l0 K p0_1 p1 k y2 (IntKind.wrap .i64 (x2 + (1 : Int)))))))) else (some (x1, x2)))
def lf_ref02_Words_expand (K : Nat) (p0_0 : Nat) (p0_1 : Nat) (p1 : (List Nat)) : Option (List Nat) := ((lf_ref02_Words_expand_l0 K p0_1 p1 K ([] : List Nat) (0 : Int)).bind (fun qz3 => un2 qz3 (fun z3 => fun z4 => ((bif (decide (p0_0 ≠ 0)) then (some (64 : Int)) else (some (80 : Int))).bind (fun x5 => ((lf_ref02_Words_expand_l3 K p0_0 p0_1 x5 K z3 (16 : Int)).bind (fun qz5 => un2 qz5 (fun z5 => fun z6 => (some z5)))))))))
theorem lf_ref02_Words_expand_ok (K : Nat) (p0_0 : Nat) (p0_1 : Nat) (p1 : (List Nat)) (vp1 : Value) (w0 : World) (sps : List Sp) (rs : List Fa) (hv_p1 : Rd (un .u8) vp1 p1 ∈ rs) {r0 : (List Nat)} (h : lf_ref02_Words_expand K p0_0 p0_1 p1 = some r0) : FnOk Tryz.prog 244 #[.agg #[.int .u64 ((p0_0 : Nat) : Int), .int .u64 ((p0_1 : Nat) : Int)], vp1] w0 sps rs (fun v s q => ∃ (qr0 : Value), v = qr0 ∧ Row (un .u64) 97 qr0 r0 :: sps = s ∧ rs = q) := by
  unfold lf_ref02_Words_expand at h
  refine fn_en (en_shape hv_p1) ?_
  rintro _ _ ⟨rfl, rfl, Ap1, cp1, rfl, -, -, -⟩
  refine fn_enter Tryz.func244 rfl Tryz.ntmps244 rfl ?_
  refine cs_seq ?_
  refine cs_seq_region [0, 1] rfl ?_
  refine c_box (cs := [(.int .u64 ((p0_0 : Nat) : Int)), (.int .u64 ((p0_1 : Nat) : Int))]) rfl rfl rfl rfl rfl (fun _ => Or.inl rfl) (fun g1 => ?_)
  refine c_assign rfl rfl rfl rfl (v := (.slice none 0 0)) rfl ?_
  refine can_nil ?_
  refine ps_then ?_
  refine cs_seq ?_
  refine cs_seq_region [0, 1, 2, 3, 4] rfl ?_
  refine c_fieldAddr rfl rfl rfl rfl Tryz.underlying323 rfl Tryz.sizeOf97 rfl rfl ?_
  refine c_load1 (v := (.int .u64 ((p0_1 : Nat) : Int))) rfl rfl rfl Tryz.isAgg97 rfl (ldS rfl rfl (.head _) (sub1 rfl)) ?_
  refine l_quo (p := p0_1) (q := 8) rfl rfl rfl rfl rfl rfl rfl rfl ?_
  refine c_conv (p := (((p0_1 / 8 % 2 ^ 64) : Nat) : Int)) rfl rfl rfl rfl Tryz.underlying97 Tryz.underlying3 rfl ?_
  refine c_assign rfl rfl rfl rfl (v := (.int .i64 (IntKind.wrap .i64 (((p0_1 / 8 % 2 ^ 64) : Nat) : Int)))) rfl ?_
  refine can_nil ?_
  refine ps_then ?_
  refine cs_seq ?_
  refine cs_seq_region [0] rfl ?_
  refine c_assign rfl rfl rfl rfl (v := (.slice none 0 0)) rfl ?_
  refine can_nil ?_
  refine ps_then ?_
  refine cs_seq ?_
  refine cs_seq ?_
  refine cs_seq_region [0] rfl ?_
  refine c_assign rfl rfl rfl rfl (v := (.int .i64 (0 : Int))) rfl ?_
  refine can_nil ?_
  refine ps_then ?_
  refine cs_block ?_
  refine cs_en (en_nilRow (un .u64) 97) ?_
  rintro _ _ ⟨rfl, rfl⟩
  obtain ⟨o1, hl1, h⟩ := bnd h
  refine cs_loopS [6, 7, 8, 9, 17, 18, 19, 20, 21, 22, 23, 24, 25, 26, 27, 28, 29, 30, 31, 32, 33, 34, 35, 36, 37, 38, 39, 40, 41] (fun m L s r => ∃ (x1 : (List Nat)) (x2 : Int) (A1 : Option Addr) (m1 : Nat) (c1 : Nat), lf_ref02_Words_expand_l0 K p0_1 p1 m x1 x2 = some o1 ∧ [(6, (.slice A1 m1 c1)), (7, (.int .i64 x2))] = L ∧ Row (un .u64) 97 (.slice A1 m1 c1) x1 :: Bk g1 [(.int .u64 ((p0_0 : Nat) : Int)), (.int .u64 ((p0_1 : Nat) : Int))] 323 :: sps = s ∧ rs = r) [(6, (.slice none 0 0)), (7, (.int .i64 (0 : Int)))] (⟨rfl, rfl, trivial⟩) (⟨([] : List Nat), (0 : Int), _, _, _, hl1, rfl, rfl, rfl⟩) ?_
  rintro k1 f1 _ _ _ ⟨x1, x2, A1, m1, c1, hl1, rfl, rfl, rfl⟩
  rcases k1 with _ | k1
  · exact absurd hl1 (by rw [lf_ref02_Words_expand_l0.eq_1]; exact nofun)
  rw [lf_ref02_Words_expand_l0.eq_2] at hl1
  refine cs_en (en_rowLen (.head _)) ?_
  rintro _ _ ⟨rfl, rfl, rfl⟩
  refine cs_seq ?_
  refine cs_seq ?_
  refine cs_seq_region [0, 1] rfl ?_
  refine c_move rfl rfl rfl rfl (v := (.int .i64 x2)) rfl ?_
  refine c_lss (p := x2) (q := (16 : Int)) rfl rfl rfl rfl rfl rfl ?_
  refine can_nil ?_
  refine ps_then ?_
  refine cs_condL (b := (decide (x2 < (16 : Int)))) rfl hl1 (fun hc1 hl1 => ?_) (fun hc1 hl1 => ?_)
  · refine cs_skip ?_
    refine ps_then ?_
    refine cs_seq ?_
    refine cs_block ?_
    refine cs_seq ?_
    refine cs_seq_region [0] rfl ?_
    refine c_assign rfl rfl rfl rfl (v := (.int .u64 ((0 : Nat) : Int))) rfl ?_
    refine can_nil ?_
    refine ps_then ?_
    refine cs_seq ?_
    refine cs_seq ?_
    refine cs_seq_region [0] rfl ?_
    refine c_assign rfl rfl rfl rfl (v := (.int .i64 (0 : Int))) rfl ?_
    refine can_nil ?_
    refine ps_then ?_
    refine cs_block ?_
    obtain ⟨o2, hl2, hl1⟩ := bnd hl1
    refine cs_loopS [8, 9, 21, 22, 23, 24, 25, 26, 27, 28, 29, 30, 31, 32, 33, 34, 35, 36, 37] (fun m L s r => ∃ (x3 : Nat) (x4 : Int), lf_ref02_Words_expand_l1 K p0_1 p1 x2 m x3 x4 = some o2 ∧ [(8, (.int .u64 ((x3 : Nat) : Int))), (9, (.int .i64 x4))] = L ∧ Row (un .u64) 97 (.slice A1 x1.length c1) x1 :: Bk g1 [(.int .u64 ((p0_0 : Nat) : Int)), (.int .u64 ((p0_1 : Nat) : Int))] 323 :: sps = s ∧ rs = r) [(8, (.int .u64 ((0 : Nat) : Int))), (9, (.int .i64 (0 : Int)))] (⟨rfl, rfl, trivial⟩) (⟨0, (0 : Int), hl2, rfl, rfl, rfl⟩) ?_
    rintro k2 f2 _ _ _ ⟨x3, x4, hl2, rfl, rfl, rfl⟩
    rcases k2 with _ | k2
    · exact absurd hl2 (by rw [lf_ref02_Words_expand_l1.eq_1]; exact nofun)
    rw [lf_ref02_Words_expand_l1.eq_2] at hl2
    refine cs_seq ?_
    refine cs_seq ?_
    refine cs_seq_region [0, 1, 2] rfl ?_
    refine c_move rfl rfl rfl rfl (v := (.int .i64 x4)) rfl ?_
    refine c_move rfl rfl rfl rfl (v := (.int .i64 (IntKind.wrap .i64 (((p0_1 / 8 % 2 ^ 64) : Nat) : Int)))) rfl ?_
    refine c_lss (p := x4) (q := (IntKind.wrap .i64 (((p0_1 / 8 % 2 ^ 64) : Nat) : Int))) rfl rfl rfl rfl rfl rfl ?_
    refine can_nil ?_
    refine ps_then ?_
    refine cs_condL (b := (decide (x4 < (IntKind.wrap .i64 (((p0_1 / 8 % 2 ^ 64) : Nat) : Int))))) rfl hl2 (fun hc2 hl2 => ?_) (fun hc2 hl2 => ?_)
    · refine cs_skip ?_
      refine ps_then ?_
      refine cs_seq ?_
      refine cs_block ?_
      refine cs_seq_region [0, 1, 2, 3, 4, 5, 6, 7, 8, 9, 10, 11, 12] rfl ?_
      refine c_move rfl rfl rfl rfl (v := (.int .u64 ((x3 : Nat) : Int))) rfl ?_
      refine n_mul (p := x3) (q := 256) rfl rfl rfl rfl rfl rfl rfl ?_
      refine c_move rfl rfl rfl rfl (v := (.slice Ap1 p1.length cp1)) rfl ?_
      refine c_move rfl rfl rfl rfl (v := (.int .i64 x2)) rfl ?_
      refine c_move rfl rfl rfl rfl (v := (.int .i64 (IntKind.wrap .i64 (((p0_1 / 8 % 2 ^ 64) : Nat) : Int)))) rfl ?_
      refine c_mul (p := x2) (q := (IntKind.wrap .i64 (((p0_1 / 8 % 2 ^ 64) : Nat) : Int))) rfl rfl rfl rfl rfl rfl ?_
      refine c_move rfl rfl rfl rfl (v := (.int .i64 x4)) rfl ?_
      refine c_add (p := (IntKind.wrap .i64 (x2 * (IntKind.wrap .i64 (((p0_1 / 8 % 2 ^ 64) : Nat) : Int))))) (q := x4) rfl rfl rfl rfl rfl rfl ?_
      obtain ⟨y1, hy1, hl2⟩ := bnd hl2
      refine can_en (en_ptr hv_p1 (by have := getO_lt hy1; omega)) ?_
      rintro _ _ ⟨rfl, rfl, g2, o3, rfl⟩
      refine c_indexAddrS (p := (IntKind.wrap .i64 ((IntKind.wrap .i64 (x2 * (IntKind.wrap .i64 (((p0_1 / 8 % 2 ^ 64) : Nat) : Int)))) + x4))) rfl rfl rfl rfl Tryz.underlying22 Tryz.sizeOf5 rfl rfl (by have := getO_lt hy1; omega) ?_
      refine c_load1 rfl rfl rfl Tryz.isAgg5 rfl (ldR rfl rfl (plain_un _) hv_p1 hy1) ?_
      refine n_conv (p := y1) rfl rfl rfl rfl Tryz.underlying5 Tryz.underlying97 rfl rfl ?_
      refine n_add (p := ((x3 * 256) % 2 ^ 64)) (q := (y1 % 2 ^ 64)) rfl rfl rfl rfl rfl rfl rfl ?_
      refine c_assign rfl rfl rfl rfl (v := (.int .u64 ((((((x3 * 256) % 2 ^ 64) + (y1 % 2 ^ 64)) % 2 ^ 64) : Nat) : Int))) rfl ?_
      refine can_nil ?_
      refine ps_block_normal ?_
      refine ps_then ?_
      refine cs_seq_region [0, 1, 2] rfl ?_
      refine c_move rfl rfl rfl rfl (v := (.int .i64 x4)) rfl ?_
      refine c_add (p := x4) (q := (1 : Int)) rfl rfl rfl rfl rfl rfl ?_
      refine c_assign rfl rfl rfl rfl (v := (.int .i64 (IntKind.wrap .i64 (x4 + (1 : Int))))) rfl ?_
      refine can_nil ?_
      refine ps_en (en_keep (rs) (fun r hr => hr)) ?_
      rintro _ _ ⟨rfl, rfl⟩
      refine ps_roundS [(8, (.int .u64 ((((((x3 * 256) % 2 ^ 64) + (y1 % 2 ^ 64)) % 2 ^ 64) : Nat) : Int))), (9, (.int .i64 (IntKind.wrap .i64 (x4 + (1 : Int)))))] ⟨rfl, rfl, trivial⟩ xA k2 (Nat.lt_succ_self _) (⟨((((x3 * 256) % 2 ^ 64) + (y1 % 2 ^ 64)) % 2 ^ 64), (IntKind.wrap .i64 (x4 + (1 : Int))), hl2, rfl, rfl, rfl⟩) (.mk .refl .refl)
    · refine cs_exit ?_
      refine ps_then_exit ?_
      refine ps_then_exit ?_
      obtain rfl := Option.some.inj hl2
      replace hl1 := un2_ hl1
      obtain ⟨z1, rfl⟩ : ∃ z, z = x3 := ⟨_, rfl⟩
      obtain ⟨z2, rfl⟩ : ∃ z, z = x4 := ⟨_, rfl⟩
      refine ps_block_here ?_
      refine ps_then ?_
      refine cs_seq_region [0, 1, 2, 3, 4] rfl ?_
      refine c_move rfl rfl rfl rfl (v := (.slice A1 x1.length c1)) rfl ?_
      refine c_move rfl rfl rfl rfl (v := (.int .u64 ((z1 : Nat) : Int))) rfl ?_
      refine c_lit (cs := [(.int .u64 ((z1 : Nat) : Int))]) rfl rfl rfl rfl Tryz.underlying181 Tryz.sizeOf97 Tryz.zeroValue97 rfl rfl rfl rfl rfl (fun _ => Or.inl rfl) (fun g3 => ?_)
      obtain ⟨y2, hy2, hl1⟩ := bnd hl1
      refine l_append1 (dr := (un .u64)) (xs := x1) (ys := [z1]) rfl rfl rfl rfl sty_181 rfl rfl rfl Rem.here Foc.here rfl (fun hh hr => un_reps _) hy2 (fun _ => Or.inl rfl) (fun v1 => ?_)
      refine can_en (en_rowShape (xs := y2) (.head _)) ?_
      rintro _ _ ⟨rfl, rfl, A2, c2, rfl, -, -, -⟩
      refine c_assign rfl rfl rfl rfl (v := (.slice A2 y2.length c2)) rfl ?_
      refine can_nil ?_
      refine ps_block_normal ?_
      refine ps_then ?_
      refine cs_seq_region [0, 1, 2] rfl ?_
      refine c_move rfl rfl rfl rfl (v := (.int .i64 x2)) rfl ?_
      refine c_add (p := x2) (q := (1 : Int)) rfl rfl rfl rfl rfl rfl ?_
      refine c_assign rfl rfl rfl rfl (v := (.int .i64 (IntKind.wrap .i64 (x2 + (1 : Int))))) rfl ?_
      refine can_nil ?_
      refine ps_en (en_keep (rs) (fun r hr => hr)) ?_
      rintro _ _ ⟨rfl, rfl⟩
      refine ps_roundS [(6, (.slice A2 y2.length c2)), (7, (.int .i64 (IntKind.wrap .i64 (x2 + (1 : Int)))))] ⟨rfl, rfl, trivial⟩ xA k1 (Nat.lt_succ_self _) (⟨y2, (IntKind.wrap .i64 (x2 + (1 : Int))), _, _, _, hl1, rfl, rfl, rfl⟩) (.mk .refl .refl)
  · refine cs_exit ?_
    refine ps_then_exit ?_
    refine ps_then_exit ?_
    obtain rfl := Option.some.inj hl1
    replace h := un2_ h
    obtain ⟨z3, rfl⟩ : ∃ z, z = x1 := ⟨_, rfl⟩
    obtain ⟨z4, rfl⟩ : ∃ z, z = x2 := ⟨_, rfl⟩
    refine ps_block_here ?_
    refine ps_then ?_
    refine cs_seq ?_
    refine cs_seq_region [0] rfl ?_
    refine c_assign rfl rfl rfl rfl (v := (.int .i64 (80 : Int))) rfl ?_
    refine can_nil ?_
    refine ps_then ?_
    obtain ⟨o4, hl3, h⟩ := bnd h
    refine cs_cutS [10, 42, 43, 44] (fun L s r => ∃ (x5 : Int), x5 = o4 ∧ [(10, (.int .i64 x5))] = L ∧ Row (un .u64) 97 (.slice A1 z3.length c1) z3 :: Bk g1 [(.int .u64 ((p0_0 : Nat) : Int)), (.int .u64 ((p0_1 : Nat) : Int))] 323 :: sps = s ∧ rs = r) ?_ ?_
    · refine cs_seq ?_
      refine cs_seq_region [0, 1, 2] rfl ?_
      refine c_fieldAddr rfl rfl rfl rfl Tryz.underlying323 rfl Tryz.sizeOf97 rfl rfl ?_
      refine c_load1 (v := (.int .u64 ((p0_0 : Nat) : Int))) rfl rfl rfl Tryz.isAgg97 rfl (ldS rfl rfl (.tail _ (.head _)) (sub1 rfl)) ?_
      refine l_neq (p := p0_0) (q := 0) rfl rfl rfl rfl rfl rfl ?_
      refine can_nil ?_
      refine ps_then ?_
      refine cs_condL (b := (decide (p0_0 ≠ 0))) rfl hl3 (fun hc3 hl3 => ?_) (fun hc3 hl3 => ?_)
      · refine cs_seq_region [0] rfl ?_
        refine c_assign rfl rfl rfl rfl (v := (.int .i64 (64 : Int))) rfl ?_
        refine can_nil ?_
        refine ps_en (en_keep (rs) (fun r hr => hr)) ?_
        rintro _ _ ⟨rfl, rfl⟩
        refine ps_cutS [(10, (.int .i64 (64 : Int)))] ⟨rfl, trivial⟩ xA (⟨(64 : Int), Option.some.inj hl3, rfl, rfl, rfl⟩) (.mk .refl .refl)
      · refine cs_skip ?_
        refine ps_en (en_keep (rs) (fun r hr => hr)) ?_
        rintro _ _ ⟨rfl, rfl⟩
        refine ps_cutS [(10, (.int .i64 (80 : Int)))] ⟨rfl, trivial⟩ xA (⟨(80 : Int), Option.some.inj hl3, rfl, rfl, rfl⟩) (.mk .refl .refl)
    · rintro f3 _ _ _ ⟨x5, rfl, rfl, rfl, rfl⟩
      refine cs_seq ?_
      refine cs_seq ?_
      refine cs_seq_region [0] rfl ?_
      refine c_assign rfl rfl rfl rfl (v := (.int .i64 (16 : Int))) rfl ?_
      refine can_nil ?_
      refine ps_then ?_
      refine cs_block ?_
      obtain ⟨o5, hl4, h⟩ := bnd h
      refine cs_loopS [6, 11, 12, 45, 46, 47, 48, 49, 50, 51, 52, 53, 54, 55, 56, 57, 58, 59, 60, 61, 62, 63, 64, 65, 66, 67, 68, 69, 70, 71, 72, 73, 74, 75, 76, 77, 78, 79, 80, 81, 82, 83, 84, 85, 86, 87, 88, 89, 90, 91, 92, 93, 94, 95, 96, 97, 98, 99, 100, 101, 102, 103] (fun m L s r => ∃ (x6 : (List Nat)) (x7 : Int) (A3 : Option Addr) (m2 : Nat) (c3 : Nat), lf_ref02_Words_expand_l3 K p0_0 p0_1 x5 m x6 x7 = some o5 ∧ [(6, (.slice A3 m2 c3)), (11, (.int .i64 x7))] = L ∧ Row (un .u64) 97 (.slice A3 m2 c3) x6 :: Bk g1 [(.int .u64 ((p0_0 : Nat) : Int)), (.int .u64 ((p0_1 : Nat) : Int))] 323 :: sps = s ∧ rs = r) [(6, (.slice A1 z3.length c1)), (11, (.int .i64 (16 : Int)))] (⟨rfl, rfl, trivial⟩) (⟨z3, (16 : Int), _, _, _, hl4, rfl, rfl, rfl⟩) ?_
      rintro k3 f4 _ _ _ ⟨x6, x7, A3, m2, c3, hl4, rfl, rfl, rfl⟩
      rcases k3 with _ | k3
      · exact absurd hl4 (by rw [lf_ref02_Words_expand_l3.eq_1]; exact nofun)
      rw [lf_ref02_Words_expand_l3.eq_2] at hl4
      refine cs_en (en_rowLen (.head _)) ?_
      rintro _ _ ⟨rfl, rfl, rfl⟩
      refine cs_seq ?_
      refine cs_seq ?_
      refine cs_seq_region [0, 1, 2] rfl ?_
      refine c_move rfl rfl rfl rfl (v := (.int .i64 x7)) rfl ?_
      refine c_move rfl rfl rfl rfl (v := (.int .i64 x5)) rfl ?_
      refine c_lss (p := x7) (q := x5) rfl rfl rfl rfl rfl rfl ?_
      refine can_nil ?_
      refine ps_then ?_
      refine cs_condL (b := (decide (x7 < x5))) rfl hl4 (fun hc4 hl4 => ?_) (fun hc4 hl4 => ?_)
      · refine cs_skip ?_
        refine ps_then ?_
        refine cs_seq ?_
        refine cs_block ?_
        refine cs_seq ?_
        refine cs_draw_region_at ([Row (un .u64) 97 (.slice A3 x6.length c3) x6, Bk g1 [(.int .u64 ((p0_0 : Nat) : Int)), (.int .u64 ((p0_1 : Nat) : Int))] 323]) [0, 0, 0, 0, 1, 0, 0, 0, 0, 1, 0, 0] [false, false, false, false, false, false, false, false, false, false, false, false] [0, 1, 2, 3, 4, 5, 6, 7, 8, 9, 10, 11] (by kernel_rfl) (by kernel_rfl) (by kernel_rfl) (by kernel_rfl) (by repeat (first | with_reducible refine qok_then ?_ | with_reducible refine qok_block ?_ | exact qok_body | exact qok_bodyN)) ?_
        refine c_move rfl rfl rfl rfl (v := (.slice A3 x6.length c3)) rfl ?_
        refine c_move rfl rfl rfl rfl (v := (.int .i64 x7)) rfl ?_
        refine c_sub (p := x7) (q := (16 : Int)) rfl rfl rfl rfl rfl rfl ?_
        obtain ⟨y3, hy3, hl4⟩ := bnd hl4
        refine can_en (en_rowPtr (v := .bool true) (.head _) (by have := getO_lt hy3; omega)) ?_
        rintro _ _ ⟨rfl, rfl, g4, rfl⟩
        refine c_indexAddrS (p := (IntKind.wrap .i64 (x7 - (16 : Int)))) rfl rfl rfl rfl Tryz.underlying181 Tryz.sizeOf97 rfl rfl (by have := getO_lt hy3; omega) ?_
        refine c_load1 rfl rfl rfl Tryz.isAgg97 rfl (ldWD rfl rfl xE (plain_un _) xM hy3) ?_
        refine c_move rfl rfl rfl rfl (v := (.slice (some ⟨g4, 0, none⟩) x6.length c3)) rfl ?_
        refine c_move rfl rfl rfl rfl (v := (.int .i64 x7)) rfl ?_
        refine c_sub (p := x7) (q := (7 : Int)) rfl rfl rfl rfl rfl rfl ?_
        obtain ⟨y4, hy4, hl4⟩ := bnd hl4
        refine c_indexAddrS (p := (IntKind.wrap .i64 (x7 - (7 : Int)))) rfl rfl rfl rfl Tryz.underlying181 Tryz.sizeOf97 rfl rfl (by have := getO_lt hy4; omega) ?_
        refine c_load1 rfl rfl rfl Tryz.isAgg97 rfl (ldWD rfl rfl xE (plain_un _) xM hy4) ?_
        refine can_forget rfl ?_
        refine n_add (p := y3) (q := y4) rfl rfl rfl rfl rfl rfl rfl ?_
        refine c_assign rfl rfl rfl rfl (v := (.int .u64 ((((y3 + y4) % 2 ^ 64) : Nat) : Int))) rfl ?_
        refine can_nil ?_
        refine ps_then ?_
        refine cs_seq ?_
        refine cs_seq ?_
        refine cs_seq_region [0, 1, 2] rfl ?_
        refine c_fieldAddr rfl rfl rfl rfl Tryz.underlying323 rfl Tryz.sizeOf97 rfl rfl ?_
        refine c_load1 (v := (.int .u64 ((p0_0 : Nat) : Int))) rfl rfl rfl Tryz.isAgg97 rfl (ldS rfl rfl (.tail _ (.head _)) (sub1 rfl)) ?_
        refine l_neq (p := p0_0) (q := 0) rfl rfl rfl rfl rfl rfl ?_
        refine can_nil ?_
        refine ps_then ?_
        refine cs_condL (b := (decide (p0_0 ≠ 0))) rfl hl4 (fun hc5 hl4 => ?_) (fun hc5 hl4 => ?_)
        · refine cs_draw_region_at ([Row (un .u64) 97 (.slice (some ⟨g4, 0, none⟩) x6.length c3) x6, Bk g1 [(.int .u64 ((p0_0 : Nat) : Int)), (.int .u64 ((p0_1 : Nat) : Int))] 323]) [0, 1, 0, 0, 0, 0, 1, 2, 0, 1, 0, 0, 0, 0, 1, 2, 0, 0] [false, false, false, false, false, false, false, true, false, false, false, false, false, false, false, true, false, false] [0, 1, 2, 3, 4, 5, 6, 9, 10, 11, 12, 13, 14, 7, 8, 15, 16, 17] (by kernel_rfl) (by kernel_rfl) (by kernel_rfl) (by kernel_rfl) (by repeat (first | with_reducible refine qok_then ?_ | with_reducible refine qok_block ?_ | exact qok_body | exact qok_bodyN)) ?_
          refine c_move rfl rfl rfl rfl (v := (.int .u64 ((((y3 + y4) % 2 ^ 64) : Nat) : Int))) rfl ?_
          refine c_loadN (cs := [(.int .u64 ((p0_0 : Nat) : Int)), (.int .u64 ((p0_1 : Nat) : Int))]) rfl rfl rfl Tryz.isAgg323 Tryz.sizeOf323 rfl (ldD rfl rfl xE xM (subN (m := 2) rfl)) rfl ?_
          refine c_move rfl rfl rfl rfl (v := (.slice (some ⟨g4, 0, none⟩) x6.length c3)) rfl ?_
          refine c_move rfl rfl rfl rfl (v := (.int .i64 x7)) rfl ?_
          refine c_sub (p := x7) (q := (15 : Int)) rfl rfl rfl rfl rfl rfl ?_
          obtain ⟨y5, hy5, hl4⟩ := bnd hl4
          refine c_indexAddrS (p := (IntKind.wrap .i64 (x7 - (15 : Int)))) rfl rfl rfl rfl Tryz.underlying181 Tryz.sizeOf97 rfl rfl (by have := getO_lt hy5; omega) ?_
          refine c_load1 rfl rfl rfl Tryz.isAgg97 rfl (ldWD rfl rfl xE (plain_un _) xM hy5) ?_
          refine c_loadN (cs := [(.int .u64 ((p0_0 : Nat) : Int)), (.int .u64 ((p0_1 : Nat) : Int))]) rfl rfl rfl Tryz.isAgg323 Tryz.sizeOf323 rfl (ldD rfl rfl xE xM (subN (m := 2) rfl)) rfl ?_
          refine c_move rfl rfl rfl rfl (v := (.slice (some ⟨g4, 0, none⟩) x6.length c3)) rfl ?_
          refine c_move rfl rfl rfl rfl (v := (.int .i64 x7)) rfl ?_
          refine c_sub (p := x7) (q := (2 : Int)) rfl rfl rfl rfl rfl rfl ?_
          obtain ⟨y6, hy6, hl4⟩ := bnd hl4
          refine c_indexAddrS (p := (IntKind.wrap .i64 (x7 - (2 : Int)))) rfl rfl rfl rfl Tryz.underlying181 Tryz.sizeOf97 rfl rfl (by have := getO_lt hy6; omega) ?_
          refine c_load1 rfl rfl rfl Tryz.isAgg97 rfl (ldWD rfl rfl xE (plain_un _) xM hy6) ?_
          obtain ⟨y7, hy7, hl4⟩ := bnd hl4
          refine c_call rfl rfl rfl rfl Tryz.call295 (lf_ref02_Words_small_ok K p0_0 p0_1 y5 7 18 3  w0 _ _  hy7) rfl (by rintro v s r ⟨rfl, rfl, rfl⟩; exact Or.inr xE) ?_
          rintro _ _ _ ⟨rfl, rfl, rfl⟩
          refine n_add (p := ((y3 + y4) % 2 ^ 64)) (q := y7) rfl rfl rfl rfl rfl rfl rfl ?_
          obtain ⟨y8, hy8, hl4⟩ := bnd hl4
          refine c_call rfl rfl rfl rfl Tryz.call295 (lf_ref02_Words_small_ok K p0_0 p0_1 y6 17 19 10  w0 _ _  hy8) rfl (by rintro v s r ⟨rfl, rfl, rfl⟩; exact Or.inr xE) ?_
          rintro _ _ _ ⟨rfl, rfl, rfl⟩
          refine can_forget rfl ?_
          refine n_add (p := ((((y3 + y4) % 2 ^ 64) + y7) % 2 ^ 64)) (q := y8) rfl rfl rfl rfl rfl rfl rfl ?_
          refine c_assign rfl rfl rfl rfl (v := (.int .u64 ((((((((y3 + y4) % 2 ^ 64) + y7) % 2 ^ 64) + y8) % 2 ^ 64) : Nat) : Int))) rfl ?_
          refine can_nil ?_
          refine ps_then ?_
          refine cs_seq_region [0, 1, 2, 3, 4, 5, 6] rfl ?_
          refine c_move rfl rfl rfl rfl (v := (.slice (some ⟨g4, 0, none⟩) x6.length c3)) rfl ?_
          refine c_loadN (cs := [(.int .u64 ((p0_0 : Nat) : Int)), (.int .u64 ((p0_1 : Nat) : Int))]) rfl rfl rfl Tryz.isAgg323 Tryz.sizeOf323 rfl (ldS rfl rfl (.tail _ (.head _)) (subN (m := 2) rfl)) rfl ?_
          refine c_move rfl rfl rfl rfl (v := (.int .u64 ((((((((y3 + y4) % 2 ^ 64) + y7) % 2 ^ 64) + y8) % 2 ^ 64) : Nat) : Int))) rfl ?_
          obtain ⟨y9, hy9, hl4⟩ := bnd hl4
          refine c_call rfl rfl rfl rfl Tryz.call246 (lf_ref02_Words_cut_ok K p0_0 p0_1 ((((((y3 + y4) % 2 ^ 64) + y7) % 2 ^ 64) + y8) % 2 ^ 64)  w0 _ _  hy9) rfl (fun _ _ _ _ => Or.inl rfl) ?_
          rintro _ _ _ ⟨rfl, rfl, rfl⟩
          refine c_lit (cs := [(.int .u64 ((y9 : Nat) : Int))]) rfl rfl rfl rfl Tryz.underlying181 Tryz.sizeOf97 Tryz.zeroValue97 rfl rfl rfl rfl rfl (fun _ => Or.inl rfl) (fun g5 => ?_)
          obtain ⟨y10, hy10, hl4⟩ := bnd hl4
          refine l_append1 (dr := (un .u64)) (xs := x6) (ys := [y9]) rfl rfl rfl rfl sty_181 rfl rfl rfl Rem.here Foc.here rfl (fun hh hr => un_reps _) hy10 (fun _ => Or.inl rfl) (fun v2 => ?_)
          refine can_en (en_rowShape (xs := y10) (.head _)) ?_
          rintro _ _ ⟨rfl, rfl, A4, c4, rfl, -, -, -⟩
          refine c_assign rfl rfl rfl rfl (v := (.slice A4 y10.length c4)) rfl ?_
          refine can_nil ?_
          refine ps_block_normal ?_
          refine ps_then ?_
          refine cs_seq_region [0, 1, 2] rfl ?_
          refine c_move rfl rfl rfl rfl (v := (.int .i64 x7)) rfl ?_
          refine c_add (p := x7) (q := (1 : Int)) rfl rfl rfl rfl rfl rfl ?_
          refine c_assign rfl rfl rfl rfl (v := (.int .i64 (IntKind.wrap .i64 (x7 + (1 : Int))))) rfl ?_
          refine can_nil ?_
          refine ps_en (en_keep (rs) (fun r hr => hr)) ?_
          rintro _ _ ⟨rfl, rfl⟩
          refine ps_roundS [(6, (.slice A4 y10.length c4)), (11, (.int .i64 (IntKind.wrap .i64 (x7 + (1 : Int)))))] ⟨rfl, rfl, trivial⟩ xA k3 (Nat.lt_succ_self _) (⟨y10, (IntKind.wrap .i64 (x7 + (1 : Int))), _, _, _, hl4, rfl, rfl, rfl⟩) (.mk .refl .refl)
        · refine cs_draw_region_at ([Row (un .u64) 97 (.slice (some ⟨g4, 0, none⟩) x6.length c3) x6, Bk g1 [(.int .u64 ((p0_0 : Nat) : Int)), (.int .u64 ((p0_1 : Nat) : Int))] 323]) [0, 1, 0, 0, 0, 0, 1, 2, 0, 1, 0, 0, 0, 0, 1, 2, 0, 0] [false, false, false, false, false, false, false, true, false, false, false, false, false, false, false, true, false, false] [0, 1, 2, 3, 4, 5, 6, 9, 10, 11, 12, 13, 14, 7, 8, 15, 16, 17] (by kernel_rfl) (by kernel_rfl) (by kernel_rfl) (by kernel_rfl) (by repeat (first | with_reducible refine qok_then ?_ | with_reducible refine qok_block ?_ | exact qok_body | exact qok_bodyN)) ?_
          refine c_move rfl rfl rfl rfl (v := (.int .u64 ((((y3 + y4) % 2 ^ 64) : Nat) : Int))) rfl ?_
          refine c_loadN (cs := [(.int .u64 ((p0_0 : Nat) : Int)), (.int .u64 ((p0_1 : Nat) : Int))]) rfl rfl rfl Tryz.isAgg323 Tryz.sizeOf323 rfl (ldD rfl rfl xE xM (subN (m := 2) rfl)) rfl ?_
          refine c_move rfl rfl rfl rfl (v := (.slice (some ⟨g4, 0, none⟩) x6.length c3)) rfl ?_
          refine c_move rfl rfl rfl rfl (v := (.int .i64 x7)) rfl ?_
          refine c_sub (p := x7) (q := (15 : Int)) rfl rfl rfl rfl rfl rfl ?_
          obtain ⟨y11, hy11, hl4⟩ := bnd hl4
          refine c_indexAddrS (p := (IntKind.wrap .i64 (x7 - (15 : Int)))) rfl rfl rfl rfl Tryz.underlying181 Tryz.sizeOf97 rfl rfl (by have := getO_lt hy11; omega) ?_
          refine c_load1 rfl rfl rfl Tryz.isAgg97 rfl (ldWD rfl rfl xE (plain_un _) xM hy11) ?_
          refine c_loadN (cs := [(.int .u64 ((p0_0 : Nat) : Int)), (.int .u64 ((p0_1 : Nat) : Int))]) rfl rfl rfl Tryz.isAgg323 Tryz.sizeOf323 rfl (ldD rfl rfl xE xM (subN (m := 2) rfl)) rfl ?_
          refine c_move rfl rfl rfl rfl (v := (.slice (some ⟨g4, 0, none⟩) x6.length c3)) rfl ?_
          refine c_move rfl rfl rfl rfl (v := (.int .i64 x7)) rfl ?_
          refine c_sub (p := x7) (q := (2 : Int)) rfl rfl rfl rfl rfl rfl ?_
          obtain ⟨y12, hy12, hl4⟩ := bnd hl4
          refine c_indexAddrS (p := (IntKind.wrap .i64 (x7 - (2 : Int)))) rfl rfl rfl rfl Tryz.underlying181 Tryz.sizeOf97 rfl rfl (by have := getO_lt hy12; omega) ?_
          refine c_load1 rfl rfl rfl Tryz.isAgg97 rfl (ldWD rfl rfl xE (plain_un _) xM hy12) ?_
          obtain ⟨y13, hy13, hl4⟩ := bnd hl4
          refine c_call rfl rfl rfl rfl Tryz.call295 (lf_ref02_Words_small_ok K p0_0 p0_1 y11 1 8 7  w0 _ _  hy13) rfl (by rintro v s r ⟨rfl, rfl, rfl⟩; exact Or.inr xE) ?_
          rintro _ _ _ ⟨rfl, rfl, rfl⟩
          refine n_add (p := ((y3 + y4) % 2 ^ 64)) (q := y13) rfl rfl rfl rfl rfl rfl rfl ?_
          obtain ⟨y14, hy14, hl4⟩ := bnd hl4
          refine c_call rfl rfl rfl rfl Tryz.call295 (lf_ref02_Words_small_ok K p0_0 p0_1 y12 19 61 6  w0 _ _  hy14) rfl (by rintro v s r ⟨rfl, rfl, rfl⟩; exact Or.inr xE) ?_
          rintro _ _ _ ⟨rfl, rfl, rfl⟩
          refine can_forget rfl ?_
          refine n_add (p := ((((y3 + y4) % 2 ^ 64) + y13) % 2 ^ 64)) (q := y14) rfl rfl rfl rfl rfl rfl rfl ?_
          refine c_assign rfl rfl rfl rfl (v := (.int .u64 ((((((((y3 + y4) % 2 ^ 64) + y13) % 2 ^ 64) + y14) % 2 ^ 64) : Nat) : Int))) rfl ?_
          refine can_nil ?_
          refine ps_then ?_
          refine cs_seq_region [0, 1, 2, 3, 4, 5, 6] rfl ?_
          refine c_move rfl rfl rfl rfl (v := (.slice (some ⟨g4, 0, none⟩) x6.length c3)) rfl ?_
          refine c_loadN (cs := [(.int .u64 ((p0_0 : Nat) : Int)), (.int .u64 ((p0_1 : Nat) : Int))]) rfl rfl rfl Tryz.isAgg323 Tryz.sizeOf323 rfl (ldS rfl rfl (.tail _ (.head _)) (subN (m := 2) rfl)) rfl ?_
          refine c_move rfl rfl rfl rfl (v := (.int .u64 ((((((((y3 + y4) % 2 ^ 64) + y13) % 2 ^ 64) + y14) % 2 ^ 64) : Nat) : Int))) rfl ?_
          obtain ⟨y15, hy15, hl4⟩ := bnd hl4
          refine c_call rfl rfl rfl rfl Tryz.call246 (lf_ref02_Words_cut_ok K p0_0 p0_1 ((((((y3 + y4) % 2 ^ 64) + y13) % 2 ^ 64) + y14) % 2 ^ 64)  w0 _ _  hy15) rfl (fun _ _ _ _ => Or.inl rfl) ?_
          rintro _ _ _ ⟨rfl, rfl, rfl⟩
          refine c_lit (cs := [(.int .u64 ((y15 : Nat) : Int))]) rfl rfl rfl rfl Tryz.underlying181 Tryz.sizeOf97 Tryz.zeroValue97 rfl rfl rfl rfl rfl (fun _ => Or.inl rfl) (fun g6 => ?_)
          obtain ⟨y16, hy16, hl4⟩ := bnd hl4
          refine l_append1 (dr := (un .u64)) (xs := x6) (ys := [y15]) rfl rfl rfl rfl sty_181 rfl rfl rfl Rem.here Foc.here rfl (fun hh hr => un_reps _) hy16 (fun _ => Or.inl rfl) (fun v3 => ?_)
          refine can_en (en_rowShape (xs := y16) (.head _)) ?_
          rintro _ _ ⟨rfl, rfl, A5, c5, rfl, -, -, -⟩
          refine c_assign rfl rfl rfl rfl (v := (.slice A5 y16.length c5)) rfl ?_
          refine can_nil ?_
          refine ps_block_normal ?_
          refine ps_then ?_
          refine cs_seq_region [0, 1, 2] rfl ?_
          refine c_move rfl rfl rfl rfl (v := (.int .i64 x7)) rfl ?_
          refine c_add (p := x7) (q := (1 : Int)) rfl rfl rfl rfl rfl rfl ?_
          refine c_assign rfl rfl rfl rfl (v := (.int .i64 (IntKind.wrap .i64 (x7 + (1 : Int))))) rfl ?_
          refine can_nil ?_
          refine ps_en (en_keep (rs) (fun r hr => hr)) ?_
          rintro _ _ ⟨rfl, rfl⟩
          refine ps_roundS [(6, (.slice A5 y16.length c5)), (11, (.int .i64 (IntKind.wrap .i64 (x7 + (1 : Int)))))] ⟨rfl, rfl, trivial⟩ xA k3 (Nat.lt_succ_self _) (⟨y16, (IntKind.wrap .i64 (x7 + (1 : Int))), _, _, _, hl4, rfl, rfl, rfl⟩) (.mk .refl .refl)
      · refine cs_exit ?_
        refine ps_then_exit ?_
        refine ps_then_exit ?_
        obtain rfl := Option.some.inj hl4
        replace h := un2_ h
        obtain ⟨z5, rfl⟩ : ∃ z, z = x6 := ⟨_, rfl⟩
        obtain ⟨z6, rfl⟩ : ∃ z, z = x7 := ⟨_, rfl⟩
        refine ps_block_here ?_
        refine ps_then ?_
        refine cs_seq ?_
        refine cs_seq_region [0, 1] rfl ?_
        refine c_move rfl rfl rfl rfl (v := (.slice A3 z5.length c3)) rfl ?_
        refine c_assign rfl rfl rfl rfl (v := (.slice A3 z5.length c3)) rfl ?_
        refine can_nil ?_
        refine ps_then ?_
        refine cs_ret ?_
        obtain rfl := Option.some.inj h
        refine ps_en (en_arr (sps' := Row (un .u64) 97 (.slice A3 z5.length c3) z5 :: sps) (Arr.cons Rem.here (Arr.sub (List.Sublist.cons _ (List.Sublist.refl _))))) ?_
        rintro _ _ ⟨rfl, rfl⟩
        refine ps_en (en_keep (rs) (fun r hr => hr)) ?_
        rintro _ _ ⟨rfl, rfl⟩
        apply ps_end1 rfl Tryz.results244 rfl
        · exact ⟨_, rfl, rfl, rfl⟩
        · exact .mk .refl .refl
def lf_ref02_Words_big (K : Nat) (p0_0 : Nat) (p0_1 : Nat) (p1 : Nat) (p2 : Nat) (p3 : Nat) (p4 : Nat) : Option Nat := ((lf_ref02_Words_turn K p0_0 p0_1 p1 p2).bind (fun y1 => ((lf_ref02_Words_turn K p0_0 p0_1 p1 p3).bind (fun y2 => ((lf_ref02_Words_turn K p0_0 p0_1 p1 p4).bind (fun y3 => (some (xorN 64 (xorN 64 y1 y2) y3))))))))
theorem lf_ref02_Words_big_ok (K : Nat) (p0_0 : Nat) (p0_1 : Nat) (p1 : Nat) (p2 : Nat) (p3 : Nat) (p4 : Nat)  (w0 : World) (sps : List Sp) (rs : List Fa)  {r0 : Nat} (h : lf_ref02_Words_big K p0_0 p0_1 p1 p2 p3 p4 = some r0) : FnOk Tryz.prog 296 #[.agg #[.int .u64 ((p0_0 : Nat) : Int), .int .u64 ((p0_1 : Nat) : Int)], .int .u64 ((p1 : Nat) : Int), .int .u64 ((p2 : Nat) : Int), .int .u64 ((p3 : Nat) : Int), .int .u64 ((p4 : Nat) : Int)] w0 sps rs (fun v s q => v = .int .u64 ((r0 : Nat) : Int) ∧ sps = s ∧ rs = q) := by
  unfold lf_ref02_Words_big at h
  refine fn_enter Tryz.func296 rfl Tryz.ntmps296 rfl ?_
  refine cs_seq ?_
  refine cs_seq_region [0, 1] rfl ?_
  refine c_box (cs := [(.int .u64 ((p0_0 : Nat) : Int)), (.int .u64 ((p0_1 : Nat) : Int))]) rfl rfl rfl rfl rfl (fun _ => Or.inl rfl) (fun g1 => ?_)
  refine c_assign rfl rfl rfl rfl (v := (.int .u64 ((0 : Nat) : Int))) rfl ?_
  refine can_nil ?_
  refine ps_then ?_
  refine cs_seq ?_
  refine cs_draw_region_at ([Bk g1 [(.int .u64 ((p0_0 : Nat) : Int)), (.int .u64 ((p0_1 : Nat) : Int))] 323]) [1, 0, 0, 2, 1, 0, 0, 2, 0, 1, 0, 0, 2, 0, 0] [false, false, false, true, false, false, false, true, false, false, false, false, true, false, false] [0, 1, 2, 4, 5, 6, 9, 10, 11, 3, 7, 8, 12, 13, 14] (by kernel_rfl) (by kernel_rfl) (by kernel_rfl) (by kernel_rfl) (by repeat (first | with_reducible refine qok_then ?_ | with_reducible refine qok_block ?_ | exact qok_body | exact qok_bodyN)) ?_
  refine c_loadN (cs := [(.int .u64 ((p0_0 : Nat) : Int)), (.int .u64 ((p0_1 : Nat) : Int))]) rfl rfl rfl Tryz.isAgg323 Tryz.sizeOf323 rfl (ldD rfl rfl xE xM (subN (m := 2) rfl)) rfl ?_
  refine c_move rfl rfl rfl rfl (v := (.int .u64 ((p1 : Nat) : Int))) rfl ?_
  refine c_move rfl rfl rfl rfl (v := (.int .u64 ((p2 : Nat) : Int))) rfl ?_
  refine c_loadN (cs := [(.int .u64 ((p0_0 : Nat) : Int)), (.int .u64 ((p0_1 : Nat) : Int))]) rfl rfl rfl Tryz.isAgg323 Tryz.sizeOf323 rfl (ldD rfl rfl xE xM (subN (m := 2) rfl)) rfl ?_
  refine c_move rfl rfl rfl rfl (v := (.int .u64 ((p1 : Nat) : Int))) rfl ?_
  refine c_move rfl rfl rfl rfl (v := (.int .u64 ((p3 : Nat) : Int))) rfl ?_
  refine c_loadN (cs := [(.int .u64 ((p0_0 : Nat) : Int)), (.int .u64 ((p0_1 : Nat) : Int))]) rfl rfl rfl Tryz.isAgg323 Tryz.sizeOf323 rfl (ldD rfl rfl xE xM (subN (m := 2) rfl)) rfl ?_
  refine c_move rfl rfl rfl rfl (v := (.int .u64 ((p1 : Nat) : Int))) rfl ?_
  refine c_move rfl rfl rfl rfl (v := (.int .u64 ((p4 : Nat) : Int))) rfl ?_
  obtain ⟨y1, hy1, h⟩ := bnd h
  refine c_call rfl rfl rfl rfl Tryz.call323 (lf_ref02_Words_turn_ok K p0_0 p0_1 p1 p2  w0 _ _  hy1) rfl (by rintro v s r ⟨rfl, rfl, rfl⟩; exact Or.inr xE) ?_
  rintro _ _ _ ⟨rfl, rfl, rfl⟩
  obtain ⟨y2, hy2, h⟩ := bnd h
  refine c_call rfl rfl rfl rfl Tryz.call323 (lf_ref02_Words_turn_ok K p0_0 p0_1 p1 p3  w0 _ _  hy2) rfl (by rintro v s r ⟨rfl, rfl, rfl⟩; exact Or.inr xE) ?_
  rintro _ _ _ ⟨rfl, rfl, rfl⟩
  refine l_xor (p := y1) (q := y2) rfl rfl rfl rfl rfl rfl rfl ?_
  obtain ⟨y3, hy3, h⟩ := bnd h
  refine c_call rfl rfl rfl rfl Tryz.call323 (lf_ref02_Words_turn_ok K p0_0 p0_1 p1 p4  w0 _ _  hy3) rfl (by rintro v s r ⟨rfl, rfl, rfl⟩; exact Or.inr xE) ?_
  rintro _ _ _ ⟨rfl, rfl, rfl⟩
  refine can_forget rfl ?_
  refine l_xor (p := (xorN 64 y1 y2)) (q := y3) rfl rfl rfl rfl rfl rfl rfl ?_
  refine c_assign rfl rfl rfl rfl (v := (.int .u64 (((xorN 64 (xorN 64 y1 y2) y3) : Nat) : Int))) rfl ?_
  refine can_nil ?_
  refine ps_then ?_
  refine cs_ret ?_
  obtain rfl := Option.some.inj h
  refine ps_en (en_arr (sps' := sps) (Arr.sub (List.Sublist.cons _ (List.Sublist.refl _)))) ?_
  rintro _ _ ⟨rfl, rfl⟩
  refine ps_en (en_keep (rs) (fun r hr => hr)) ?_
  rintro _ _ ⟨rfl, rfl⟩
  apply ps_end1 rfl Tryz.results296 rfl
  · exact ⟨rfl, rfl, rfl⟩
  · exact .mk .refl .refl
def lf_ref02_Words_round (K : Nat) (p0_0 : Nat) (p0_1 : Nat) (p1 : (List Nat)) (p2 : Nat) (p3 : Nat) : Option (List Nat) := ((getO p1 (0 : Int)).bind fun y1 => ((getO p1 (1 : Int)).bind fun y2 => ((getO p1 (2 : Int)).bind fun y3 => ((getO p1 (4 : Int)).bind fun y4 => ((getO p1 (5 : Int)).bind fun y5 => ((getO p1 (6 : Int)).bind fun y6 => ((bif (decide (p0_0 ≠ 0)) then ((lf_ref02_Words_big K p0_0 p0_1 y4 6 11 25).bind (fun y7 => ((lf_ref02_Words_big K p0_0 p0_1 y1 2 13 22).bind (fun y8 => (some ((p2 / 4294967296 % 2 ^ 64), y7, y8)))))) else ((lf_ref02_Words_big K p0_0 p0_1 y4 14 18 41).bind (fun y9 => ((lf_ref02_Words_big K p0_0 p0_1 y1 28 34 39).bind (fun y10 => (some (p2, y9, y10))))))).bind (fun qx1 => un2 qx1 (fun x1 => fun qx2 => un2 qx2 (fun x2 => fun x3 => ((lf_ref02_Words_cut K p0_0 p0_1 (notN 64 y4)).bind (fun y11 => (lett ((orN 64 (orN 64 (andN 64 y1 y2) (andN 64 y1 y3)) (andN 64 y2 y3)) : Nat) fun y12 => ((getO p1 (7 : Int)).bind fun y13 => (lett (((((((((y13 + x2) % 2 ^ 64) + (orN 64 (andN 64 y4 y5) (andN 64 y11 y6))) % 2 ^ 64) + x1) % 2 ^ 64) + p3) % 2 ^ 64) : Nat) fun y14 => ((getO p1 (3 : Int)).bind fun y15 => ((lf_ref02_Words_cut K p0_0 p0_1 ((((y14 + x3) % 2 ^ 64) + y12) % 2 ^ 64)).bind (fun y16 => ((lf_ref02_Words_cut K p0_0 p0_1 ((y15 + y14) % 2 ^ 64)).bind (fun y17 => (some ([y16, y1, y2, y3, y17, y4, y5, y6] : List Nat))))))))))))))))))))))
theorem lf_ref02_Words_round_ok (K : Nat) (p0_0 : Nat) (p0_1 : Nat) (p1 : (List Nat)) (p2 : Nat) (p3 : Nat) (vp1 : Value) (w0 : World) (sps : List Sp) (rs : List Fa) (hv_p1 : Rd (un .u64) vp1 p1 ∈ rs) {r0 : (List Nat)} (h : lf_ref02_Words_round K p0_0 p0_1 p1 p2 p3 = some r0) : FnOk Tryz.prog 245 #[.agg #[.int .u64 ((p0_0 : Nat) : Int), .int .u64 ((p0_1 : Nat) : Int)], vp1, .int .u64 ((p2 : Nat) : Int), .int .u64 ((p3 : Nat) : Int)] w0 sps rs (fun v s q => ∃ (qr0 : Value), v = qr0 ∧ Row (un .u64) 97 qr0 r0 :: sps = s ∧ rs = q) := by
  unfold lf_ref02_Words_round at h
  refine fn_en (en_shape hv_p1) ?_
  rintro _ _ ⟨rfl, rfl, Ap1, cp1, rfl, -, -, -⟩
  refine fn_enter Tryz.func245 rfl Tryz.ntmps245 rfl ?_
  refine cs_seq ?_
  refine cs_seq_region [0, 1] rfl ?_
  refine c_box (cs := [(.int .u64 ((p0_0 : Nat) : Int)), (.int .u64 ((p0_1 : Nat) : Int))]) rfl rfl rfl rfl rfl (fun _ => Or.inl rfl) (fun g1 => ?_)
  refine c_assign rfl rfl rfl rfl (v := (.slice none 0 0)) rfl ?_
  refine can_nil ?_
  refine ps_then ?_
  refine cs_seq ?_
  refine cs_draw_region_at ([Bk g1 [(.int .u64 ((p0_0 : Nat) : Int)), (.int .u64 ((p0_1 : Nat) : Int))] 323]) [0, 0, 1, 0, 0, 1, 0, 0, 1, 0, 0, 1, 0, 0, 1, 0, 0, 1, 0, 0, 0, 0, 0, 0] [false, false, false, false, false, false, false, false, false, false, false, false, false, false, false, false, false, false, false, false, false, false, false, false] [0, 1, 2, 3, 4, 5, 6, 7, 8, 9, 10, 11, 12, 13, 14, 15, 16, 17, 18, 19, 20, 21, 22, 23] (by kernel_rfl) (by kernel_rfl) (by kernel_rfl) (by kernel_rfl) (by repeat (first | with_reducible refine qok_then ?_ | with_reducible refine qok_block ?_ | exact qok_body | exact qok_bodyN)) ?_
  refine c_move rfl rfl rfl rfl (v := (.slice Ap1 p1.length cp1)) rfl ?_
  obtain ⟨y1, hy1, h⟩ := bnd h
  refine can_en (en_ptr hv_p1 (by have := getO_lt hy1; omega)) ?_
  rintro _ _ ⟨rfl, rfl, g2, o1, rfl⟩
  refine c_indexAddrS (p := (0 : Int)) rfl rfl rfl rfl Tryz.underlying181 Tryz.sizeOf97 rfl rfl (by have := getO_lt hy1; omega) ?_
  refine c_load1 rfl rfl rfl Tryz.isAgg97 rfl (ldRD rfl rfl xE (plain_un _) xM hy1) ?_
  refine c_move rfl rfl rfl rfl (v := (.slice (some ⟨g2, o1, none⟩) p1.length cp1)) rfl ?_
  obtain ⟨y2, hy2, h⟩ := bnd h
  refine c_indexAddrS (p := (1 : Int)) rfl rfl rfl rfl Tryz.underlying181 Tryz.sizeOf97 rfl rfl (by have := getO_lt hy2; omega) ?_
  refine c_load1 rfl rfl rfl Tryz.isAgg97 rfl (ldRD rfl rfl xE (plain_un _) xM hy2) ?_
  refine c_move rfl rfl rfl rfl (v := (.slice (some ⟨g2, o1, none⟩) p1.length cp1)) rfl ?_
  obtain ⟨y3, hy3, h⟩ := bnd h
  refine c_indexAddrS (p := (2 : Int)) rfl rfl rfl rfl Tryz.underlying181 Tryz.sizeOf97 rfl rfl (by have := getO_lt hy3; omega) ?_
  refine c_load1 rfl rfl rfl Tryz.isAgg97 rfl (ldRD rfl rfl xE (plain_un _) xM hy3) ?_
  refine c_move rfl rfl rfl rfl (v := (.slice (some ⟨g2, o1, none⟩) p1.length cp1)) rfl ?_
  obtain ⟨y4, hy4, h⟩ := bnd h
  refine c_indexAddrS (p := (4 : Int)) rfl rfl rfl rfl Tryz.underlying181 Tryz.sizeOf97 rfl rfl (by have := getO_lt hy4; omega) ?_
  refine c_load1 rfl rfl rfl Tryz.isAgg97 rfl (ldRD rfl rfl xE (plain_un _) xM hy4) ?_
  refine c_move rfl rfl rfl rfl (v := (.slice (some ⟨g2, o1, none⟩) p1.length cp1)) rfl ?_
  obtain ⟨y5, hy5, h⟩ := bnd h
  refine c_indexAddrS (p := (5 : Int)) rfl rfl rfl rfl Tryz.underlying181 Tryz.sizeOf97 rfl rfl (by have := getO_lt hy5; omega) ?_
  refine c_load1 rfl rfl rfl Tryz.isAgg97 rfl (ldRD rfl rfl xE (plain_un _) xM hy5) ?_
  refine c_move rfl rfl rfl rfl (v := (.slice (some ⟨g2, o1, none⟩) p1.length cp1)) rfl ?_
  obtain ⟨y6, hy6, h⟩ := bnd h
  refine c_indexAddrS (p := (6 : Int)) rfl rfl rfl rfl Tryz.underlying181 Tryz.sizeOf97 rfl rfl (by have := getO_lt hy6; omega) ?_
  refine c_load1 rfl rfl rfl Tryz.isAgg97 rfl (ldRD rfl rfl xE (plain_un _) xM hy6) ?_
  refine can_forget rfl ?_
  refine c_assign rfl rfl rfl rfl (v := (.int .u64 ((y1 : Nat) : Int))) rfl ?_
  refine c_assign rfl rfl rfl rfl (v := (.int .u64 ((y2 : Nat) : Int))) rfl ?_
  refine c_assign rfl rfl rfl rfl (v := (.int .u64 ((y3 : Nat) : Int))) rfl ?_
  refine c_assign rfl rfl rfl rfl (v := (.int .u64 ((y4 : Nat) : Int))) rfl ?_
  refine c_assign rfl rfl rfl rfl (v := (.int .u64 ((y5 : Nat) : Int))) rfl ?_
  refine c_assign rfl rfl rfl rfl (v := (.int .u64 ((y6 : Nat) : Int))) rfl ?_
  refine can_nil ?_
  refine ps_then ?_
  refine cs_seq ?_
  refine cs_seq_region [0, 1] rfl ?_
  refine c_assign rfl rfl rfl rfl (v := (.int .u64 ((0 : Nat) : Int))) rfl ?_
  refine c_assign rfl rfl rfl rfl (v := (.int .u64 ((0 : Nat) : Int))) rfl ?_
  refine can_nil ?_
  refine ps_then ?_
  obtain ⟨o2, hl1, h⟩ := bnd h
  refine cs_cutS [2, 15, 16, 38, 39, 40, 41, 42, 43, 44, 45, 46, 47, 48, 49, 50, 51, 52, 53, 54] (fun L s r => ∃ (x1 : Nat) (x2 : Nat) (x3 : Nat), (x1, x2, x3) = o2 ∧ [(2, (.int .u64 ((x1 : Nat) : Int))), (15, (.int .u64 ((x2 : Nat) : Int))), (16, (.int .u64 ((x3 : Nat) : Int)))] = L ∧ Bk g1 [(.int .u64 ((p0_0 : Nat) : Int)), (.int .u64 ((p0_1 : Nat) : Int))] 323 :: sps = s ∧ rs = r) ?_ ?_
  · refine cs_seq ?_
    refine cs_seq_region [0, 1, 2] rfl ?_
    refine c_fieldAddr rfl rfl rfl rfl Tryz.underlying323 rfl Tryz.sizeOf97 rfl rfl ?_
    refine c_load1 (v := (.int .u64 ((p0_0 : Nat) : Int))) rfl rfl rfl Tryz.isAgg97 rfl (ldS rfl rfl (.head _) (sub1 rfl)) ?_
    refine l_neq (p := p0_0) (q := 0) rfl rfl rfl rfl rfl rfl ?_
    refine can_nil ?_
    refine ps_then ?_
    refine cs_condL (b := (decide (p0_0 ≠ 0))) rfl hl1 (fun hc1 hl1 => ?_) (fun hc1 hl1 => ?_)
    · refine cs_seq ?_
      refine cs_seq_region [0, 1, 2, 3] rfl ?_
      refine c_loadN (cs := [(.int .u64 ((p0_0 : Nat) : Int)), (.int .u64 ((p0_1 : Nat) : Int))]) rfl rfl rfl Tryz.isAgg323 Tryz.sizeOf323 rfl (ldS rfl rfl (.head _) (subN (m := 2) rfl)) rfl ?_
      refine c_move rfl rfl rfl rfl (v := (.int .u64 ((y4 : Nat) : Int))) rfl ?_
      obtain ⟨y7, hy7, hl1⟩ := bnd hl1
      refine c_call rfl rfl rfl rfl Tryz.call296 (lf_ref02_Words_big_ok K p0_0 p0_1 y4 6 11 25  w0 _ _  hy7) rfl (fun _ _ _ _ => Or.inl rfl) ?_
      rintro _ _ _ ⟨rfl, rfl, rfl⟩
      refine c_assign rfl rfl rfl rfl (v := (.int .u64 ((y7 : Nat) : Int))) rfl ?_
      refine can_nil ?_
      refine ps_then ?_
      refine cs_seq ?_
      refine cs_seq_region [0, 1, 2, 3] rfl ?_
      refine c_loadN (cs := [(.int .u64 ((p0_0 : Nat) : Int)), (.int .u64 ((p0_1 : Nat) : Int))]) rfl rfl rfl Tryz.isAgg323 Tryz.sizeOf323 rfl (ldS rfl rfl (.head _) (subN (m := 2) rfl)) rfl ?_
      refine c_move rfl rfl rfl rfl (v := (.int .u64 ((y1 : Nat) : Int))) rfl ?_
      obtain ⟨y8, hy8, hl1⟩ := bnd hl1
      refine c_call rfl rfl rfl rfl Tryz.call296 (lf_ref02_Words_big_ok K p0_0 p0_1 y1 2 13 22  w0 _ _  hy8) rfl (fun _ _ _ _ => Or.inl rfl) ?_
      rintro _ _ _ ⟨rfl, rfl, rfl⟩
      refine c_assign rfl rfl rfl rfl (v := (.int .u64 ((y8 : Nat) : Int))) rfl ?_
      refine can_nil ?_
      refine ps_then ?_
      refine cs_seq_region [0, 1, 2] rfl ?_
      refine c_move rfl rfl rfl rfl (v := (.int .u64 ((p2 : Nat) : Int))) rfl ?_
      refine l_quo (p := p2) (q := 4294967296) rfl rfl rfl rfl rfl rfl rfl rfl ?_
      refine c_assign rfl rfl rfl rfl (v := (.int .u64 (((p2 / 4294967296 % 2 ^ 64) : Nat) : Int))) rfl ?_
      refine can_nil ?_
      refine ps_en (en_keep (rs) (fun r hr => hr)) ?_
      rintro _ _ ⟨rfl, rfl⟩
      refine ps_cutS [(2, (.int .u64 (((p2 / 4294967296 % 2 ^ 64) : Nat) : Int))), (15, (.int .u64 ((y7 : Nat) : Int))), (16, (.int .u64 ((y8 : Nat) : Int)))] ⟨rfl, rfl, rfl, trivial⟩ xA (⟨(p2 / 4294967296 % 2 ^ 64), y7, y8, Option.some.inj hl1, rfl, rfl, rfl⟩) (.mk .refl .refl)
    · refine cs_seq ?_
      refine cs_seq_region [0, 1, 2, 3] rfl ?_
      refine c_loadN (cs := [(.int .u64 ((p0_0 : Nat) : Int)), (.int .u64 ((p0_1 : Nat) : Int))]) rfl rfl rfl Tryz.isAgg323 Tryz.sizeOf323 rfl (ldS rfl rfl (.head _) (subN (m := 2) rfl)) rfl ?_
      refine c_move rfl rfl rfl rfl (v := (.int .u64 ((y4 : Nat) : Int))) rfl ?_
      obtain ⟨y9, hy9, hl1⟩ := bnd hl1
      refine c_call rfl rfl rfl rfl Tryz.call296 (lf_ref02_Words_big_ok K p0_0 p0_1 y4 14 18 41  w0 _ _  hy9) rfl (fun _ _ _ _ => Or.inl rfl) ?_
      rintro _ _ _ ⟨rfl, rfl, rfl⟩
      refine c_assign rfl rfl rfl rfl (v := (.int .u64 ((y9 : Nat) : Int))) rfl ?_
      refine can_nil ?_
      refine ps_then ?_
      refine cs_seq_region [0, 1, 2, 3] rfl ?_
      refine c_loadN (cs := [(.int .u64 ((p0_0 : Nat) : Int)), (.int .u64 ((p0_1 : Nat) : Int))]) rfl rfl rfl Tryz.isAgg323 Tryz.sizeOf323 rfl (ldS rfl rfl (.head _) (subN (m := 2) rfl)) rfl ?_
      refine c_move rfl rfl rfl rfl (v := (.int .u64 ((y1 : Nat) : Int))) rfl ?_
      obtain ⟨y10, hy10, hl1⟩ := bnd hl1
      refine c_call rfl rfl rfl rfl Tryz.call296 (lf_ref02_Words_big_ok K p0_0 p0_1 y1 28 34 39  w0 _ _  hy10) rfl (fun _ _ _ _ => Or.inl rfl) ?_
      rintro _ _ _ ⟨rfl, rfl, rfl⟩
      refine c_assign rfl rfl rfl rfl (v := (.int .u64 ((y10 : Nat) : Int))) rfl ?_
      refine can_nil ?_
      refine ps_en (en_keep (rs) (fun r hr => hr)) ?_
      rintro _ _ ⟨rfl, rfl⟩
      refine ps_cutS [(2, (.int .u64 ((p2 : Nat) : Int))), (15, (.int .u64 ((y9 : Nat) : Int))), (16, (.int .u64 ((y10 : Nat) : Int)))] ⟨rfl, rfl, rfl, trivial⟩ xA (⟨p2, y9, y10, Option.some.inj hl1, rfl, rfl, rfl⟩) (.mk .refl .refl)
  · rintro f1 _ _ _ ⟨x1, x2, x3, rfl, rfl, rfl, rfl⟩
    replace h := un2_ h
    replace h := un2_ h
    refine cs_seq ?_
    refine cs_seq_region [0, 1, 2, 3, 4, 5, 6, 7, 8, 9, 10] rfl ?_
    refine c_move rfl rfl rfl rfl (v := (.int .u64 ((y4 : Nat) : Int))) rfl ?_
    refine c_move rfl rfl rfl rfl (v := (.int .u64 ((y5 : Nat) : Int))) rfl ?_
    refine l_and (p := y4) (q := y5) rfl rfl rfl rfl rfl rfl rfl ?_
    refine c_loadN (cs := [(.int .u64 ((p0_0 : Nat) : Int)), (.int .u64 ((p0_1 : Nat) : Int))]) rfl rfl rfl Tryz.isAgg323 Tryz.sizeOf323 rfl (ldS rfl rfl (.head _) (subN (m := 2) rfl)) rfl ?_
    refine c_move rfl rfl rfl rfl (v := (.int .u64 ((y4 : Nat) : Int))) rfl ?_
    refine l_compl (p := y4) rfl rfl rfl rfl rfl rfl ?_
    obtain ⟨y11, hy11, h⟩ := bnd h
    refine c_call rfl rfl rfl rfl Tryz.call246 (lf_ref02_Words_cut_ok K p0_0 p0_1 (notN 64 y4)  w0 _ _  hy11) rfl (fun _ _ _ _ => Or.inl rfl) ?_
    rintro _ _ _ ⟨rfl, rfl, rfl⟩
    refine c_move rfl rfl rfl rfl (v := (.int .u64 ((y6 : Nat) : Int))) rfl ?_
    refine l_and (p := y11) (q := y6) rfl rfl rfl rfl rfl rfl rfl ?_
    refine l_or (p := (andN 64 y4 y5)) (q := (andN 64 y11 y6)) rfl rfl rfl rfl rfl rfl rfl ?_
    refine c_assign rfl rfl rfl rfl (v := (.int .u64 (((orN 64 (andN 64 y4 y5) (andN 64 y11 y6)) : Nat) : Int))) rfl ?_
    refine can_nil ?_
    refine ps_then ?_
    refine cs_seq ?_
    refine cs_seq_region [0, 1, 2, 3, 4, 5, 6, 7, 8, 9, 10, 11] rfl ?_
    refine c_move rfl rfl rfl rfl (v := (.int .u64 ((y1 : Nat) : Int))) rfl ?_
    refine c_move rfl rfl rfl rfl (v := (.int .u64 ((y2 : Nat) : Int))) rfl ?_
    refine l_and (p := y1) (q := y2) rfl rfl rfl rfl rfl rfl rfl ?_
    refine c_move rfl rfl rfl rfl (v := (.int .u64 ((y1 : Nat) : Int))) rfl ?_
    refine c_move rfl rfl rfl rfl (v := (.int .u64 ((y3 : Nat) : Int))) rfl ?_
    refine l_and (p := y1) (q := y3) rfl rfl rfl rfl rfl rfl rfl ?_
    refine l_or (p := (andN 64 y1 y2)) (q := (andN 64 y1 y3)) rfl rfl rfl rfl rfl rfl rfl ?_
    refine c_move rfl rfl rfl rfl (v := (.int .u64 ((y2 : Nat) : Int))) rfl ?_
    refine c_move rfl rfl rfl rfl (v := (.int .u64 ((y3 : Nat) : Int))) rfl ?_
    refine l_and (p := y2) (q := y3) rfl rfl rfl rfl rfl rfl rfl ?_
    refine l_or (p := (orN 64 (andN 64 y1 y2) (andN 64 y1 y3))) (q := (andN 64 y2 y3)) rfl rfl rfl rfl rfl rfl rfl ?_
    refine c_assign rfl rfl rfl rfl (v := (.int .u64 (((orN 64 (orN 64 (andN 64 y1 y2) (andN 64 y1 y3)) (andN 64 y2 y3)) : Nat) : Int))) rfl ?_
    obtain ⟨y12, hy12, h⟩ := let_ h
    refine can_is 18 (.int .u64 ((y12 : Nat) : Int)) (congrArg (fun z : Nat => Value.int .u64 (z : Int)) hy12) ?_
    refine can_nil ?_
    refine ps_then ?_
    refine cs_seq ?_
    refine cs_seq_region [0, 1, 2, 3, 4, 5, 6, 7, 8, 9, 10, 11] rfl ?_
    refine c_move rfl rfl rfl rfl (v := (.slice (some ⟨g2, o1, none⟩) p1.length cp1)) rfl ?_
    obtain ⟨y13, hy13, h⟩ := bnd h
    refine c_indexAddrS (p := (7 : Int)) rfl rfl rfl rfl Tryz.underlying181 Tryz.sizeOf97 rfl rfl (by have := getO_lt hy13; omega) ?_
    refine c_load1 rfl rfl rfl Tryz.isAgg97 rfl (ldR rfl rfl (plain_un _) hv_p1 hy13) ?_
    refine c_move rfl rfl rfl rfl (v := (.int .u64 ((x2 : Nat) : Int))) rfl ?_
    refine n_add (p := y13) (q := x2) rfl rfl rfl rfl rfl rfl rfl ?_
    refine c_move rfl rfl rfl rfl (v := (.int .u64 (((orN 64 (andN 64 y4 y5) (andN 64 y11 y6)) : Nat) : Int))) rfl ?_
    refine n_add (p := ((y13 + x2) % 2 ^ 64)) (q := (orN 64 (andN 64 y4 y5) (andN 64 y11 y6))) rfl rfl rfl rfl rfl rfl rfl ?_
    refine c_move rfl rfl rfl rfl (v := (.int .u64 ((x1 : Nat) : Int))) rfl ?_
    refine n_add (p := ((((y13 + x2) % 2 ^ 64) + (orN 64 (andN 64 y4 y5) (andN 64 y11 y6))) % 2 ^ 64)) (q := x1) rfl rfl rfl rfl rfl rfl rfl ?_
    refine c_move rfl rfl rfl rfl (v := (.int .u64 ((p3 : Nat) : Int))) rfl ?_
    refine n_add (p := ((((((y13 + x2) % 2 ^ 64) + (orN 64 (andN 64 y4 y5) (andN 64 y11 y6))) % 2 ^ 64) + x1) % 2 ^ 64)) (q := p3) rfl rfl rfl rfl rfl rfl rfl ?_
    refine c_assign rfl rfl rfl rfl (v := (.int .u64 ((((((((((y13 + x2) % 2 ^ 64) + (orN 64 (andN 64 y4 y5) (andN 64 y11 y6))) % 2 ^ 64) + x1) % 2 ^ 64) + p3) % 2 ^ 64) : Nat) : Int))) rfl ?_
    obtain ⟨y14, hy14, h⟩ := let_ h
    refine can_is 19 (.int .u64 ((y14 : Nat) : Int)) (congrArg (fun z : Nat => Value.int .u64 (z : Int)) hy14) ?_
    refine can_nil ?_
    refine ps_then ?_
    refine cs_seq ?_
    refine cs_draw_region_at ([Bk g1 [(.int .u64 ((p0_0 : Nat) : Int)), (.int .u64 ((p0_1 : Nat) : Int))] 323]) [1, 0, 0, 0, 0, 0, 2, 0, 0, 0, 1, 0, 0, 1, 0, 0, 2, 0, 0, 0, 2, 0] [false, false, false, false, false, false, true, false, false, false, false, false, false, false, false, false, true, false, false, false, true, false] [0, 1, 2, 3, 4, 5, 7, 8, 9, 10, 11, 12, 13, 14, 15, 17, 18, 19, 6, 16, 20, 21] (by kernel_rfl) (by kernel_rfl) (by kernel_rfl) (by kernel_rfl) (by repeat (first | with_reducible refine qok_then ?_ | with_reducible refine qok_block ?_ | exact qok_body | exact qok_bodyN)) ?_
    refine c_loadN (cs := [(.int .u64 ((p0_0 : Nat) : Int)), (.int .u64 ((p0_1 : Nat) : Int))]) rfl rfl rfl Tryz.isAgg323 Tryz.sizeOf323 rfl (ldD rfl rfl xE xM (subN (m := 2) rfl)) rfl ?_
    refine c_move rfl rfl rfl rfl (v := (.int .u64 ((y14 : Nat) : Int))) rfl ?_
    refine c_move rfl rfl rfl rfl (v := (.int .u64 ((x3 : Nat) : Int))) rfl ?_
    refine n_add (p := y14) (q := x3) rfl rfl rfl rfl rfl rfl rfl ?_
    refine c_move rfl rfl rfl rfl (v := (.int .u64 ((y12 : Nat) : Int))) rfl ?_
    refine n_add (p := ((y14 + x3) % 2 ^ 64)) (q := y12) rfl rfl rfl rfl rfl rfl rfl ?_
    refine c_move rfl rfl rfl rfl (v := (.int .u64 ((y1 : Nat) : Int))) rfl ?_
    refine c_move rfl rfl rfl rfl (v := (.int .u64 ((y2 : Nat) : Int))) rfl ?_
    refine c_move rfl rfl rfl rfl (v := (.int .u64 ((y3 : Nat) : Int))) rfl ?_
    refine c_loadN (cs := [(.int .u64 ((p0_0 : Nat) : Int)), (.int .u64 ((p0_1 : Nat) : Int))]) rfl rfl rfl Tryz.isAgg323 Tryz.sizeOf323 rfl (ldD rfl rfl xE xM (subN (m := 2) rfl)) rfl ?_
    refine c_move rfl rfl rfl rfl (v := (.slice (some ⟨g2, o1, none⟩) p1.length cp1)) rfl ?_
    obtain ⟨y15, hy15, h⟩ := bnd h
    refine c_indexAddrS (p := (3 : Int)) rfl rfl rfl rfl Tryz.underlying181 Tryz.sizeOf97 rfl rfl (by have := getO_lt hy15; omega) ?_
    refine c_load1 rfl rfl rfl Tryz.isAgg97 rfl (ldRD rfl rfl xE (plain_un _) xM hy15) ?_
    refine c_move rfl rfl rfl rfl (v := (.int .u64 ((y14 : Nat) : Int))) rfl ?_
    refine n_add (p := y15) (q := y14) rfl rfl rfl rfl rfl rfl rfl ?_
    refine c_move rfl rfl rfl rfl (v := (.int .u64 ((y4 : Nat) : Int))) rfl ?_
    refine c_move rfl rfl rfl rfl (v := (.int .u64 ((y5 : Nat) : Int))) rfl ?_
    refine c_move rfl rfl rfl rfl (v := (.int .u64 ((y6 : Nat) : Int))) rfl ?_
    obtain ⟨y16, hy16, h⟩ := bnd h
    refine c_call rfl rfl rfl rfl Tryz.call246 (lf_ref02_Words_cut_ok K p0_0 p0_1 ((((y14 + x3) % 2 ^ 64) + y12) % 2 ^ 64)  w0 _ _  hy16) rfl (by rintro v s r ⟨rfl, rfl, rfl⟩; exact Or.inr xE) ?_
    rintro _ _ _ ⟨rfl, rfl, rfl⟩
    obtain ⟨y17, hy17, h⟩ := bnd h
    refine c_call rfl rfl rfl rfl Tryz.call246 (lf_ref02_Words_cut_ok K p0_0 p0_1 ((y15 + y14) % 2 ^ 64)  w0 _ _  hy17) rfl (by rintro v s r ⟨rfl, rfl, rfl⟩; exact Or.inr xE) ?_
    rintro _ _ _ ⟨rfl, rfl, rfl⟩
    refine c_lit (cs := [(.int .u64 ((y16 : Nat) : Int)), (.int .u64 ((y1 : Nat) : Int)), (.int .u64 ((y2 : Nat) : Int)), (.int .u64 ((y3 : Nat) : Int)), (.int .u64 ((y17 : Nat) : Int)), (.int .u64 ((y4 : Nat) : Int)), (.int .u64 ((y5 : Nat) : Int)), (.int .u64 ((y6 : Nat) : Int))]) rfl rfl rfl rfl Tryz.underlying181 Tryz.sizeOf97 Tryz.zeroValue97 rfl rfl rfl rfl rfl (fun _ => Or.inr xE) (fun g3 => ?_)
    refine can_en (en_litRow (m := 8) (dr := (un .u64)) (xs := ([y16, y1, y2, y3, y17, y4, y5, y6] : List Nat)) Rem.here (fun hh hr => un_reps _) rfl rfl) ?_
    rintro _ _ ⟨rfl, rfl⟩
    refine can_forget rfl ?_
    refine c_assign rfl rfl rfl rfl (v := (.slice (some ⟨g3, 0, none⟩) 8 8)) rfl ?_
    refine can_nil ?_
    refine ps_then ?_
    refine cs_ret ?_
    obtain rfl := Option.some.inj h
    refine ps_en (en_arr (sps' := Row (un .u64) 97 (.slice (some ⟨g3, 0, none⟩) 8 8) ([y16, y1, y2, y3, y17, y4, y5, y6] : List Nat) :: sps) (Arr.cons Rem.here (Arr.sub (List.Sublist.cons _ (List.Sublist.refl _))))) ?_
    rintro _ _ ⟨rfl, rfl⟩
    refine ps_en (en_keep (rs) (fun r hr => hr)) ?_
    rintro _ _ ⟨rfl, rfl⟩
    apply ps_end1 rfl Tryz.results245 rfl
    · exact ⟨_, rfl, rfl, rfl⟩
    · exact .mk .refl .refl
def lf_ref02_Sum_l2 (K : Nat) (x1 : Nat) : Nat → Int → (List Nat) → Option (Int × (List Nat))
  | 0, _, _ => none
  | k + 1, x4, x5 => (bif (decide (x4 < (8 : Int))) then (bif (decide (x1 ≠ 0)) then ((getO x5 x4).bind fun y7 => ((getO x5 x4).bind fun y8 => ((setO x5 x4 (y7 / 4294967296 % 2 ^ 64)).bind fun y9 => (lf_ref02_Sum_l2 K x1 k (IntKind.wrap .i64 (x4 + (1 : Int))) y9)))) else (some (x4, x5))) else (some (x4, x5)))
def lf_ref02_Sum_l5 (K : Nat) (x1 : Nat) (x2 : Nat) (x6 : (List Nat)) (z5 : (List Nat)) : Nat → (List Nat) → Int → Option ((List Nat) × Int)
  | 0, _, _ => none
  | k + 1, x10, x11 => (bif (decide (x11 < (8 : Int))) then ((getO x6 x11).bind fun y15 => ((getO z5 x11).bind fun y16 => ((lf_ref02_Words_cut K x1 x2 ((y15 + y16) % 2 ^ 64)).bind (fun y17 => ((appO x10 ([y17] : List Nat)).bind fun y18 => (lf_ref02_Sum_l5 K x1 x2 x6 z5 k y18 (IntKind.wrap .i64 (x11 + (1 : Int))))))))) else (some (x10, x11)))
def lf_ref02_Sum_l4 (K : Nat) (x1 : Nat) (x2 : Nat) (y5 : (List Nat)) (y11 : (List Nat)) : Nat → (List Nat) → Int → Option ((List Nat) × Int)
  | 0, _, _ => none
  | k + 1, x8, x9 => (bif (decide (x9 < ((y11.length : Nat) : Int))) then ((getO y5 x9).bind fun y12 => ((getO y11 x9).bind fun y13 => ((lf_ref02_Words_round K x1 x2 x8 y12 y13).bind (fun y14 => (lf_ref02_Sum_l4 K x1 x2 y5 y11 k y14 (IntKind.wrap .i64 (x9 + (1 : Int)))))))) else (some (x8, x9)))
def lf_ref02_Sum_l7 (K : Nat) (z9 : (List Nat)) (x13 : Int) : Nat → (List Nat) → Int → Option ((List Nat) × Int)
  | 0, _, _ => none
  | k + 1, x14, x15 => (bif (decide (x15 ≥ (0 : Int))) then ((getO z9 x13).bind fun y21 => ((appO x14 ([((y21 / 2 ^ min (toU .u64 x15) 64) % 2 ^ 8)] : List Nat)).bind fun y22 => (lf_ref02_Sum_l7 K z9 x13 k y22 (IntKind.wrap .i64 (x15 - (8 : Int)))))) else (some (x14, x15)))
def lf_ref02_Sum_l6 (K : Nat) (x2 : Nat) (z9 : (List Nat)) : Nat → (List Nat) → Int → Option ((List Nat) × Int)
  | 0, _, _ => none
  | k + 1, x12, x13 => (bif (decide (x13 < (8 : Int))) then (lett ((IntKind.wrap .i64 ((IntKind.wrap .i64 ((x2 : Nat) : Int)) - (8 : Int))) : Int) fun y20 => ((lf_ref02_Sum_l7 K z9 x13 K x12 y20).bind (fun qz11 => un2 qz11 (fun z11 => fun z12 => (lf_ref02_Sum_l6 K x2 z9 k z11 (IntKind.wrap .i64 (x13 + (1 : Int)))))))) else (some (x12, x13)))
def lf_ref02_Sum_l3 (K : Nat) (p1 : Int) (x1 : Nat) (x2 : Nat) (y4 : (List Nat)) (y5 : (List Nat)) : Nat → (List Nat) → Int → Option ((List Nat) × Int)
  | 0, _, _ => none
  | k + 1, x6, x7 => (bif (decide (x7 < ((y4.length : Nat) : Int))) then ((subO y4 x7 (IntKind.wrap .i64 (x7 + (IntKind.wrap .i64 (p1.tdiv (4 : Int)))))).bind fun y10 => ((lf_ref02_Words_expand K x1 x2 y10).bind (fun y11 => ((lf_ref02_Sum_l4 K x1 x2 y5 y11 K x6 (0 : Int)).bind (fun qz5 => un2 qz5 (fun z5 => fun z6 => ((lf_ref02_Sum_l5 K x1 x2 x6 z5 K ([] : List Nat) (0 : Int)).bind (fun qz7 => un2 qz7 (fun z7 => fun z8 => (lett ((IntKind.wrap .i64 (x7 + (IntKind.wrap .i64 (p1.tdiv (4 : Int))))) : Int) fun y19 => (lf_ref02_Sum_l3 K p1 x1 x2 y4 y5 k z7 y19))))))))))) else (some (x6, x7)))
def lf_ref02_Sum (K : Nat) (p0 : (List Nat)) (p1 : Int) : Option ((List Nat) × Int) := (bif (decide (((p0.length : Nat) : Int) > (1048576 : Int))) then (some (([] : List Nat), (2 : Int))) else ((bif (decide (p1 = (256 : Int))) then (some (4294967296, 32)) else (some (0, 64))).bind (fun qx1 => un2 qx1 (fun x1 => fun x2 => ((lf_ref02_Pad K ((p0.length : Nat) : Int) p1).bind (fun qy1 => un2 qy1 (fun y1 => fun y2 => ((appO ([] : List Nat) p0).bind fun y3 => ((appO y3 y1).bind fun y4 => ((lf_ref02_constants K ).bind (fun y5 => ((lf_ref02_starts K ).bind (fun y6 => (((lf_ref02_Sum_l2 K x1 K (0 : Int) y6).bind (fun qz1 => un2 qz1 (fun z1 => fun z2 => (some z2)))).bind (fun x3 => ((lf_ref02_Sum_l3 K p1 x1 x2 y4 y5 K x3 (0 : Int)).bind (fun qz9 => un2 qz9 (fun z9 => fun z10 => ((lf_ref02_Sum_l6 K x2 z9 K ([] : List Nat) (0 : Int)).bind (fun qz13 => un2 qz13 (fun z13 => fun z14 => (some (z13, (0 : Int))))))))))))))))))))))))
theorem lf_ref02_Sum_ok (K : Nat) (p0 : (List Nat)) (p1 : Int) (vp0 : Value) (w0 : World) (sps : List Sp) (rs : List Fa) (hv_p0 : Rd (un .u8) vp0 p0 ∈ rs) {r0 : (List Nat)} {r1 : Int} (h : lf_ref02_Sum K p0 p1 = some (r0, r1)) : FnOk Tryz.prog 187 #[vp0, .int .i64 p1] w0 sps rs (fun v s q => ∃ (qr0 : Value), v = .tuple #[qr0, .int .i64 r1] ∧ Row (un .u8) 5 qr0 r0 :: sps = s ∧ rs = q) := by
  unfold lf_ref02_Sum at h
  refine fn_en (en_shape hv_p0) ?_
  rintro _ _ ⟨rfl, rfl, Ap0, cp0, rfl, -, -, -⟩
  refine fn_enter Tryz.func187 rfl Tryz.ntmps187 rfl ?_
  refine cs_seq ?_
  refine cs_seq_region [0, 1] rfl ?_
  refine c_assign rfl rfl rfl rfl (v := (.slice none 0 0)) rfl ?_
  refine c_assign rfl rfl rfl rfl (v := (.int .i64 (0 : Int))) rfl ?_
  refine can_nil ?_
  refine ps_then ?_
  refine cs_seq ?_
  refine cs_seq ?_
  refine cs_seq_region [0, 1, 2] rfl ?_
  refine c_move rfl rfl rfl rfl (v := (.slice Ap0 p0.length cp0)) rfl ?_
  refine l_len (m := p0.length) rfl rfl rfl rfl Tryz.underlying22 rfl ?_
  refine c_gtr (p := ((p0.length : Nat) : Int)) (q := (1048576 : Int)) rfl rfl rfl rfl rfl rfl ?_
  refine can_nil ?_
  refine ps_then ?_
  refine cs_condL (b := (decide (((p0.length : Nat) : Int) > (1048576 : Int)))) rfl h (fun hc1 h => ?_) (fun hc1 h => ?_)
  · refine cs_seq ?_
    refine cs_seq_region [0, 1] rfl ?_
    refine c_assign rfl rfl rfl rfl (v := (.slice none 0 0)) rfl ?_
    refine c_assign rfl rfl rfl rfl (v := (.int .i64 (2 : Int))) rfl ?_
    refine can_nil ?_
    refine ps_then ?_
    refine cs_ret ?_
    refine ps_then_ret ?_
    refine ps_en (en_nilRow (un .u8) 5) ?_
    rintro _ _ ⟨rfl, rfl⟩
    have hz0 := Option.some.inj h
    obtain ⟨rfl, hz1⟩ := prod2 hz0
    obtain rfl := hz1
    refine ps_en (en_keep (rs) (fun r hr => hr)) ?_
    rintro _ _ ⟨rfl, rfl⟩
    apply ps_end2 rfl Tryz.results187 rfl rfl
    · exact ⟨_, rfl, rfl, rfl⟩
    · exact .mk .refl .refl
  · refine cs_skip ?_
    refine ps_then ?_
    refine cs_seq ?_
    refine cs_seq_region [0, 1, 2] rfl ?_
    refine c_buildS (cs := [(.int .u64 ((0 : Nat) : Int)), (.int .u64 ((64 : Nat) : Int))]) rfl rfl rfl rfl Tryz.underlying323 Tryz.zeroValue323 (by intro w; simp [Tryz.sizeOf97]; rfl) rfl rfl ?_
    refine c_alloc (cs := [(.int .u64 ((0 : Nat) : Int)), (.int .u64 ((0 : Nat) : Int))]) rfl rfl rfl rfl Tryz.zeroValue323 rfl (fun _ => Or.inl rfl) (fun g1 => ?_)
    refine c_storeN (cs := [(.int .u64 ((0 : Nat) : Int)), (.int .u64 ((64 : Nat) : Int))]) rfl rfl rfl Tryz.sizeOf323 rfl rfl Foc.here rfl rfl (by exact Nat.le_of_ble_eq_true rfl) rfl rfl (Or.inl rfl) ?_
    refine can_nil ?_
    refine ps_then ?_
    obtain ⟨o1, hl1, h⟩ := bnd h
    refine cs_cutS [26, 27, 28] (fun L s r => ∃ (x1 : Nat) (x2 : Nat), (x1, x2) = o1 ∧ [] = L ∧ Bk g1 [(.int .u64 ((x1 : Nat) : Int)), (.int .u64 ((x2 : Nat) : Int))] 323 :: sps = s ∧ rs = r) ?_ ?_
    · refine cs_seq ?_
      refine cs_seq_region [0, 1] rfl ?_
      refine c_move rfl rfl rfl rfl (v := (.int .i64 p1)) rfl ?_
      refine l_eqlI (p := p1) (q := (256 : Int)) rfl rfl rfl rfl rfl rfl ?_
      refine can_nil ?_
      refine ps_then ?_
      refine cs_condL (b := (decide (p1 = (256 : Int)))) rfl hl1 (fun hc2 hl1 => ?_) (fun hc2 hl1 => ?_)
      · refine cs_seq_region [0, 1] rfl ?_
        refine c_buildS (cs := [(.int .u64 ((4294967296 : Nat) : Int)), (.int .u64 ((32 : Nat) : Int))]) rfl rfl rfl rfl Tryz.underlying323 Tryz.zeroValue323 (by intro w; simp [Tryz.sizeOf97]; rfl) rfl rfl ?_
        refine c_storeN (cs := [(.int .u64 ((4294967296 : Nat) : Int)), (.int .u64 ((32 : Nat) : Int))]) rfl rfl rfl Tryz.sizeOf323 rfl rfl Foc.here rfl rfl (by exact Nat.le_of_ble_eq_true rfl) rfl rfl (Or.inl rfl) ?_
        refine can_nil ?_
        refine ps_en (en_keep (rs) (fun r hr => hr)) ?_
        rintro _ _ ⟨rfl, rfl⟩
        refine ps_cutS [] trivial xA (⟨4294967296, 32, Option.some.inj hl1, rfl, rfl, rfl⟩) (.mk .refl .refl)
      · refine cs_skip ?_
        refine ps_en (en_keep (rs) (fun r hr => hr)) ?_
        rintro _ _ ⟨rfl, rfl⟩
        refine ps_cutS [] trivial xA (⟨0, 64, Option.some.inj hl1, rfl, rfl, rfl⟩) (.mk .refl .refl)
    · rintro f1 _ _ _ ⟨x1, x2, rfl, rfl, rfl, rfl⟩
      replace h := un2_ h
      refine cs_seq ?_
      refine cs_seq_region [0, 1, 2, 3, 4, 5, 6, 7, 8] rfl ?_
      refine c_move rfl rfl rfl rfl (v := (.slice Ap0 p0.length cp0)) rfl ?_
      refine l_len (m := p0.length) rfl rfl rfl rfl Tryz.underlying22 rfl ?_
      refine c_move rfl rfl rfl rfl (v := (.int .i64 p1)) rfl ?_
      obtain ⟨⟨y1, y2⟩, hy1, h⟩ := bnd h
      replace h := un2_ h
      refine c_call rfl rfl rfl rfl Tryz.call241 (lf_ref02_Pad_ok K ((p0.length : Nat) : Int) p1  w0 _ _  hy1) rfl (fun _ _ _ _ => Or.inl rfl) ?_
      rintro _ _ _ ⟨v1, rfl, rfl, rfl⟩
      refine can_en (en_rowShape (xs := y1) (.head _)) ?_
      rintro _ _ ⟨rfl, rfl, A1, c1, rfl, -, -, -⟩
      refine c_move rfl rfl rfl rfl (v := (.tuple #[(.slice A1 y1.length c1), (.int .i64 y2)])) rfl ?_
      refine c_extract rfl rfl rfl rfl rfl rfl ?_
      refine c_extract rfl rfl rfl rfl rfl rfl ?_
      refine c_assign rfl rfl rfl rfl (v := (.slice A1 y1.length c1)) rfl ?_
      refine c_assign rfl rfl rfl rfl (v := (.int .i64 y2)) rfl ?_
      refine can_nil ?_
      refine ps_then ?_
      refine cs_seq ?_
      refine cs_seq_region [0] rfl ?_
      refine c_assign rfl rfl rfl rfl (v := (.slice none 0 0)) rfl ?_
      refine can_nil ?_
      refine ps_then ?_
      refine cs_seq ?_
      refine cs_seq_region [0, 1, 2, 3, 4, 5] rfl ?_
      refine c_move rfl rfl rfl rfl (v := (.slice none 0 0)) rfl ?_
      refine c_move rfl rfl rfl rfl (v := (.slice Ap0 p0.length cp0)) rfl ?_
      refine can_en (en_nilRow (un .u8) 5) ?_
      rintro _ _ ⟨rfl, rfl⟩
      obtain ⟨y3, hy2, h⟩ := bnd h
      refine l_append (dr := (un .u8)) (xs := ([] : List Nat)) (ys := p0) rfl rfl rfl rfl sty_22 rfl rfl rfl Foc.here hv_p0 hy2 (fun _ => Or.inl rfl) (fun v2 => ?_)
      refine can_en (en_rowShape (xs := y3) (.head _)) ?_
      rintro _ _ ⟨rfl, rfl, A2, c2, rfl, -, -, -⟩
      refine c_move rfl rfl rfl rfl (v := (.slice A1 y1.length c1)) rfl ?_
      refine can_en (en_give (Rem.there Rem.here)) ?_
      rintro _ _ ⟨rfl, rfl⟩
      obtain ⟨y4, hy3, h⟩ := bnd h
      refine l_append (dr := (un .u8)) (xs := y3) (ys := y1) rfl rfl rfl rfl sty_22 rfl rfl rfl Foc.here (.head _) hy3 (fun _ => Or.inl rfl) (fun v3 => ?_)
      refine can_en (en_rowShape (xs := y4) (.head _)) ?_
      rintro _ _ ⟨rfl, rfl, A3, c3, rfl, -, -, -⟩
      refine c_assign rfl rfl rfl rfl (v := (.slice A3 y4.length c3)) rfl ?_
      refine can_nil ?_
      refine ps_then ?_
      refine cs_seq ?_
      refine cs_seq_region [0, 1] rfl ?_
      obtain ⟨y5, hy4, h⟩ := bnd h
      refine c_call rfl rfl rfl rfl Tryz.call242 (lf_ref02_constants_ok K   w0 _ _  hy4) rfl (fun _ _ _ _ => Or.inl rfl) ?_
      rintro _ _ _ ⟨v4, rfl, rfl, rfl⟩
      refine can_en (en_rowShape (xs := y5) (.head _)) ?_
      rintro _ _ ⟨rfl, rfl, A4, c4, rfl, -, -, -⟩
      refine c_assign rfl rfl rfl rfl (v := (.slice A4 y5.length c4)) rfl ?_
      refine can_nil ?_
      refine ps_then ?_
      refine cs_seq ?_
      refine cs_seq_region [0, 1] rfl ?_
      obtain ⟨y6, hy5, h⟩ := bnd h
      refine c_call rfl rfl rfl rfl Tryz.call243 (lf_ref02_starts_ok K   w0 _ _  hy5) rfl (fun _ _ _ _ => Or.inl rfl) ?_
      rintro _ _ _ ⟨v5, rfl, rfl, rfl⟩
      refine can_en (en_rowShape (xs := y6) (.head _)) ?_
      rintro _ _ ⟨rfl, rfl, A5, c5, rfl, -, -, -⟩
      refine c_assign rfl rfl rfl rfl (v := (.slice A5 y6.length c5)) rfl ?_
      refine can_nil ?_
      refine ps_then ?_
      obtain ⟨o2, hl2, h⟩ := bnd h
      refine cs_en (en_give (Rem.there (Rem.there Rem.here))) ?_
      rintro _ _ ⟨rfl, rfl⟩
      refine cs_cutS [12, 43, 44, 45, 46, 47, 48, 49, 50, 51, 52, 53, 54, 55, 56, 57, 58, 59] (fun L s r => ∃ (x3 : (List Nat)), x3 = o2 ∧ [] = L ∧ Row (un .u64) 97 (.slice A5 y6.length c5) x3 :: Row (un .u64) 97 (.slice A4 y5.length c4) y5 :: Bk g1 [(.int .u64 ((x1 : Nat) : Int)), (.int .u64 ((x2 : Nat) : Int))] 323 :: sps = s ∧ Rd (un .u8) (.slice A3 y4.length c3) y4 :: Rd (un .u8) (.slice A1 y1.length c1) y1 :: rs = r) ?_ ?_
      · refine cs_seq ?_
        refine cs_seq_region [0] rfl ?_
        refine c_assign rfl rfl rfl rfl (v := (.int .i64 (0 : Int))) rfl ?_
        refine can_nil ?_
        refine ps_then ?_
        refine cs_block ?_
        obtain ⟨o3, hl3, hl2⟩ := bnd hl2
        refine cs_loopS [12, 43, 44, 45, 46, 47, 48, 49, 50, 51, 52, 53, 54, 55, 56, 57, 58, 59] (fun m L s r => ∃ (x4 : Int) (x5 : (List Nat)), lf_ref02_Sum_l2 K x1 m x4 x5 = some o3 ∧ [(12, (.int .i64 x4))] = L ∧ Row (un .u64) 97 (.slice A5 y6.length c5) x5 :: Row (un .u64) 97 (.slice A4 y5.length c4) y5 :: Bk g1 [(.int .u64 ((x1 : Nat) : Int)), (.int .u64 ((x2 : Nat) : Int))] 323 :: sps = s ∧ Rd (un .u8) (.slice A3 y4.length c3) y4 :: Rd (un .u8) (.slice A1 y1.length c1) y1 :: rs = r) [(12, (.int .i64 (0 : Int)))] (⟨rfl, trivial⟩) (⟨(0 : Int), y6, hl3, rfl, rfl, rfl⟩) ?_
        rintro k1 f2 _ _ _ ⟨x4, x5, hl3, rfl, rfl, rfl⟩
        rcases k1 with _ | k1
        · exact absurd hl3 (by rw [lf_ref02_Sum_l2.eq_1]; exact nofun)
        rw [lf_ref02_Sum_l2.eq_2] at hl3
        refine cs_seq ?_
        refine cs_seq ?_
        refine cs_seq_region [0, 1, 2, 3, 4, 5, 6] rfl ?_
        refine c_move rfl rfl rfl rfl (v := (.int .i64 x4)) rfl ?_
        refine c_lss (p := x4) (q := (8 : Int)) rfl rfl rfl rfl rfl rfl ?_
        refine c_move rfl rfl rfl rfl (v := (.bool (decide (x4 < (8 : Int))))) rfl ?_
        refine can_splitL 45 (b := (decide (x4 < (8 : Int)))) rfl hl3 (fun hg1 hl3 => ?_) (fun hg1 hl3 => ?_)
        · refine c_fieldAddr rfl rfl rfl rfl Tryz.underlying323 rfl Tryz.sizeOf97 rfl rfl ?_
          refine c_load1 (v := (.int .u64 ((x1 : Nat) : Int))) rfl rfl rfl Tryz.isAgg97 rfl (ldS rfl rfl (.tail _ (.tail _ (.head _))) (sub1 rfl)) ?_
          refine l_neq (p := x1) (q := 0) rfl rfl rfl rfl rfl rfl ?_
          refine c_pick rfl rfl rfl rfl rfl (by conv => lhs; whnf) ?_
          refine can_nil ?_
          refine ps_then ?_
          refine cs_condL (b := (decide (x1 ≠ 0))) rfl hl3 (fun hc3 hl3 => ?_) (fun hc3 hl3 => ?_)
          · refine cs_skip ?_
            refine ps_then ?_
            refine cs_seq ?_
            refine cs_block ?_
            refine cs_seq_region [0, 1, 2, 3, 4, 5, 6, 7, 8] rfl ?_
            refine c_move rfl rfl rfl rfl (v := (.slice A5 y6.length c5)) rfl ?_
            refine c_move rfl rfl rfl rfl (v := (.int .i64 x4)) rfl ?_
            refine c_move rfl rfl rfl rfl (v := (.slice A5 y6.length c5)) rfl ?_
            refine c_move rfl rfl rfl rfl (v := (.int .i64 x4)) rfl ?_
            obtain ⟨y7, hy6, hl3⟩ := bnd hl3
            refine can_en (en_rowPtr (v := .bool true) (.head _) (by have := getO_lt hy6; omega)) ?_
            rintro _ _ ⟨rfl, rfl, g2, rfl⟩
            refine can_en (en_rowLen (.head _)) ?_
            rintro _ _ ⟨rfl, rfl, hln1⟩
            refine c_indexAddrS (p := x4) rfl rfl rfl rfl Tryz.underlying181 Tryz.sizeOf97 rfl rfl (by have := getO_lt hy6; omega) ?_
            refine c_load1 rfl rfl rfl Tryz.isAgg97 rfl (ldW rfl rfl (plain_un _) (.head _) hy6) ?_
            refine l_quo (p := y7) (q := 4294967296) rfl rfl rfl rfl rfl rfl rfl rfl ?_
            obtain ⟨y8, hy7, hl3⟩ := bnd hl3
            refine can_en (en_rowLen (.head _)) ?_
            rintro _ _ ⟨rfl, rfl, hln2⟩
            refine c_indexAddrS (p := x4) rfl rfl rfl rfl Tryz.underlying181 Tryz.sizeOf97 rfl rfl (by have := getO_lt hy7; omega) ?_
            obtain ⟨y9, hy8, hl3⟩ := bnd hl3
            refine l_store (p := x4) (cs := [(.int .u64 (((y7 / 4294967296 % 2 ^ 64) : Nat) : Int))]) (zx := (y7 / 4294967296 % 2 ^ 64)) rfl rfl rfl Tryz.sizeOf97 rfl (by first | rfl | exact Nat.zero_add _ | simp) rfl Foc.here (fun hh hr => ⟨rfl, trivial⟩) hy8 (Or.inl rfl) ?_
            refine can_nil ?_
            refine ps_block_normal ?_
            refine ps_then ?_
            refine cs_seq_region [0, 1, 2] rfl ?_
            refine c_move rfl rfl rfl rfl (v := (.int .i64 x4)) rfl ?_
            refine c_add (p := x4) (q := (1 : Int)) rfl rfl rfl rfl rfl rfl ?_
            refine c_assign rfl rfl rfl rfl (v := (.int .i64 (IntKind.wrap .i64 (x4 + (1 : Int))))) rfl ?_
            refine can_nil ?_
            refine ps_en (en_keep (Rd (un .u8) (.slice A3 y4.length c3) y4 :: Rd (un .u8) (.slice A1 y1.length c1) y1 :: rs) (List.forall_mem_cons.2 ⟨(.head _), List.forall_mem_cons.2 ⟨(.tail _ (.head _)), fun r hr => (.tail _ (.tail _ hr))⟩⟩)) ?_
            rintro _ _ ⟨rfl, rfl⟩
            refine ps_roundS [(12, (.int .i64 (IntKind.wrap .i64 (x4 + (1 : Int)))))] ⟨rfl, trivial⟩ xA k1 (Nat.lt_succ_self _) (⟨(IntKind.wrap .i64 (x4 + (1 : Int))), y9, hl3, rfl, rfl, rfl⟩) (.mk .refl .refl)
          · refine cs_exit ?_
            refine ps_then_exit ?_
            refine ps_then_exit ?_
            obtain rfl := Option.some.inj hl3
            replace hl2 := un2_ hl2
            obtain ⟨z1, rfl⟩ : ∃ z, z = x4 := ⟨_, rfl⟩
            obtain ⟨z2, rfl⟩ : ∃ z, z = x5 := ⟨_, rfl⟩
            refine ps_block_here ?_
            refine ps_en (en_keep (Rd (un .u8) (.slice A3 y4.length c3) y4 :: Rd (un .u8) (.slice A1 y1.length c1) y1 :: rs) (List.forall_mem_cons.2 ⟨(.head _), List.forall_mem_cons.2 ⟨(.tail _ (.head _)), fun r hr => (.tail _ (.tail _ hr))⟩⟩)) ?_
            rintro _ _ ⟨rfl, rfl⟩
            refine ps_cutS [] trivial xA (⟨z2, Option.some.inj hl2, rfl, rfl, rfl⟩) (.mk .refl .refl)
        · refine can_skip rfl rfl rfl (Or.inl rfl) ?_
          refine can_skip rfl rfl rfl (Or.inl rfl) ?_
          refine can_skip rfl rfl rfl (Or.inl rfl) ?_
          refine c_pick rfl rfl rfl rfl rfl (by conv => lhs; whnf) ?_
          refine can_nil ?_
          refine ps_then ?_
          refine cs_false rfl ?_
          refine cs_exit ?_
          refine ps_then_exit ?_
          refine ps_then_exit ?_
          obtain rfl := Option.some.inj hl3
          replace hl2 := un2_ hl2
          obtain ⟨z1, rfl⟩ : ∃ z, z = x4 := ⟨_, rfl⟩
          obtain ⟨z2, rfl⟩ : ∃ z, z = x5 := ⟨_, rfl⟩
          refine ps_block_here ?_
          refine ps_en (en_keep (Rd (un .u8) (.slice A3 y4.length c3) y4 :: Rd (un .u8) (.slice A1 y1.length c1) y1 :: rs) (List.forall_mem_cons.2 ⟨(.head _), List.forall_mem_cons.2 ⟨(.tail _ (.head _)), fun r hr => (.tail _ (.tail _ hr))⟩⟩)) ?_
          rintro _ _ ⟨rfl, rfl⟩
          refine ps_cutS [] trivial xA (⟨z2, Option.some.inj hl2, rfl, rfl, rfl⟩) (.mk .refl .refl)
      · rintro f3 _ _ _ ⟨x3, rfl, rfl, rfl, rfl⟩
        refine cs_seq ?_
        refine cs_seq ?_
        refine cs_seq_region [0] rfl ?_
        refine c_assign rfl rfl rfl rfl (v := (.int .i64 (0 : Int))) rfl ?_
        refine can_nil ?_
        refine ps_then ?_
        refine cs_block ?_
        obtain ⟨o5, hl4, h⟩ := bnd h
        refine cs_loopS [11, 13, 14, 15, 16, 17, 18, 60, 61, 62, 63, 64, 65, 66, 67, 68, 69, 70, 71, 72, 73, 74, 75, 76, 77, 78, 79, 80, 81, 82, 83, 84, 85, 86, 87, 88, 89, 90, 91, 92, 93, 94, 95, 96, 97, 98, 99, 100, 101, 102, 103, 104, 105, 106, 107, 108, 109, 110, 111, 112, 113] (fun m L s r => ∃ (x6 : (List Nat)) (x7 : Int) (A6 : Option Addr) (m1 : Nat) (c6 : Nat), lf_ref02_Sum_l3 K p1 x1 x2 y4 y5 m x6 x7 = some o5 ∧ [(11, (.slice A6 m1 c6)), (13, (.int .i64 x7))] = L ∧ Row (un .u64) 97 (.slice A6 m1 c6) x6 :: Row (un .u64) 97 (.slice A4 y5.length c4) y5 :: Bk g1 [(.int .u64 ((x1 : Nat) : Int)), (.int .u64 ((x2 : Nat) : Int))] 323 :: sps = s ∧ Rd (un .u8) (.slice A3 y4.length c3) y4 :: Rd (un .u8) (.slice A1 y1.length c1) y1 :: rs = r) [(11, (.slice A5 y6.length c5)), (13, (.int .i64 (0 : Int)))] (⟨rfl, rfl, trivial⟩) (⟨x3, (0 : Int), _, _, _, hl4, rfl, rfl, rfl⟩) ?_
        rintro k2 f4 _ _ _ ⟨x6, x7, A6, m1, c6, hl4, rfl, rfl, rfl⟩
        rcases k2 with _ | k2
        · exact absurd hl4 (by rw [lf_ref02_Sum_l3.eq_1]; exact nofun)
        rw [lf_ref02_Sum_l3.eq_2] at hl4
        refine cs_en (en_rowLen (.head _)) ?_
        rintro _ _ ⟨rfl, rfl, rfl⟩
        refine cs_seq ?_
        refine cs_seq ?_
        refine cs_seq_region [0, 1, 2, 3] rfl ?_
        refine c_move rfl rfl rfl rfl (v := (.int .i64 x7)) rfl ?_
        refine c_move rfl rfl rfl rfl (v := (.slice A3 y4.length c3)) rfl ?_
        refine l_len (m := y4.length) rfl rfl rfl rfl Tryz.underlying22 rfl ?_
        refine c_lss (p := x7) (q := ((y4.length : Nat) : Int)) rfl rfl rfl rfl rfl rfl ?_
        refine can_nil ?_
        refine ps_then ?_
        refine cs_condL (b := (decide (x7 < ((y4.length : Nat) : Int)))) rfl hl4 (fun hc4 hl4 => ?_) (fun hc4 hl4 => ?_)
        · refine cs_skip ?_
          refine ps_then ?_
          refine cs_seq ?_
          refine cs_block ?_
          refine cs_seq ?_
          refine cs_draw_region_at ([Bk g1 [(.int .u64 ((x1 : Nat) : Int)), (.int .u64 ((x2 : Nat) : Int))] 323]) [1, 0, 0, 0, 0, 0, 0, 0, 2, 0] [false, false, false, false, false, false, false, false, false, false] [0, 1, 2, 3, 4, 5, 6, 7, 8, 9] (by kernel_rfl) (by kernel_rfl) (by kernel_rfl) (by kernel_rfl) (by repeat (first | with_reducible refine qok_then ?_ | with_reducible refine qok_block ?_ | exact qok_body | exact qok_bodyN)) ?_
          refine c_loadN (cs := [(.int .u64 ((x1 : Nat) : Int)), (.int .u64 ((x2 : Nat) : Int))]) rfl rfl rfl Tryz.isAgg323 Tryz.sizeOf323 rfl (ldD rfl rfl xE xM (subN (m := 2) rfl)) rfl ?_
          refine can_forget rfl ?_
          refine c_move rfl rfl rfl rfl (v := (.slice A3 y4.length c3)) rfl ?_
          refine c_move rfl rfl rfl rfl (v := (.int .i64 x7)) rfl ?_
          refine c_move rfl rfl rfl rfl (v := (.int .i64 x7)) rfl ?_
          refine c_move rfl rfl rfl rfl (v := (.int .i64 p1)) rfl ?_
          refine c_quo (p := p1) (q := (4 : Int)) rfl rfl rfl rfl rfl rfl (by decide) ?_
          refine c_add (p := x7) (q := (IntKind.wrap .i64 (p1.tdiv (4 : Int)))) rfl rfl rfl rfl rfl rfl ?_
          obtain ⟨y10, hy9, hl4⟩ := bnd hl4
          refine l_slice (k := .i64) (k' := .i64) (xs := y4) (p := x7) (q := (IntKind.wrap .i64 (x7 + (IntKind.wrap .i64 (p1.tdiv (4 : Int)))))) rfl rfl rfl rfl Tryz.underlying22 Tryz.sizeOf5 rfl (.head _) rfl rfl (.inr rfl) (.inr rfl) hy9 (fun A7 c7 => ?_)
          obtain ⟨y11, hy10, hl4⟩ := bnd hl4
          refine c_call rfl rfl rfl rfl Tryz.call244 (lf_ref02_Words_expand_ok K x1 x2 y10 (.slice A7 y10.length c7) w0 _ _ (.head _) hy10) rfl (fun _ _ _ _ => Or.inl rfl) ?_
          rintro _ _ _ ⟨v6, rfl, rfl, rfl⟩
          refine can_en (en_rowShape (xs := y11) (.head _)) ?_
          rintro _ _ ⟨rfl, rfl, A8, c8, rfl, -, -, -⟩
          refine c_assign rfl rfl rfl rfl (v := (.slice A8 y11.length c8)) rfl ?_
          refine can_nil ?_
          refine ps_then ?_
          refine cs_seq ?_
          refine cs_seq_region [0, 1] rfl ?_
          refine c_move rfl rfl rfl rfl (v := (.slice A6 x6.length c6)) rfl ?_
          refine c_assign rfl rfl rfl rfl (v := (.slice A6 x6.length c6)) rfl ?_
          refine can_nil ?_
          refine ps_then ?_
          refine cs_seq ?_
          refine cs_seq ?_
          refine cs_seq_region [0] rfl ?_
          refine c_assign rfl rfl rfl rfl (v := (.int .i64 (0 : Int))) rfl ?_
          refine can_nil ?_
          refine ps_then ?_
          refine cs_block ?_
          refine cs_en (en_give (Rem.there Rem.here)) ?_
          rintro _ _ ⟨rfl, rfl⟩
          refine cs_en (en_keep (Rd (un .u64) (.slice A6 x6.length c6) x6 :: Rd (un .u64) (.slice A6 x6.length c6) x6 :: Rd (un .u8) (.slice A7 y10.length c7) y10 :: Rd (un .u8) (.slice A3 y4.length c3) y4 :: Rd (un .u8) (.slice A1 y1.length c1) y1 :: rs) (List.forall_mem_cons.2 ⟨(.head _), fun r hr => hr⟩)) ?_
          rintro _ _ ⟨rfl, rfl⟩
          obtain ⟨o6, hl5, hl4⟩ := bnd hl4
          refine cs_loopS [15, 16, 78, 79, 80, 81, 82, 83, 84, 85, 86, 87, 88, 89, 90, 91, 92, 93, 94] (fun m L s r => ∃ (x8 : (List Nat)) (x9 : Int) (A9 : Option Addr) (m2 : Nat) (c9 : Nat), lf_ref02_Sum_l4 K x1 x2 y5 y11 m x8 x9 = some o6 ∧ [(15, (.slice A9 m2 c9)), (16, (.int .i64 x9))] = L ∧ Row (un .u64) 97 (.slice A8 y11.length c8) y11 :: Row (un .u64) 97 (.slice A4 y5.length c4) y5 :: Bk g1 [(.int .u64 ((x1 : Nat) : Int)), (.int .u64 ((x2 : Nat) : Int))] 323 :: sps = s ∧ Rd (un .u64) (.slice A9 m2 c9) x8 :: Rd (un .u64) (.slice A6 x6.length c6) x6 :: Rd (un .u8) (.slice A7 y10.length c7) y10 :: Rd (un .u8) (.slice A3 y4.length c3) y4 :: Rd (un .u8) (.slice A1 y1.length c1) y1 :: rs = r) [(15, (.slice A6 x6.length c6)), (16, (.int .i64 (0 : Int)))] (⟨rfl, rfl, trivial⟩) (⟨x6, (0 : Int), _, _, _, hl5, rfl, rfl, rfl⟩) ?_
          rintro k3 f5 _ _ _ ⟨x8, x9, A9, m2, c9, hl5, rfl, rfl, rfl⟩
          rcases k3 with _ | k3
          · exact absurd hl5 (by rw [lf_ref02_Sum_l4.eq_1]; exact nofun)
          rw [lf_ref02_Sum_l4.eq_2] at hl5
          refine cs_en (en_len (.head _)) ?_
          rintro _ _ ⟨rfl, rfl, rfl⟩
          refine cs_seq ?_
          refine cs_seq ?_
          refine cs_seq_region [0, 1, 2, 3] rfl ?_
          refine c_move rfl rfl rfl rfl (v := (.int .i64 x9)) rfl ?_
          refine c_move rfl rfl rfl rfl (v := (.slice A8 y11.length c8)) rfl ?_
          refine l_len (m := y11.length) rfl rfl rfl rfl Tryz.underlying181 rfl ?_
          refine c_lss (p := x9) (q := ((y11.length : Nat) : Int)) rfl rfl rfl rfl rfl rfl ?_
          refine can_nil ?_
          refine ps_then ?_
          refine cs_condL (b := (decide (x9 < ((y11.length : Nat) : Int)))) rfl hl5 (fun hc5 hl5 => ?_) (fun hc5 hl5 => ?_)
          · refine cs_skip ?_
            refine ps_then ?_
            refine cs_seq ?_
            refine cs_block ?_
            refine cs_draw_region_at ([Row (un .u64) 97 (.slice A8 y11.length c8) y11, Row (un .u64) 97 (.slice A4 y5.length c4) y5, Bk g1 [(.int .u64 ((x1 : Nat) : Int)), (.int .u64 ((x2 : Nat) : Int))] 323]) [1, 0, 0, 0, 0, 1, 0, 0, 0, 1, 2, 0] [false, false, false, false, false, false, false, false, false, false, false, false] [0, 1, 2, 3, 4, 5, 6, 7, 8, 9, 10, 11] (by kernel_rfl) (by kernel_rfl) (by kernel_rfl) (by kernel_rfl) (by repeat (first | with_reducible refine qok_then ?_ | with_reducible refine qok_block ?_ | exact qok_body | exact qok_bodyN)) ?_
            refine c_loadN (cs := [(.int .u64 ((x1 : Nat) : Int)), (.int .u64 ((x2 : Nat) : Int))]) rfl rfl rfl Tryz.isAgg323 Tryz.sizeOf323 rfl (ldD rfl rfl xE xM (subN (m := 2) rfl)) rfl ?_
            refine c_move rfl rfl rfl rfl (v := (.slice A9 x8.length c9)) rfl ?_
            refine c_move rfl rfl rfl rfl (v := (.slice A4 y5.length c4)) rfl ?_
            refine c_move rfl rfl rfl rfl (v := (.int .i64 x9)) rfl ?_
            obtain ⟨y12, hy11, hl5⟩ := bnd hl5
            refine can_en (en_rowPtr (v := .bool true) (.tail _ (.head _)) (by have := getO_lt hy11; omega)) ?_
            rintro _ _ ⟨rfl, rfl, g3, rfl⟩
            refine c_indexAddrS (p := x9) rfl rfl rfl rfl Tryz.underlying181 Tryz.sizeOf97 rfl rfl (by have := getO_lt hy11; omega) ?_
            refine c_load1 rfl rfl rfl Tryz.isAgg97 rfl (ldWD rfl rfl xE (plain_un _) xM hy11) ?_
            refine c_move rfl rfl rfl rfl (v := (.slice A8 y11.length c8)) rfl ?_
            refine c_move rfl rfl rfl rfl (v := (.int .i64 x9)) rfl ?_
            obtain ⟨y13, hy12, hl5⟩ := bnd hl5
            refine can_en (en_rowPtr (v := .bool true) (.head _) (by have := getO_lt hy12; omega)) ?_
            rintro _ _ ⟨rfl, rfl, g4, rfl⟩
            refine c_indexAddrS (p := x9) rfl rfl rfl rfl Tryz.underlying181 Tryz.sizeOf97 rfl rfl (by have := getO_lt hy12; omega) ?_
            refine c_load1 rfl rfl rfl Tryz.isAgg97 rfl (ldWD rfl rfl xE (plain_un _) xM hy12) ?_
            refine can_forget rfl ?_
            obtain ⟨y14, hy13, hl5⟩ := bnd hl5
            refine c_call rfl rfl rfl rfl Tryz.call245 (lf_ref02_Words_round_ok K x1 x2 x8 y12 y13 (.slice A9 x8.length c9) w0 _ _ (.head _) hy13) rfl (fun _ _ _ _ => Or.inl rfl) ?_
            rintro _ _ _ ⟨v7, rfl, rfl, rfl⟩
            refine can_en (en_rowShape (xs := y14) (.head _)) ?_
            rintro _ _ ⟨rfl, rfl, A10, c10, rfl, -, -, -⟩
            refine c_assign rfl rfl rfl rfl (v := (.slice A10 y14.length c10)) rfl ?_
            refine can_nil ?_
            refine ps_block_normal ?_
            refine ps_then ?_
            refine cs_seq_region [0, 1, 2] rfl ?_
            refine c_move rfl rfl rfl rfl (v := (.int .i64 x9)) rfl ?_
            refine c_add (p := x9) (q := (1 : Int)) rfl rfl rfl rfl rfl rfl ?_
            refine c_assign rfl rfl rfl rfl (v := (.int .i64 (IntKind.wrap .i64 (x9 + (1 : Int))))) rfl ?_
            refine can_nil ?_
            refine ps_en (en_give Rem.here) ?_
            rintro _ _ ⟨rfl, rfl⟩
            refine ps_en (en_keep (Rd (un .u64) (.slice A10 y14.length c10) y14 :: Rd (un .u64) (.slice A6 x6.length c6) x6 :: Rd (un .u8) (.slice A7 y10.length c7) y10 :: Rd (un .u8) (.slice A3 y4.length c3) y4 :: Rd (un .u8) (.slice A1 y1.length c1) y1 :: rs) (List.forall_mem_cons.2 ⟨(.head _), List.forall_mem_cons.2 ⟨(.tail _ (.tail _ (.head _))), List.forall_mem_cons.2 ⟨(.tail _ (.tail _ (.tail _ (.head _)))), List.forall_mem_cons.2 ⟨(.tail _ (.tail _ (.tail _ (.tail _ (.head _))))), List.forall_mem_cons.2 ⟨(.tail _ (.tail _ (.tail _ (.tail _ (.tail _ (.head _)))))), fun r hr => (.tail _ (.tail _ (.tail _ (.tail _ (.tail _ (.tail _ hr))))))⟩⟩⟩⟩⟩)) ?_
            rintro _ _ ⟨rfl, rfl⟩
            refine ps_roundS [(15, (.slice A10 y14.length c10)), (16, (.int .i64 (IntKind.wrap .i64 (x9 + (1 : Int)))))] ⟨rfl, rfl, trivial⟩ xA k3 (Nat.lt_succ_self _) (⟨y14, (IntKind.wrap .i64 (x9 + (1 : Int))), _, _, _, hl5, rfl, rfl, rfl⟩) (.mk .refl .refl)
          · refine cs_exit ?_
            refine ps_then_exit ?_
            refine ps_then_exit ?_
            obtain rfl := Option.some.inj hl5
            replace hl4 := un2_ hl4
            obtain ⟨z5, rfl⟩ : ∃ z, z = x8 := ⟨_, rfl⟩
            obtain ⟨z6, rfl⟩ : ∃ z, z = x9 := ⟨_, rfl⟩
            refine ps_block_here ?_
            refine ps_then ?_
            refine cs_seq ?_
            refine cs_seq_region [0] rfl ?_
            refine c_assign rfl rfl rfl rfl (v := (.slice none 0 0)) rfl ?_
            refine can_nil ?_
            refine ps_then ?_
            refine cs_seq ?_
            refine cs_seq ?_
            refine cs_seq_region [0] rfl ?_
            refine c_assign rfl rfl rfl rfl (v := (.int .i64 (0 : Int))) rfl ?_
            refine can_nil ?_
            refine ps_then ?_
            refine cs_block ?_
            refine cs_en (en_nilRow (un .u64) 97) ?_
            rintro _ _ ⟨rfl, rfl⟩
            obtain ⟨o9, hl6, hl4⟩ := bnd hl4
            refine cs_loopS [17, 18, 95, 96, 97, 98, 99, 100, 101, 102, 103, 104, 105, 106, 107, 108, 109, 110, 111, 112] (fun m L s r => ∃ (x10 : (List Nat)) (x11 : Int) (A11 : Option Addr) (m3 : Nat) (c11 : Nat), lf_ref02_Sum_l5 K x1 x2 x6 z5 m x10 x11 = some o9 ∧ [(17, (.slice A11 m3 c11)), (18, (.int .i64 x11))] = L ∧ Row (un .u64) 97 (.slice A11 m3 c11) x10 :: Row (un .u64) 97 (.slice A8 y11.length c8) y11 :: Row (un .u64) 97 (.slice A4 y5.length c4) y5 :: Bk g1 [(.int .u64 ((x1 : Nat) : Int)), (.int .u64 ((x2 : Nat) : Int))] 323 :: sps = s ∧ Rd (un .u64) (.slice A9 z5.length c9) z5 :: Rd (un .u64) (.slice A6 x6.length c6) x6 :: Rd (un .u8) (.slice A7 y10.length c7) y10 :: Rd (un .u8) (.slice A3 y4.length c3) y4 :: Rd (un .u8) (.slice A1 y1.length c1) y1 :: rs = r) [(17, (.slice none 0 0)), (18, (.int .i64 (0 : Int)))] (⟨rfl, rfl, trivial⟩) (⟨([] : List Nat), (0 : Int), _, _, _, hl6, rfl, rfl, rfl⟩) ?_
            rintro k4 f6 _ _ _ ⟨x10, x11, A11, m3, c11, hl6, rfl, rfl, rfl⟩
            rcases k4 with _ | k4
            · exact absurd hl6 (by rw [lf_ref02_Sum_l5.eq_1]; exact nofun)
            rw [lf_ref02_Sum_l5.eq_2] at hl6
            refine cs_en (en_rowLen (.head _)) ?_
            rintro _ _ ⟨rfl, rfl, rfl⟩
            refine cs_seq ?_
            refine cs_seq ?_
            refine cs_seq_region [0, 1] rfl ?_
            refine c_move rfl rfl rfl rfl (v := (.int .i64 x11)) rfl ?_
            refine c_lss (p := x11) (q := (8 : Int)) rfl rfl rfl rfl rfl rfl ?_
            refine can_nil ?_
            refine ps_then ?_
            refine cs_condL (b := (decide (x11 < (8 : Int)))) rfl hl6 (fun hc6 hl6 => ?_) (fun hc6 hl6 => ?_)
            · refine cs_skip ?_
              refine ps_then ?_
              refine cs_seq ?_
              refine cs_block ?_
              refine cs_draw_region_at ([Bk g1 [(.int .u64 ((x1 : Nat) : Int)), (.int .u64 ((x2 : Nat) : Int))] 323]) [0, 1, 0, 0, 0, 1, 0, 0, 0, 1, 0, 2, 2, 2, 0] [false, false, false, false, false, false, false, false, false, false, false, true, true, true, false] [0, 1, 2, 3, 4, 5, 6, 7, 8, 9, 10, 11, 12, 13, 14] (by kernel_rfl) (by kernel_rfl) (by kernel_rfl) (by kernel_rfl) (by repeat (first | with_reducible refine qok_then ?_ | with_reducible refine qok_block ?_ | exact qok_body | exact qok_bodyN)) ?_
              refine c_move rfl rfl rfl rfl (v := (.slice A11 x10.length c11)) rfl ?_
              refine c_loadN (cs := [(.int .u64 ((x1 : Nat) : Int)), (.int .u64 ((x2 : Nat) : Int))]) rfl rfl rfl Tryz.isAgg323 Tryz.sizeOf323 rfl (ldD rfl rfl xE xM (subN (m := 2) rfl)) rfl ?_
              refine c_move rfl rfl rfl rfl (v := (.slice A6 x6.length c6)) rfl ?_
              refine c_move rfl rfl rfl rfl (v := (.int .i64 x11)) rfl ?_
              obtain ⟨y15, hy14, hl6⟩ := bnd hl6
              refine can_en (en_ptr (.tail _ (.head _)) (by have := getO_lt hy14; omega)) ?_
              rintro _ _ ⟨rfl, rfl, g5, o10, rfl⟩
              refine c_indexAddrS (p := x11) rfl rfl rfl rfl Tryz.underlying181 Tryz.sizeOf97 rfl rfl (by have := getO_lt hy14; omega) ?_
              refine c_load1 rfl rfl rfl Tryz.isAgg97 rfl (ldRD rfl rfl xE (plain_un _) xM hy14) ?_
              refine c_move rfl rfl rfl rfl (v := (.slice A9 z5.length c9)) rfl ?_
              refine c_move rfl rfl rfl rfl (v := (.int .i64 x11)) rfl ?_
              obtain ⟨y16, hy15, hl6⟩ := bnd hl6
              refine can_en (en_ptr (.head _) (by have := getO_lt hy15; omega)) ?_
              rintro _ _ ⟨rfl, rfl, g6, o11, rfl⟩
              refine c_indexAddrS (p := x11) rfl rfl rfl rfl Tryz.underlying181 Tryz.sizeOf97 rfl rfl (by have := getO_lt hy15; omega) ?_
              refine c_load1 rfl rfl rfl Tryz.isAgg97 rfl (ldRD rfl rfl xE (plain_un _) xM hy15) ?_
              refine n_add (p := y15) (q := y16) rfl rfl rfl rfl rfl rfl rfl ?_
              obtain ⟨y17, hy16, hl6⟩ := bnd hl6
              refine c_call rfl rfl rfl rfl Tryz.call246 (lf_ref02_Words_cut_ok K x1 x2 ((y15 + y16) % 2 ^ 64)  w0 _ _  hy16) rfl (by rintro v s r ⟨rfl, rfl, rfl⟩; exact Or.inr xE) ?_
              rintro _ _ _ ⟨rfl, rfl, rfl⟩
              refine c_lit (cs := [(.int .u64 ((y17 : Nat) : Int))]) rfl rfl rfl rfl Tryz.underlying181 Tryz.sizeOf97 Tryz.zeroValue97 rfl rfl rfl rfl rfl (fun _ => Or.inr xE) (fun g7 => ?_)
              obtain ⟨y18, hy17, hl6⟩ := bnd hl6
              refine l_append1 (dr := (un .u64)) (xs := x10) (ys := [y17]) rfl rfl rfl rfl sty_181 rfl rfl rfl Rem.here Foc.here rfl (fun hh hr => un_reps _) hy17 (fun _ => Or.inr xE) (fun v8 => ?_)
              refine can_en (en_rowShape (xs := y18) (.head _)) ?_
              rintro _ _ ⟨rfl, rfl, A12, c12, rfl, -, -, -⟩
              refine can_forget rfl ?_
              refine c_assign rfl rfl rfl rfl (v := (.slice A12 y18.length c12)) rfl ?_
              refine can_nil ?_
              refine ps_block_normal ?_
              refine ps_then ?_
              refine cs_seq_region [0, 1, 2] rfl ?_
              refine c_move rfl rfl rfl rfl (v := (.int .i64 x11)) rfl ?_
              refine c_add (p := x11) (q := (1 : Int)) rfl rfl rfl rfl rfl rfl ?_
              refine c_assign rfl rfl rfl rfl (v := (.int .i64 (IntKind.wrap .i64 (x11 + (1 : Int))))) rfl ?_
              refine can_nil ?_
              refine ps_en (en_keep (Rd (un .u64) (.slice (some ⟨g6, o11, none⟩) z5.length c9) z5 :: Rd (un .u64) (.slice (some ⟨g5, o10, none⟩) x6.length c6) x6 :: Rd (un .u8) (.slice A7 y10.length c7) y10 :: Rd (un .u8) (.slice A3 y4.length c3) y4 :: Rd (un .u8) (.slice A1 y1.length c1) y1 :: rs) (List.forall_mem_cons.2 ⟨(.head _), List.forall_mem_cons.2 ⟨(.tail _ (.head _)), List.forall_mem_cons.2 ⟨(.tail _ (.tail _ (.head _))), List.forall_mem_cons.2 ⟨(.tail _ (.tail _ (.tail _ (.head _)))), List.forall_mem_cons.2 ⟨(.tail _ (.tail _ (.tail _ (.tail _ (.head _))))), fun r hr => (.tail _ (.tail _ (.tail _ (.tail _ (.tail _ hr)))))⟩⟩⟩⟩⟩)) ?_
              rintro _ _ ⟨rfl, rfl⟩
              refine ps_roundS [(17, (.slice A12 y18.length c12)), (18, (.int .i64 (IntKind.wrap .i64 (x11 + (1 : Int)))))] ⟨rfl, rfl, trivial⟩ xA k4 (Nat.lt_succ_self _) (⟨y18, (IntKind.wrap .i64 (x11 + (1 : Int))), _, _, _, hl6, rfl, rfl, rfl⟩) (.mk .refl .refl)
            · refine cs_exit ?_
              refine ps_then_exit ?_
              refine ps_then_exit ?_
              obtain rfl := Option.some.inj hl6
              replace hl4 := un2_ hl4
              obtain ⟨z7, rfl⟩ : ∃ z, z = x10 := ⟨_, rfl⟩
              obtain ⟨z8, rfl⟩ : ∃ z, z = x11 := ⟨_, rfl⟩
              refine ps_block_here ?_
              refine ps_then ?_
              refine cs_seq_region [0, 1] rfl ?_
              refine c_move rfl rfl rfl rfl (v := (.slice A11 z7.length c11)) rfl ?_
              refine c_assign rfl rfl rfl rfl (v := (.slice A11 z7.length c11)) rfl ?_
              refine can_nil ?_
              refine ps_block_normal ?_
              refine ps_then ?_
              refine cs_seq_region [0, 1, 2, 3, 4] rfl ?_
              refine c_move rfl rfl rfl rfl (v := (.int .i64 x7)) rfl ?_
              refine c_move rfl rfl rfl rfl (v := (.int .i64 p1)) rfl ?_
              refine c_quo (p := p1) (q := (4 : Int)) rfl rfl rfl rfl rfl rfl (by decide) ?_
              refine c_add (p := x7) (q := (IntKind.wrap .i64 (p1.tdiv (4 : Int)))) rfl rfl rfl rfl rfl rfl ?_
              refine c_assign rfl rfl rfl rfl (v := (.int .i64 (IntKind.wrap .i64 (x7 + (IntKind.wrap .i64 (p1.tdiv (4 : Int))))))) rfl ?_
              obtain ⟨y19, hy18, hl4⟩ := let_ hl4
              refine can_is 13 (.int .i64 y19) (congrArg (fun z : Int => Value.int .i64 z) hy18) ?_
              refine can_nil ?_
              refine ps_en (en_arr (sps' := Row (un .u64) 97 (.slice A11 z7.length c11) z7 :: Row (un .u64) 97 (.slice A4 y5.length c4) y5 :: Bk g1 [(.int .u64 ((x1 : Nat) : Int)), (.int .u64 ((x2 : Nat) : Int))] 323 :: sps) (Arr.cons Rem.here (Arr.cons (Rem.there Rem.here) (Arr.cons (Rem.there Rem.here) (Arr.sub (List.Sublist.cons _ (List.Sublist.refl _))))))) ?_
              rintro _ _ ⟨rfl, rfl⟩
              refine ps_en (en_keep (Rd (un .u8) (.slice A3 y4.length c3) y4 :: Rd (un .u8) (.slice A1 y1.length c1) y1 :: rs) (List.forall_mem_cons.2 ⟨(.tail _ (.tail _ (.tail _ (.head _)))), List.forall_mem_cons.2 ⟨(.tail _ (.tail _ (.tail _ (.tail _ (.head _))))), fun r hr => (.tail _ (.tail _ (.tail _ (.tail _ (.tail _ hr)))))⟩⟩)) ?_
              rintro _ _ ⟨rfl, rfl⟩
              refine ps_roundS [(11, (.slice A11 z7.length c11)), (13, (.int .i64 y19))] ⟨rfl, rfl, trivial⟩ xA k2 (Nat.lt_succ_self _) (⟨z7, y19, _, _, _, hl4, rfl, rfl, rfl⟩) (.mk .refl .refl)
        · refine cs_exit ?_
          refine ps_then_exit ?_
          refine ps_then_exit ?_
          obtain rfl := Option.some.inj hl4
          replace h := un2_ h
          obtain ⟨z9, rfl⟩ : ∃ z, z = x6 := ⟨_, rfl⟩
          obtain ⟨z10, rfl⟩ : ∃ z, z = x7 := ⟨_, rfl⟩
          refine ps_block_here ?_
          refine ps_then ?_
          refine cs_seq ?_
          refine cs_seq_region [0] rfl ?_
          refine c_assign rfl rfl rfl rfl (v := (.slice none 0 0)) rfl ?_
          refine can_nil ?_
          refine ps_then ?_
          refine cs_seq ?_
          refine cs_seq ?_
          refine cs_seq_region [0] rfl ?_
          refine c_assign rfl rfl rfl rfl (v := (.int .i64 (0 : Int))) rfl ?_
          refine can_nil ?_
          refine ps_then ?_
          refine cs_block ?_
          refine cs_en (en_nilRow (un .u8) 5) ?_
          rintro _ _ ⟨rfl, rfl⟩
          obtain ⟨o12, hl7, h⟩ := bnd h
          refine cs_loopS [19, 20, 21, 114, 115, 116, 117, 118, 119, 120, 121, 122, 123, 124, 125, 126, 127, 128, 129, 130, 131, 132, 133, 134, 135, 136] (fun m L s r => ∃ (x12 : (List Nat)) (x13 : Int) (A13 : Option Addr) (m4 : Nat) (c13 : Nat), lf_ref02_Sum_l6 K x2 z9 m x12 x13 = some o12 ∧ [(19, (.slice A13 m4 c13)), (20, (.int .i64 x13))] = L ∧ Row (un .u8) 5 (.slice A13 m4 c13) x12 :: Row (un .u64) 97 (.slice A6 z9.length c6) z9 :: Row (un .u64) 97 (.slice A4 y5.length c4) y5 :: Bk g1 [(.int .u64 ((x1 : Nat) : Int)), (.int .u64 ((x2 : Nat) : Int))] 323 :: sps = s ∧ Rd (un .u8) (.slice A3 y4.length c3) y4 :: Rd (un .u8) (.slice A1 y1.length c1) y1 :: rs = r) [(19, (.slice none 0 0)), (20, (.int .i64 (0 : Int)))] (⟨rfl, rfl, trivial⟩) (⟨([] : List Nat), (0 : Int), _, _, _, hl7, rfl, rfl, rfl⟩) ?_
          rintro k5 f7 _ _ _ ⟨x12, x13, A13, m4, c13, hl7, rfl, rfl, rfl⟩
          rcases k5 with _ | k5
          · exact absurd hl7 (by rw [lf_ref02_Sum_l6.eq_1]; exact nofun)
          rw [lf_ref02_Sum_l6.eq_2] at hl7
          refine cs_en (en_rowLen (.head _)) ?_
          rintro _ _ ⟨rfl, rfl, rfl⟩
          refine cs_seq ?_
          refine cs_seq ?_
          refine cs_seq_region [0, 1] rfl ?_
          refine c_move rfl rfl rfl rfl (v := (.int .i64 x13)) rfl ?_
          refine c_lss (p := x13) (q := (8 : Int)) rfl rfl rfl rfl rfl rfl ?_
          refine can_nil ?_
          refine ps_then ?_
          refine cs_condL (b := (decide (x13 < (8 : Int)))) rfl hl7 (fun hc7 hl7 => ?_) (fun hc7 hl7 => ?_)
          · refine cs_skip ?_
            refine ps_then ?_
            refine cs_seq ?_
            refine cs_block ?_
            refine cs_seq ?_
            refine cs_seq_region [0, 1, 2, 3, 4] rfl ?_
            refine c_fieldAddr rfl rfl rfl rfl Tryz.underlying323 rfl Tryz.sizeOf97 rfl rfl ?_
            refine c_load1 (v := (.int .u64 ((x2 : Nat) : Int))) rfl rfl rfl Tryz.isAgg97 rfl (ldS rfl rfl (.tail _ (.tail _ (.tail _ (.head _)))) (sub1 rfl)) ?_
            refine c_conv (p := ((x2 : Nat) : Int)) rfl rfl rfl rfl Tryz.underlying97 Tryz.underlying3 rfl ?_
            refine c_sub (p := (IntKind.wrap .i64 ((x2 : Nat) : Int))) (q := (8 : Int)) rfl rfl rfl rfl rfl rfl ?_
            refine c_assign rfl rfl rfl rfl (v := (.int .i64 (IntKind.wrap .i64 ((IntKind.wrap .i64 ((x2 : Nat) : Int)) - (8 : Int))))) rfl ?_
            obtain ⟨y20, hy19, hl7⟩ := let_ hl7
            refine can_is 21 (.int .i64 y20) (congrArg (fun z : Int => Value.int .i64 z) hy19) ?_
            refine can_nil ?_
            refine ps_then ?_
            refine cs_block ?_
            obtain ⟨o13, hl8, hl7⟩ := bnd hl7
            refine cs_loopS [19, 21, 122, 123, 124, 125, 126, 127, 128, 129, 130, 131, 132, 133, 134, 135, 136] (fun m L s r => ∃ (x14 : (List Nat)) (x15 : Int) (A14 : Option Addr) (m5 : Nat) (c14 : Nat), lf_ref02_Sum_l7 K z9 x13 m x14 x15 = some o13 ∧ [(19, (.slice A14 m5 c14)), (21, (.int .i64 x15))] = L ∧ Row (un .u8) 5 (.slice A14 m5 c14) x14 :: Row (un .u64) 97 (.slice A6 z9.length c6) z9 :: Row (un .u64) 97 (.slice A4 y5.length c4) y5 :: Bk g1 [(.int .u64 ((x1 : Nat) : Int)), (.int .u64 ((x2 : Nat) : Int))] 323 :: sps = s ∧ Rd (un .u8) (.slice A3 y4.length c3) y4 :: Rd (un .u8) (.slice A1 y1.length c1) y1 :: rs = r) [(19, (.slice A13 x12.length c13)), (21, (.int .i64 y20))] (⟨rfl, rfl, trivial⟩) (⟨x12, y20, _, _, _, hl8, rfl, rfl, rfl⟩) ?_
            rintro k6 f8 _ _ _ ⟨x14, x15, A14, m5, c14, hl8, rfl, rfl, rfl⟩
            rcases k6 with _ | k6
            · exact absurd hl8 (by rw [lf_ref02_Sum_l7.eq_1]; exact nofun)
            rw [lf_ref02_Sum_l7.eq_2] at hl8
            refine cs_en (en_rowLen (.head _)) ?_
            rintro _ _ ⟨rfl, rfl, rfl⟩
            refine cs_seq ?_
            refine cs_seq ?_
            refine cs_seq_region [0, 1] rfl ?_
            refine c_move rfl rfl rfl rfl (v := (.int .i64 x15)) rfl ?_
            refine c_geq (p := x15) (q := (0 : Int)) rfl rfl rfl rfl rfl rfl ?_
            refine can_nil ?_
            refine ps_then ?_
            refine cs_condL (b := (decide (x15 ≥ (0 : Int)))) rfl hl8 (fun hc8 hl8 => ?_) (fun hc8 hl8 => ?_)
            · refine cs_skip ?_
              refine ps_then ?_
              refine cs_seq ?_
              refine cs_block ?_
              refine cs_seq_region [0, 1, 2, 3, 4, 5, 6, 7, 8, 9, 10, 11] rfl ?_
              refine c_move rfl rfl rfl rfl (v := (.slice A14 x14.length c14)) rfl ?_
              refine c_move rfl rfl rfl rfl (v := (.slice A6 z9.length c6)) rfl ?_
              refine c_move rfl rfl rfl rfl (v := (.int .i64 x13)) rfl ?_
              obtain ⟨y21, hy20, hl8⟩ := bnd hl8
              refine can_en (en_rowPtr (v := .bool true) (.tail _ (.head _)) (by have := getO_lt hy20; omega)) ?_
              rintro _ _ ⟨rfl, rfl, g8, rfl⟩
              refine c_indexAddrS (p := x13) rfl rfl rfl rfl Tryz.underlying181 Tryz.sizeOf97 rfl rfl (by have := getO_lt hy20; omega) ?_
              refine c_load1 rfl rfl rfl Tryz.isAgg97 rfl (ldW rfl rfl (plain_un _) (.tail _ (.head _)) hy20) ?_
              refine c_move rfl rfl rfl rfl (v := (.int .i64 x15)) rfl ?_
              refine l_convU (p := x15) rfl rfl rfl rfl Tryz.underlying3 Tryz.underlying174 rfl rfl ?_
              refine l_shr (p := y21) (b := (toU .u64 x15)) rfl rfl rfl rfl rfl rfl rfl ?_
              refine n_conv (p := (y21 / 2 ^ min (toU .u64 x15) 64)) rfl rfl rfl rfl Tryz.underlying97 Tryz.underlying5 rfl rfl ?_
              refine c_lit (cs := [(.int .u8 ((((y21 / 2 ^ min (toU .u64 x15) 64) % 2 ^ 8) : Nat) : Int))]) rfl rfl rfl rfl Tryz.underlying22 Tryz.sizeOf5 Tryz.zeroValue5 rfl rfl rfl rfl rfl (fun _ => Or.inl rfl) (fun g9 => ?_)
              obtain ⟨y22, hy21, hl8⟩ := bnd hl8
              refine l_append1 (dr := (un .u8)) (xs := x14) (ys := [((y21 / 2 ^ min (toU .u64 x15) 64) % 2 ^ 8)]) rfl rfl rfl rfl sty_22 rfl rfl rfl Rem.here Foc.here rfl (fun hh hr => un_reps _) hy21 (fun _ => Or.inl rfl) (fun v9 => ?_)
              refine can_en (en_rowShape (xs := y22) (.head _)) ?_
              rintro _ _ ⟨rfl, rfl, A15, c15, rfl, -, -, -⟩
              refine c_assign rfl rfl rfl rfl (v := (.slice A15 y22.length c15)) rfl ?_
              refine can_nil ?_
              refine ps_block_normal ?_
              refine ps_then ?_
              refine cs_seq_region [0, 1, 2] rfl ?_
              refine c_move rfl rfl rfl rfl (v := (.int .i64 x15)) rfl ?_
              refine c_sub (p := x15) (q := (8 : Int)) rfl rfl rfl rfl rfl rfl ?_
              refine c_assign rfl rfl rfl rfl (v := (.int .i64 (IntKind.wrap .i64 (x15 - (8 : Int))))) rfl ?_
              refine can_nil ?_
              refine ps_en (en_keep (Rd (un .u8) (.slice A3 y4.length c3) y4 :: Rd (un .u8) (.slice A1 y1.length c1) y1 :: rs) (List.forall_mem_cons.2 ⟨(.head _), List.forall_mem_cons.2 ⟨(.tail _ (.head _)), fun r hr => (.tail _ (.tail _ hr))⟩⟩)) ?_
              rintro _ _ ⟨rfl, rfl⟩
              refine ps_roundS [(19, (.slice A15 y22.length c15)), (21, (.int .i64 (IntKind.wrap .i64 (x15 - (8 : Int)))))] ⟨rfl, rfl, trivial⟩ xA k6 (Nat.lt_succ_self _) (⟨y22, (IntKind.wrap .i64 (x15 - (8 : Int))), _, _, _, hl8, rfl, rfl, rfl⟩) (.mk .refl .refl)
            · refine cs_exit ?_
              refine ps_then_exit ?_
              refine ps_then_exit ?_
              obtain rfl := Option.some.inj hl8
              replace hl7 := un2_ hl7
              obtain ⟨z11, rfl⟩ : ∃ z, z = x14 := ⟨_, rfl⟩
              obtain ⟨z12, rfl⟩ : ∃ z, z = x15 := ⟨_, rfl⟩
              refine ps_block_here ?_
              refine ps_block_normal ?_
              refine ps_then ?_
              refine cs_seq_region [0, 1, 2] rfl ?_
              refine c_move rfl rfl rfl rfl (v := (.int .i64 x13)) rfl ?_
              refine c_add (p := x13) (q := (1 : Int)) rfl rfl rfl rfl rfl rfl ?_
              refine c_assign rfl rfl rfl rfl (v := (.int .i64 (IntKind.wrap .i64 (x13 + (1 : Int))))) rfl ?_
              refine can_nil ?_
              refine ps_en (en_keep (Rd (un .u8) (.slice A3 y4.length c3) y4 :: Rd (un .u8) (.slice A1 y1.length c1) y1 :: rs) (List.forall_mem_cons.2 ⟨(.head _), List.forall_mem_cons.2 ⟨(.tail _ (.head _)), fun r hr => (.tail _ (.tail _ hr))⟩⟩)) ?_
              rintro _ _ ⟨rfl, rfl⟩
              refine ps_roundS [(19, (.slice A14 z11.length c14)), (20, (.int .i64 (IntKind.wrap .i64 (x13 + (1 : Int)))))] ⟨rfl, rfl, trivial⟩ xA k5 (Nat.lt_succ_self _) (⟨z11, (IntKind.wrap .i64 (x13 + (1 : Int))), _, _, _, hl7, rfl, rfl, rfl⟩) (.mk .refl .refl)
          · refine cs_exit ?_
            refine ps_then_exit ?_
            refine ps_then_exit ?_
            obtain rfl := Option.some.inj hl7
            replace h := un2_ h
            obtain ⟨z13, rfl⟩ : ∃ z, z = x12 := ⟨_, rfl⟩
            obtain ⟨z14, rfl⟩ : ∃ z, z = x13 := ⟨_, rfl⟩
            refine ps_block_here ?_
            refine ps_then ?_
            refine cs_seq ?_
            refine cs_seq_region [0, 1, 2] rfl ?_
            refine c_move rfl rfl rfl rfl (v := (.slice A13 z13.length c13)) rfl ?_
            refine c_assign rfl rfl rfl rfl (v := (.slice A13 z13.length c13)) rfl ?_
            refine c_assign rfl rfl rfl rfl (v := (.int .i64 (0 : Int))) rfl ?_
            refine can_nil ?_
            refine ps_then ?_
            refine cs_ret ?_
            have hz0 := Option.some.inj h
            obtain ⟨rfl, hz1⟩ := prod2 hz0
            obtain rfl := hz1
            refine ps_en (en_arr (sps' := Row (un .u8) 5 (.slice A13 z13.length c13) z13 :: sps) (Arr.cons Rem.here (Arr.sub (List.Sublist.cons _ (List.Sublist.cons _ (List.Sublist.cons _ (List.Sublist.refl _))))))) ?_
            rintro _ _ ⟨rfl, rfl⟩
            refine ps_en (en_keep (rs) (fun r hr => (.tail _ (.tail _ hr)))) ?_
            rintro _ _ ⟨rfl, rfl⟩
            apply ps_end2 rfl Tryz.results187 rfl rfl
            · exact ⟨_, rfl, rfl, rfl⟩
            · exact .mk .refl .refl
def lf_ref02_Hash256 (K : Nat) (p0 : (List Nat)) : Option (List Nat) := ((lf_ref02_Sum K p0 (256 : Int)).bind (fun qy1 => un2 qy1 (fun y1 => fun y2 => (some y1))))
theorem lf_ref02_Hash256_ok (K : Nat) (p0 : (List Nat)) (vp0 : Value) (w0 : World) (sps : List Sp) (rs : List Fa) (hv_p0 : Rd (un .u8) vp0 p0 ∈ rs) {r0 : (List Nat)} (h : lf_ref02_Hash256 K p0 = some r0) : FnOk Tryz.prog 146 #[vp0] w0 sps rs (fun v s q => ∃ (qr0 : Value), v = qr0 ∧ Row (un .u8) 5 qr0 r0 :: sps = s ∧ rs = q) := by
  unfold lf_ref02_Hash256 at h
  refine fn_en (en_shape hv_p0) ?_
  rintro _ _ ⟨rfl, rfl, Ap0, cp0, rfl, -, -, -⟩
  refine fn_enter Tryz.func146 rfl Tryz.ntmps146 rfl ?_
  refine cs_seq ?_
  refine cs_seq_region [0] rfl ?_
  refine c_assign rfl rfl rfl rfl (v := (.slice none 0 0)) rfl ?_
  refine can_nil ?_
  refine ps_then ?_
  refine cs_seq ?_
  refine cs_seq_region [0, 1, 2, 3, 4, 5, 6] rfl ?_
  refine c_move rfl rfl rfl rfl (v := (.slice Ap0 p0.length cp0)) rfl ?_
  obtain ⟨⟨y1, y2⟩, hy1, h⟩ := bnd h
  replace h := un2_ h
  refine c_call rfl rfl rfl rfl Tryz.call187 (lf_ref02_Sum_ok K p0 (256 : Int) (.slice Ap0 p0.length cp0) w0 _ _ hv_p0 hy1) rfl (fun _ _ _ _ => Or.inl rfl) ?_
  rintro _ _ _ ⟨v1, rfl, rfl, rfl⟩
  refine can_en (en_rowShape (xs := y1) (.head _)) ?_
  rintro _ _ ⟨rfl, rfl, A1, c1, rfl, -, -, -⟩
  refine c_move rfl rfl rfl rfl (v := (.tuple #[(.slice A1 y1.length c1), (.int .i64 y2)])) rfl ?_
  refine c_extract rfl rfl rfl rfl rfl rfl ?_
  refine c_extract rfl rfl rfl rfl rfl rfl ?_
  refine c_assign rfl rfl rfl rfl (v := (.slice A1 y1.length c1)) rfl ?_
  refine c_assign rfl rfl rfl rfl (v := (.int .i64 y2)) rfl ?_
  refine can_nil ?_
  refine ps_then ?_
  refine cs_seq ?_
  refine cs_seq_region [0, 1] rfl ?_
  refine c_move rfl rfl rfl rfl (v := (.slice A1 y1.length c1)) rfl ?_
  refine c_assign rfl rfl rfl rfl (v := (.slice A1 y1.length c1)) rfl ?_
  refine can_nil ?_
  refine ps_then ?_
  refine cs_ret ?_
  obtain rfl := Option.some.inj h
  refine ps_en (en_keep (rs) (fun r hr => hr)) ?_
  rintro _ _ ⟨rfl, rfl⟩
  apply ps_end1 rfl Tryz.results146 rfl
  · exact ⟨_, rfl, rfl, rfl⟩
  · exact .mk .refl .refl
def lf_ref06_Eight_l0 (K : Nat)  : Nat → (List Nat) → Nat → Int → Option ((List Nat) × Nat × Int)
  | 0, _, _, _ => none
  | k + 1, x1, x2, x3 => (bif (decide (x3 < (8 : Int))) then ((appO ([((x2 % 256) % 2 ^ 8)] : List Nat) x1).bind fun y1 => (lf_ref06_Eight_l0 K  k y1 (x2 / 256 % 2 ^ 64) (IntKind.wrap .i64 (x3 + (1 : Int))))) else (some (x1, x2, x3)))
def lf_ref06_Eight (K : Nat) (p0 : Int) : Option (List Nat) := ((lf_ref06_Eight_l0 K  K ([] : List Nat) (toU .u64 p0) (0 : Int)).bind (fun qz1 => un2 qz1 (fun z1 => fun qz2 => un2 qz2 (fun z2 => fun z3 => (some z1)))))
theorem lf_ref06_Eight_ok (K : Nat) (p0 : Int)  (w0 : World) (sps : List Sp) (rs : List Fa)  {r0 : (List Nat)} (h : lf_ref06_Eight K p0 = some r0) : FnOk Tryz.prog 225 #[.int .i64 p0] w0 sps rs (fun v s q => ∃ (qr0 : Value), v = qr0 ∧ Row (un .u8) 5 qr0 r0 :: sps = s ∧ rs = q) := by
  unfold lf_ref06_Eight at h
  refine fn_enter Tryz.func225 rfl Tryz.ntmps225 rfl ?_
  refine cs_seq ?_
  refine cs_seq_region [0] rfl ?_
  refine c_assign rfl rfl rfl rfl (v := (.slice none 0 0)) rfl ?_
  refine can_nil ?_
  refine ps_then ?_
  refine cs_seq ?_
  refine cs_seq_region [0] rfl ?_
  refine c_assign rfl rfl rfl rfl (v := (.slice none 0 0)) rfl ?_
  refine can_nil ?_
  refine ps_then ?_
  refine cs_seq ?_
  refine cs_seq_region [0, 1, 2] rfl ?_
  refine c_move rfl rfl rfl rfl (v := (.int .i64 p0)) rfl ?_
  refine l_convU (p := p0) rfl rfl rfl rfl Tryz.underlying3 Tryz.underlying97 rfl rfl ?_
  refine c_assign rfl rfl rfl rfl (v := (.int .u64 (((toU .u64 p0) : Nat) : Int))) rfl ?_
  refine can_nil ?_
  refine ps_then ?_
  refine cs_seq ?_
  refine cs_seq ?_
  refine cs_seq_region [0] rfl ?_
  refine c_assign rfl rfl rfl rfl (v := (.int .i64 (0 : Int))) rfl ?_
  refine can_nil ?_
  refine ps_then ?_
  refine cs_block ?_
  refine cs_en (en_nilRow (un .u8) 5) ?_
  rintro _ _ ⟨rfl, rfl⟩
  obtain ⟨o1, hl1, h⟩ := bnd h
  refine cs_loopS [3, 4, 5, 8, 9, 10, 11, 12, 13, 14, 15, 16, 17, 18, 19] (fun m L s r => ∃ (x1 : (List Nat)) (x2 : Nat) (x3 : Int) (A1 : Option Addr) (m1 : Nat) (c1 : Nat), lf_ref06_Eight_l0 K  m x1 x2 x3 = some o1 ∧ [(3, (.slice A1 m1 c1)), (4, (.int .u64 ((x2 : Nat) : Int))), (5, (.int .i64 x3))] = L ∧ Row (un .u8) 5 (.slice A1 m1 c1) x1 :: sps = s ∧ rs = r) [(3, (.slice none 0 0)), (4, (.int .u64 (((toU .u64 p0) : Nat) : Int))), (5, (.int .i64 (0 : Int)))] (⟨rfl, rfl, rfl, trivial⟩) (⟨([] : List Nat), (toU .u64 p0), (0 : Int), _, _, _, hl1, rfl, rfl, rfl⟩) ?_
  rintro k1 f1 _ _ _ ⟨x1, x2, x3, A1, m1, c1, hl1, rfl, rfl, rfl⟩
  rcases k1 with _ | k1
  · exact absurd hl1 (by rw [lf_ref06_Eight_l0.eq_1]; exact nofun)
  rw [lf_ref06_Eight_l0.eq_2] at hl1
  refine cs_en (en_rowLen (.head _)) ?_
  rintro _ _ ⟨rfl, rfl, rfl⟩
  refine cs_seq ?_
  refine cs_seq ?_
  refine cs_seq_region [0, 1] rfl ?_
  refine c_move rfl rfl rfl rfl (v := (.int .i64 x3)) rfl ?_
  refine c_lss (p := x3) (q := (8 : Int)) rfl rfl rfl rfl rfl rfl ?_
  refine can_nil ?_
  refine ps_then ?_
  refine cs_condL (b := (decide (x3 < (8 : Int)))) rfl hl1 (fun hc1 hl1 => ?_) (fun hc1 hl1 => ?_)
  · refine cs_skip ?_
    refine ps_then ?_
    refine cs_seq ?_
    refine cs_block ?_
    refine cs_seq ?_
    refine cs_seq_region [0, 1, 2, 3, 4, 5, 6] rfl ?_
    refine c_move rfl rfl rfl rfl (v := (.int .u64 ((x2 : Nat) : Int))) rfl ?_
    refine l_rem (p := x2) (q := 256) rfl rfl rfl rfl rfl rfl rfl ?_
    refine n_conv (p := (x2 % 256)) rfl rfl rfl rfl Tryz.underlying97 Tryz.underlying5 rfl rfl ?_
    refine c_lit (cs := [(.int .u8 ((((x2 % 256) % 2 ^ 8) : Nat) : Int))]) rfl rfl rfl rfl Tryz.underlying22 Tryz.sizeOf5 Tryz.zeroValue5 rfl rfl rfl rfl rfl (fun _ => Or.inl rfl) (fun g1 => ?_)
    refine can_en (en_litRow (m := 1) (dr := (un .u8)) (xs := ([((x2 % 256) % 2 ^ 8)] : List Nat)) Rem.here (fun hh hr => un_reps _) rfl rfl) ?_
    rintro _ _ ⟨rfl, rfl⟩
    refine c_move rfl rfl rfl rfl (v := (.slice A1 x1.length c1)) rfl ?_
    refine can_en (en_give (Rem.there Rem.here)) ?_
    rintro _ _ ⟨rfl, rfl⟩
    obtain ⟨y1, hy1, hl1⟩ := bnd hl1
    refine l_append (dr := (un .u8)) (xs := ([((x2 % 256) % 2 ^ 8)] : List Nat)) (ys := x1) rfl rfl rfl rfl sty_22 rfl rfl rfl Foc.here (.head _) hy1 (fun _ => Or.inl rfl) (fun v1 => ?_)
    refine can_en (en_rowShape (xs := y1) (.head _)) ?_
    rintro _ _ ⟨rfl, rfl, A2, c2, rfl, -, -, -⟩
    refine c_assign rfl rfl rfl rfl (v := (.slice A2 y1.length c2)) rfl ?_
    refine can_nil ?_
    refine ps_then ?_
    refine cs_seq_region [0, 1, 2] rfl ?_
    refine c_move rfl rfl rfl rfl (v := (.int .u64 ((x2 : Nat) : Int))) rfl ?_
    refine l_quo (p := x2) (q := 256) rfl rfl rfl rfl rfl rfl rfl rfl ?_
    refine c_assign rfl rfl rfl rfl (v := (.int .u64 (((x2 / 256 % 2 ^ 64) : Nat) : Int))) rfl ?_
    refine can_nil ?_
    refine ps_block_normal ?_
    refine ps_then ?_
    refine cs_seq_region [0, 1, 2] rfl ?_
    refine c_move rfl rfl rfl rfl (v := (.int .i64 x3)) rfl ?_
    refine c_add (p := x3) (q := (1 : Int)) rfl rfl rfl rfl rfl rfl ?_
    refine c_assign rfl rfl rfl rfl (v := (.int .i64 (IntKind.wrap .i64 (x3 + (1 : Int))))) rfl ?_
    refine can_nil ?_
    refine ps_en (en_keep (rs) (fun r hr => (.tail _ hr))) ?_
    rintro _ _ ⟨rfl, rfl⟩
    refine ps_roundS [(3, (.slice A2 y1.length c2)), (4, (.int .u64 (((x2 / 256 % 2 ^ 64) : Nat) : Int))), (5, (.int .i64 (IntKind.wrap .i64 (x3 + (1 : Int)))))] ⟨rfl, rfl, rfl, trivial⟩ xA k1 (Nat.lt_succ_self _) (⟨y1, (x2 / 256 % 2 ^ 64), (IntKind.wrap .i64 (x3 + (1 : Int))), _, _, _, hl1, rfl, rfl, rfl⟩) (.mk .refl .refl)
  · refine cs_exit ?_
    refine ps_then_exit ?_
    refine ps_then_exit ?_
    obtain rfl := Option.some.inj hl1
    replace h := un2_ h
    replace h := un2_ h
    obtain ⟨z1, rfl⟩ : ∃ z, z = x1 := ⟨_, rfl⟩
    obtain ⟨z2, rfl⟩ : ∃ z, z = x2 := ⟨_, rfl⟩
    obtain ⟨z3, rfl⟩ : ∃ z, z = x3 := ⟨_, rfl⟩
    refine ps_block_here ?_
    refine ps_then ?_
    refine cs_seq ?_
    refine cs_seq_region [0, 1] rfl ?_
    refine c_move rfl rfl rfl rfl (v := (.slice A1 z1.length c1)) rfl ?_
    refine c_assign rfl rfl rfl rfl (v := (.slice A1 z1.length c1)) rfl ?_
    refine can_nil ?_
    refine ps_then ?_
    refine cs_ret ?_
    obtain rfl := Option.some.inj h
    refine ps_en (en_keep (rs) (fun r hr => hr)) ?_
    rintro _ _ ⟨rfl, rfl⟩
    apply ps_end1 rfl Tryz.results225 rfl
    · exact ⟨_, rfl, rfl, rfl⟩
    · exact .mk .refl .refl
def lf_ref06_join (K : Nat) (p0 : (List Nat)) (p1 : (List Nat)) (p2 : (List Nat)) : Option (List Nat) := ((appO ([] : List Nat) p0).bind fun y1 => ((appO y1 p1).bind fun y2 => ((appO y2 p2).bind fun y3 => (some y3))))
theorem lf_ref06_join_ok (K : Nat) (p0 : (List Nat)) (p1 : (List Nat)) (p2 : (List Nat)) (vp0 : Value) (vp1 : Value) (vp2 : Value) (w0 : World) (sps : List Sp) (rs : List Fa) (hv_p0 : Rd (un .u8) vp0 p0 ∈ rs) (hv_p1 : Rd (un .u8) vp1 p1 ∈ rs) (hv_p2 : Rd (un .u8) vp2 p2 ∈ rs) {r0 : (List Nat)} (h : lf_ref06_join K p0 p1 p2 = some r0) : FnOk Tryz.prog 224 #[vp0, vp1, vp2] w0 sps rs (fun v s q => ∃ (qr0 : Value), v = qr0 ∧ Row (un .u8) 5 qr0 r0 :: sps = s ∧ rs = q) := by
  unfold lf_ref06_join at h
  refine fn_en (en_shape hv_p0) ?_
  rintro _ _ ⟨rfl, rfl, Ap0, cp0, rfl, -, -, -⟩
  refine fn_en (en_shape hv_p1) ?_
  rintro _ _ ⟨rfl, rfl, Ap1, cp1, rfl, -, -, -⟩
  refine fn_en (en_shape hv_p2) ?_
  rintro _ _ ⟨rfl, rfl, Ap2, cp2, rfl, -, -, -⟩
  refine fn_enter Tryz.func224 rfl Tryz.ntmps224 rfl ?_
  refine cs_seq ?_
  refine cs_seq_region [0] rfl ?_
  refine c_assign rfl rfl rfl rfl (v := (.slice none 0 0)) rfl ?_
  refine can_nil ?_
  refine ps_then ?_
  refine cs_seq ?_
  refine cs_seq_region [0] rfl ?_
  refine c_assign rfl rfl rfl rfl (v := (.slice none 0 0)) rfl ?_
  refine can_nil ?_
  refine ps_then ?_
  refine cs_seq ?_
  refine cs_seq_region [0, 1, 2, 3, 4, 5, 6, 7] rfl ?_
  refine c_move rfl rfl rfl rfl (v := (.slice none 0 0)) rfl ?_
  refine c_move rfl rfl rfl rfl (v := (.slice Ap0 p0.length cp0)) rfl ?_
  refine can_en (en_nilRow (un .u8) 5) ?_
  rintro _ _ ⟨rfl, rfl⟩
  obtain ⟨y1, hy1, h⟩ := bnd h
  refine l_append (dr := (un .u8)) (xs := ([] : List Nat)) (ys := p0) rfl rfl rfl rfl sty_22 rfl rfl rfl Foc.here hv_p0 hy1 (fun _ => Or.inl rfl) (fun v1 => ?_)
  refine can_en (en_rowShape (xs := y1) (.head _)) ?_
  rintro _ _ ⟨rfl, rfl, A1, c1, rfl, -, -, -⟩
  refine c_move rfl rfl rfl rfl (v := (.slice Ap1 p1.length cp1)) rfl ?_
  obtain ⟨y2, hy2, h⟩ := bnd h
  refine l_append (dr := (un .u8)) (xs := y1) (ys := p1) rfl rfl rfl rfl sty_22 rfl rfl rfl Foc.here hv_p1 hy2 (fun _ => Or.inl rfl) (fun v2 => ?_)
  refine can_en (en_rowShape (xs := y2) (.head _)) ?_
  rintro _ _ ⟨rfl, rfl, A2, c2, rfl, -, -, -⟩
  refine c_move rfl rfl rfl rfl (v := (.slice Ap2 p2.length cp2)) rfl ?_
  obtain ⟨y3, hy3, h⟩ := bnd h
  refine l_append (dr := (un .u8)) (xs := y2) (ys := p2) rfl rfl rfl rfl sty_22 rfl rfl rfl Foc.here hv_p2 hy3 (fun _ => Or.inl rfl) (fun v3 => ?_)
  refine can_en (en_rowShape (xs := y3) (.head _)) ?_
  rintro _ _ ⟨rfl, rfl, A3, c3, rfl, -, -, -⟩
  refine c_assign rfl rfl rfl rfl (v := (.slice A3 y3.length c3)) rfl ?_
  refine can_nil ?_
  refine ps_then ?_
  refine cs_ret ?_
  obtain rfl := Option.some.inj h
  refine ps_en (en_keep (rs) (fun r hr => hr)) ?_
  rintro _ _ ⟨rfl, rfl⟩
  apply ps_end1 rfl Tryz.results224 rfl
  · exact ⟨_, rfl, rfl, rfl⟩
  · exact .mk .refl .refl
def lf_ref06_Count_l0 (K : Nat) (p1 : Int) : Nat → Int → Int → Option (Int × Int)
  | 0, _, _ => none
  | k + 1, x1, x2 => (bif (decide (x1 > (0 : Int))) then (lf_ref06_Count_l0 K p1 k (IntKind.wrap .i64 (x1 - p1)) (IntKind.wrap .i64 (x2 + (1 : Int)))) else (some (x1, x2)))
def lf_ref06_Count (K : Nat) (p0 : Int) (p1 : Int) : Option (Int × Int) := (bif (decide (p0 < (0 : Int))) then (some ((0 : Int), (1 : Int))) else (bif (decide (p1 < (64 : Int))) then (some ((0 : Int), (1 : Int))) else (bif (decide (p1 > (1024 : Int))) then (some ((0 : Int), (1 : Int))) else (bif (decide (p0 > (131072 : Int))) then (some ((0 : Int), (2 : Int))) else ((lf_ref06_Count_l0 K p1 K p0 (0 : Int)).bind (fun qz1 => un2 qz1 (fun z1 => fun z2 => (some (z2, (0 : Int))))))))))
theorem lf_ref06_Count_ok (K : Nat) (p0 : Int) (p1 : Int)  (w0 : World) (sps : List Sp) (rs : List Fa)  {r0 : Int} {r1 : Int} (h : lf_ref06_Count K p0 p1 = some (r0, r1)) : FnOk Tryz.prog 93 #[.int .i64 p0, .int .i64 p1] w0 sps rs (fun v s q => v = .tuple #[.int .i64 r0, .int .i64 r1] ∧ sps = s ∧ rs = q) := by
  unfold lf_ref06_Count at h
  refine fn_enter Tryz.func93 rfl Tryz.ntmps93 rfl ?_
  refine cs_seq ?_
  refine cs_seq_region [0, 1] rfl ?_
  refine c_assign rfl rfl rfl rfl (v := (.int .i64 (0 : Int))) rfl ?_
  refine c_assign rfl rfl rfl rfl (v := (.int .i64 (0 : Int))) rfl ?_
  refine can_nil ?_
  refine ps_then ?_
  refine cs_seq ?_
  refine cs_seq ?_
  refine cs_seq_region [0, 1, 2, 3, 4, 5, 6, 7, 8, 9] rfl ?_
  refine c_move rfl rfl rfl rfl (v := (.int .i64 p0)) rfl ?_
  refine c_lss (p := p0) (q := (0 : Int)) rfl rfl rfl rfl rfl rfl ?_
  refine c_move rfl rfl rfl rfl (v := (.bool (decide (p0 < (0 : Int))))) rfl ?_
  refine can_splitL 9 (b := (decide (p0 < (0 : Int)))) rfl h (fun hg1 h => ?_) (fun hg1 h => ?_)
  · refine can_skip rfl rfl rfl (Or.inl rfl) ?_
    refine can_skip rfl rfl rfl (Or.inl rfl) ?_
    refine c_pick rfl rfl rfl rfl rfl (by conv => lhs; whnf) ?_
    refine c_move rfl rfl rfl rfl (v := (.bool true)) rfl ?_
    refine can_skip rfl rfl rfl (Or.inl rfl) ?_
    refine can_skip rfl rfl rfl (Or.inl rfl) ?_
    refine c_pick rfl rfl rfl rfl rfl (by conv => lhs; whnf) ?_
    refine can_nil ?_
    refine ps_then ?_
    refine cs_true rfl ?_
    refine cs_seq ?_
    refine cs_seq_region [0, 1] rfl ?_
    refine c_assign rfl rfl rfl rfl (v := (.int .i64 (0 : Int))) rfl ?_
    refine c_assign rfl rfl rfl rfl (v := (.int .i64 (1 : Int))) rfl ?_
    refine can_nil ?_
    refine ps_then ?_
    refine cs_ret ?_
    refine ps_then_ret ?_
    have hz0 := Option.some.inj h
    obtain ⟨rfl, hz1⟩ := prod2 hz0
    obtain rfl := hz1
    refine ps_en (en_keep (rs) (fun r hr => hr)) ?_
    rintro _ _ ⟨rfl, rfl⟩
    apply ps_end2 rfl Tryz.results93 rfl rfl
    · exact ⟨rfl, rfl, rfl⟩
    · exact .mk .refl .refl
  · refine c_move rfl rfl rfl rfl (v := (.int .i64 p1)) rfl ?_
    refine c_lss (p := p1) (q := (64 : Int)) rfl rfl rfl rfl rfl rfl ?_
    refine c_pick rfl rfl rfl rfl rfl (by conv => lhs; whnf) ?_
    refine c_move rfl rfl rfl rfl (v := (.bool (decide (p1 < (64 : Int))))) rfl ?_
    refine can_splitL 13 (b := (decide (p1 < (64 : Int)))) rfl h (fun hg2 h => ?_) (fun hg2 h => ?_)
    · refine can_skip rfl rfl rfl (Or.inl rfl) ?_
      refine can_skip rfl rfl rfl (Or.inl rfl) ?_
      refine c_pick rfl rfl rfl rfl rfl (by conv => lhs; whnf) ?_
      refine can_nil ?_
      refine ps_then ?_
      refine cs_true rfl ?_
      refine cs_seq ?_
      refine cs_seq_region [0, 1] rfl ?_
      refine c_assign rfl rfl rfl rfl (v := (.int .i64 (0 : Int))) rfl ?_
      refine c_assign rfl rfl rfl rfl (v := (.int .i64 (1 : Int))) rfl ?_
      refine can_nil ?_
      refine ps_then ?_
      refine cs_ret ?_
      refine ps_then_ret ?_
      have hz0 := Option.some.inj h
      obtain ⟨rfl, hz1⟩ := prod2 hz0
      obtain rfl := hz1
      refine ps_en (en_keep (rs) (fun r hr => hr)) ?_
      rintro _ _ ⟨rfl, rfl⟩
      apply ps_end2 rfl Tryz.results93 rfl rfl
      · exact ⟨rfl, rfl, rfl⟩
      · exact .mk .refl .refl
    · refine c_move rfl rfl rfl rfl (v := (.int .i64 p1)) rfl ?_
      refine c_gtr (p := p1) (q := (1024 : Int)) rfl rfl rfl rfl rfl rfl ?_
      refine c_pick rfl rfl rfl rfl rfl (by conv => lhs; whnf) ?_
      refine can_nil ?_
      refine ps_then ?_
      refine cs_condL (b := (decide (p1 > (1024 : Int)))) rfl h (fun hc1 h => ?_) (fun hc1 h => ?_)
      · refine cs_seq ?_
        refine cs_seq_region [0, 1] rfl ?_
        refine c_assign rfl rfl rfl rfl (v := (.int .i64 (0 : Int))) rfl ?_
        refine c_assign rfl rfl rfl rfl (v := (.int .i64 (1 : Int))) rfl ?_
        refine can_nil ?_
        refine ps_then ?_
        refine cs_ret ?_
        refine ps_then_ret ?_
        have hz0 := Option.some.inj h
        obtain ⟨rfl, hz1⟩ := prod2 hz0
        obtain rfl := hz1
        refine ps_en (en_keep (rs) (fun r hr => hr)) ?_
        rintro _ _ ⟨rfl, rfl⟩
        apply ps_end2 rfl Tryz.results93 rfl rfl
        · exact ⟨rfl, rfl, rfl⟩
        · exact .mk .refl .refl
      · refine cs_skip ?_
        refine ps_then ?_
        refine cs_seq ?_
        refine cs_seq ?_
        refine cs_seq_region [0, 1] rfl ?_
        refine c_move rfl rfl rfl rfl (v := (.int .i64 p0)) rfl ?_
        refine c_gtr (p := p0) (q := (131072 : Int)) rfl rfl rfl rfl rfl rfl ?_
        refine can_nil ?_
        refine ps_then ?_
        refine cs_condL (b := (decide (p0 > (131072 : Int)))) rfl h (fun hc2 h => ?_) (fun hc2 h => ?_)
        · refine cs_seq ?_
          refine cs_seq_region [0, 1] rfl ?_
          refine c_assign rfl rfl rfl rfl (v := (.int .i64 (0 : Int))) rfl ?_
          refine c_assign rfl rfl rfl rfl (v := (.int .i64 (2 : Int))) rfl ?_
          refine can_nil ?_
          refine ps_then ?_
          refine cs_ret ?_
          refine ps_then_ret ?_
          have hz0 := Option.some.inj h
          obtain ⟨rfl, hz1⟩ := prod2 hz0
          obtain rfl := hz1
          refine ps_en (en_keep (rs) (fun r hr => hr)) ?_
          rintro _ _ ⟨rfl, rfl⟩
          apply ps_end2 rfl Tryz.results93 rfl rfl
          · exact ⟨rfl, rfl, rfl⟩
          · exact .mk .refl .refl
        · refine cs_skip ?_
          refine ps_then ?_
          refine cs_seq ?_
          refine cs_seq_region [0] rfl ?_
          refine c_assign rfl rfl rfl rfl (v := (.int .i64 (0 : Int))) rfl ?_
          refine can_nil ?_
          refine ps_then ?_
          refine cs_seq ?_
          refine cs_block ?_
          obtain ⟨o1, hl1, h⟩ := bnd h
          refine cs_loopS [0, 6, 19, 20, 21, 22, 23, 24, 25] (fun m L s r => ∃ (x1 : Int) (x2 : Int), lf_ref06_Count_l0 K p1 m x1 x2 = some o1 ∧ [(0, (.int .i64 x1)), (6, (.int .i64 x2))] = L ∧ sps = s ∧ rs = r) [(0, (.int .i64 p0)), (6, (.int .i64 (0 : Int)))] (⟨rfl, rfl, trivial⟩) (⟨p0, (0 : Int), hl1, rfl, rfl, rfl⟩) ?_
          rintro k1 f1 _ _ _ ⟨x1, x2, hl1, rfl, rfl, rfl⟩
          rcases k1 with _ | k1
          · exact absurd hl1 (by rw [lf_ref06_Count_l0.eq_1]; exact nofun)
          rw [lf_ref06_Count_l0.eq_2] at hl1
          refine cs_seq ?_
          refine cs_seq ?_
          refine cs_seq_region [0, 1] rfl ?_
          refine c_move rfl rfl rfl rfl (v := (.int .i64 x1)) rfl ?_
          refine c_gtr (p := x1) (q := (0 : Int)) rfl rfl rfl rfl rfl rfl ?_
          refine can_nil ?_
          refine ps_then ?_
          refine cs_condL (b := (decide (x1 > (0 : Int)))) rfl hl1 (fun hc3 hl1 => ?_) (fun hc3 hl1 => ?_)
          · refine cs_skip ?_
            refine ps_then ?_
            refine cs_block ?_
            refine cs_seq ?_
            refine cs_seq_region [0, 1, 2, 3] rfl ?_
            refine c_move rfl rfl rfl rfl (v := (.int .i64 x1)) rfl ?_
            refine c_move rfl rfl rfl rfl (v := (.int .i64 p1)) rfl ?_
            refine c_sub (p := x1) (q := p1) rfl rfl rfl rfl rfl rfl ?_
            refine c_assign rfl rfl rfl rfl (v := (.int .i64 (IntKind.wrap .i64 (x1 - p1)))) rfl ?_
            refine can_nil ?_
            refine ps_then ?_
            refine cs_seq_region [0, 1, 2] rfl ?_
            refine c_move rfl rfl rfl rfl (v := (.int .i64 x2)) rfl ?_
            refine c_add (p := x2) (q := (1 : Int)) rfl rfl rfl rfl rfl rfl ?_
            refine c_assign rfl rfl rfl rfl (v := (.int .i64 (IntKind.wrap .i64 (x2 + (1 : Int))))) rfl ?_
            refine can_nil ?_
            refine ps_block_normal ?_
            refine ps_en (en_keep (rs) (fun r hr => hr)) ?_
            rintro _ _ ⟨rfl, rfl⟩
            refine ps_roundS [(0, (.int .i64 (IntKind.wrap .i64 (x1 - p1)))), (6, (.int .i64 (IntKind.wrap .i64 (x2 + (1 : Int)))))] ⟨rfl, rfl, trivial⟩ xA k1 (Nat.lt_succ_self _) (⟨(IntKind.wrap .i64 (x1 - p1)), (IntKind.wrap .i64 (x2 + (1 : Int))), hl1, rfl, rfl, rfl⟩) (.mk .refl .refl)
          · refine cs_exit ?_
            refine ps_then_exit ?_
            refine ps_then_exit ?_
            obtain rfl := Option.some.inj hl1
            replace h := un2_ h
            obtain ⟨z1, rfl⟩ : ∃ z, z = x1 := ⟨_, rfl⟩
            obtain ⟨z2, rfl⟩ : ∃ z, z = x2 := ⟨_, rfl⟩
            refine ps_block_here ?_
            refine ps_then ?_
            refine cs_seq ?_
            refine cs_seq_region [0, 1, 2] rfl ?_
            refine c_move rfl rfl rfl rfl (v := (.int .i64 z2)) rfl ?_
            refine c_assign rfl rfl rfl rfl (v := (.int .i64 z2)) rfl ?_
            refine c_assign rfl rfl rfl rfl (v := (.int .i64 (0 : Int))) rfl ?_
            refine can_nil ?_
            refine ps_then ?_
            refine cs_ret ?_
            have hz0 := Option.some.inj h
            obtain ⟨rfl, hz1⟩ := prod2 hz0
            obtain rfl := hz1
            refine ps_en (en_keep (rs) (fun r hr => hr)) ?_
            rintro _ _ ⟨rfl, rfl⟩
            apply ps_end2 rfl Tryz.results93 rfl rfl
            · exact ⟨rfl, rfl, rfl⟩
            · exact .mk .refl .refl
def lf_ref06_Cut_l0 (K : Nat) (p1 : Int) : Nat → (List Nat) → (List (List Nat)) → Option ((List Nat) × (List (List Nat)))
  | 0, _, _ => none
  | k + 1, x1, x2 => (bif (decide (((x1.length : Nat) : Int) > p1)) then ((subO x1 (0 : Int) p1).bind fun y3 => ((appO x2 ([y3] : List (List Nat))).bind fun y4 => ((subO x1 p1 ((x1.length : Nat) : Int)).bind fun y5 => (lf_ref06_Cut_l0 K p1 k y5 y4)))) else (some (x1, x2)))
def lf_ref06_Cut (K : Nat) (p0 : (List Nat)) (p1 : Int) : Option ((List (List Nat)) × Int) := ((lf_ref06_Count K ((p0.length : Nat) : Int) p1).bind (fun qy1 => un2 qy1 (fun y1 => fun y2 => (bif (decide (y2 ≠ (0 : Int))) then (some (([] : List (List Nat)), y2)) else ((lf_ref06_Cut_l0 K p1 K p0 ([] : List (List Nat))).bind (fun qz1 => un2 qz1 (fun z1 => fun z2 => (bif (decide (((z1.length : Nat) : Int) > (0 : Int))) then ((appO z2 ([z1] : List (List Nat))).bind fun y6 => (some (y6, (0 : Int)))) else (some (z2, (0 : Int)))))))))))
theorem lf_ref06_Cut_ok (K : Nat) (p0 : (List Nat)) (p1 : Int) (vp0 : Value) (w0 : World) (sps : List Sp) (rs : List Fa) (hv_p0 : Rd (un .u8) vp0 p0 ∈ rs) {r0 : (List (List Nat))} {r1 : Int} (h : lf_ref06_Cut K p0 p1 = some (r0, r1)) : FnOk Tryz.prog 42 #[vp0, .int .i64 p1] w0 sps rs (fun v s q => ∃ (qr0 : Value), v = .tuple #[qr0, .int .i64 r1] ∧ Row (Rep.slice (un .u8)) 22 qr0 r0 :: sps = s ∧ rs = q) := by
  unfold lf_ref06_Cut at h
  refine fn_en (en_shape hv_p0) ?_
  rintro _ _ ⟨rfl, rfl, Ap0, cp0, rfl, -, -, -⟩
  refine fn_enter Tryz.func42 rfl Tryz.ntmps42 rfl ?_
  refine cs_seq ?_
  refine cs_seq_region [0, 1] rfl ?_
  refine c_assign rfl rfl rfl rfl (v := (.slice none 0 0)) rfl ?_
  refine c_assign rfl rfl rfl rfl (v := (.int .i64 (0 : Int))) rfl ?_
  refine can_nil ?_
  refine ps_then ?_
  refine cs_seq ?_
  refine cs_seq_region [0, 1, 2, 3, 4, 5, 6, 7, 8] rfl ?_
  refine c_move rfl rfl rfl rfl (v := (.slice Ap0 p0.length cp0)) rfl ?_
  refine l_len (m := p0.length) rfl rfl rfl rfl Tryz.underlying22 rfl ?_
  refine c_move rfl rfl rfl rfl (v := (.int .i64 p1)) rfl ?_
  obtain ⟨⟨y1, y2⟩, hy1, h⟩ := bnd h
  replace h := un2_ h
  refine c_call rfl rfl rfl rfl Tryz.call93 (lf_ref06_Count_ok K ((p0.length : Nat) : Int) p1  w0 _ _  hy1) rfl (fun _ _ _ _ => Or.inl rfl) ?_
  rintro _ _ _ ⟨rfl, rfl, rfl⟩
  refine c_move rfl rfl rfl rfl (v := (.tuple #[(.int .i64 y1), (.int .i64 y2)])) rfl ?_
  refine c_extract rfl rfl rfl rfl rfl rfl ?_
  refine c_extract rfl rfl rfl rfl rfl rfl ?_
  refine c_assign rfl rfl rfl rfl (v := (.int .i64 y1)) rfl ?_
  refine c_assign rfl rfl rfl rfl (v := (.int .i64 y2)) rfl ?_
  refine can_nil ?_
  refine ps_then ?_
  refine cs_seq ?_
  refine cs_seq ?_
  refine cs_seq_region [0, 1] rfl ?_
  refine c_move rfl rfl rfl rfl (v := (.int .i64 y2)) rfl ?_
  refine l_neqI (p := y2) (q := (0 : Int)) rfl rfl rfl rfl rfl rfl ?_
  refine can_nil ?_
  refine ps_then ?_
  refine cs_condL (b := (decide (y2 ≠ (0 : Int)))) rfl h (fun hc1 h => ?_) (fun hc1 h => ?_)
  · refine cs_seq ?_
    refine cs_seq_region [0, 1, 2] rfl ?_
    refine c_move rfl rfl rfl rfl (v := (.int .i64 y2)) rfl ?_
    refine c_assign rfl rfl rfl rfl (v := (.slice none 0 0)) rfl ?_
    refine c_assign rfl rfl rfl rfl (v := (.int .i64 y2)) rfl ?_
    refine can_nil ?_
    refine ps_then ?_
    refine cs_ret ?_
    refine ps_then_ret ?_
    refine ps_en (en_nilRow (Rep.slice (un .u8)) 22) ?_
    rintro _ _ ⟨rfl, rfl⟩
    have hz0 := Option.some.inj h
    obtain ⟨rfl, hz1⟩ := prod2 hz0
    obtain rfl := hz1
    refine ps_en (en_keep (rs) (fun r hr => hr)) ?_
    rintro _ _ ⟨rfl, rfl⟩
    apply ps_end2 rfl Tryz.results42 rfl rfl
    · exact ⟨_, rfl, rfl, rfl⟩
    · exact .mk .refl .refl
  · refine cs_skip ?_
    refine ps_then ?_
    refine cs_seq ?_
    refine cs_seq_region [0] rfl ?_
    refine c_assign rfl rfl rfl rfl (v := (.slice none 0 0)) rfl ?_
    refine can_nil ?_
    refine ps_then ?_
    refine cs_seq ?_
    refine cs_block ?_
    refine cs_en (en_nilRow (Rep.slice (un .u8)) 22) ?_
    rintro _ _ ⟨rfl, rfl⟩
    refine cs_en (en_keep (Rd (un .u8) (.slice Ap0 p0.length cp0) p0 :: rs) (List.forall_mem_cons.2 ⟨hv_p0, fun r hr => hr⟩)) ?_
    rintro _ _ ⟨rfl, rfl⟩
    obtain ⟨o1, hl1, h⟩ := bnd h
    refine cs_loopS [0, 8, 19, 20, 21, 22, 23, 24, 25, 26, 27, 28, 29, 30, 31] (fun m L s r => ∃ (x1 : (List Nat)) (x2 : (List (List Nat))) (A1 : Option Addr) (m1 : Nat) (c1 : Nat) (A2 : Option Addr) (m2 : Nat) (c2 : Nat), lf_ref06_Cut_l0 K p1 m x1 x2 = some o1 ∧ [(0, (.slice A1 m1 c1)), (8, (.slice A2 m2 c2))] = L ∧ Row (Rep.slice (un .u8)) 22 (.slice A2 m2 c2) x2 :: sps = s ∧ Rd (un .u8) (.slice A1 m1 c1) x1 :: rs = r) [(0, (.slice Ap0 p0.length cp0)), (8, (.slice none 0 0))] (⟨rfl, rfl, trivial⟩) (⟨p0, ([] : List (List Nat)), _, _, _, _, _, _, hl1, rfl, rfl, rfl⟩) ?_
    rintro k1 f1 _ _ _ ⟨x1, x2, A1, m1, c1, A2, m2, c2, hl1, rfl, rfl, rfl⟩
    rcases k1 with _ | k1
    · exact absurd hl1 (by rw [lf_ref06_Cut_l0.eq_1]; exact nofun)
    rw [lf_ref06_Cut_l0.eq_2] at hl1
    refine cs_en (en_len (.head _)) ?_
    rintro _ _ ⟨rfl, rfl, rfl⟩
    refine cs_en (en_rowLen (.head _)) ?_
    rintro _ _ ⟨rfl, rfl, rfl⟩
    refine cs_seq ?_
    refine cs_seq ?_
    refine cs_seq_region [0, 1, 2, 3] rfl ?_
    refine c_move rfl rfl rfl rfl (v := (.slice A1 x1.length c1)) rfl ?_
    refine l_len (m := x1.length) rfl rfl rfl rfl Tryz.underlying22 rfl ?_
    refine c_move rfl rfl rfl rfl (v := (.int .i64 p1)) rfl ?_
    refine c_gtr (p := ((x1.length : Nat) : Int)) (q := p1) rfl rfl rfl rfl rfl rfl ?_
    refine can_nil ?_
    refine ps_then ?_
    refine cs_condL (b := (decide (((x1.length : Nat) : Int) > p1))) rfl hl1 (fun hc2 hl1 => ?_) (fun hc2 hl1 => ?_)
    · refine cs_skip ?_
      refine ps_then ?_
      refine cs_block ?_
      refine cs_seq ?_
      refine cs_seq_region [0, 1, 2, 3, 4, 5, 6] rfl ?_
      refine c_move rfl rfl rfl rfl (v := (.slice A2 x2.length c2)) rfl ?_
      refine c_move rfl rfl rfl rfl (v := (.slice A1 x1.length c1)) rfl ?_
      refine c_move rfl rfl rfl rfl (v := (.int .i64 p1)) rfl ?_
      obtain ⟨y3, hy2, hl1⟩ := bnd hl1
      refine l_slice (k := .i64) (k' := .i64) (xs := x1) (p := (0 : Int)) (q := p1) rfl rfl rfl rfl Tryz.underlying22 Tryz.sizeOf5 rfl (.head _) rfl rfl (.inl ⟨rfl, rfl⟩) (.inr rfl) hy2 (fun A3 c3 => ?_)
      refine c_lit (cs := [(.slice A3 y3.length c3)]) rfl rfl rfl rfl Tryz.underlying25 Tryz.sizeOf22 Tryz.zeroValue22 rfl rfl rfl rfl rfl (fun _ => Or.inl rfl) (fun g1 => ?_)
      obtain ⟨y4, hy3, hl1⟩ := bnd hl1
      refine l_append1 (dr := (Rep.slice (un .u8))) (xs := x2) (ys := [y3]) rfl rfl rfl rfl sty_25 rfl rfl rfl Rem.here Foc.here rfl (fun hh hr => (Reps.nil (Rep.slice (un .u8)) _).snoc (x := y3) (c := [(.slice A3 y3.length c3)]) ⟨_, rfl, hr _ (.head _)⟩) hy3 (fun _ => Or.inl rfl) (fun v1 => ?_)
      refine can_en (en_rowShape (xs := y4) (.head _)) ?_
      rintro _ _ ⟨rfl, rfl, A4, c4, rfl, -, -, -⟩
      refine c_assign rfl rfl rfl rfl (v := (.slice A4 y4.length c4)) rfl ?_
      refine can_nil ?_
      refine ps_then ?_
      refine cs_seq_region [0, 1, 2, 3] rfl ?_
      refine c_move rfl rfl rfl rfl (v := (.slice A1 x1.length c1)) rfl ?_
      refine c_move rfl rfl rfl rfl (v := (.int .i64 p1)) rfl ?_
      obtain ⟨y5, hy4, hl1⟩ := bnd hl1
      refine l_slice (k := .i64) (k' := .i64) (xs := x1) (p := p1) (q := ((x1.length : Nat) : Int)) rfl rfl rfl rfl Tryz.underlying22 Tryz.sizeOf5 rfl (.tail _ (.head _)) rfl rfl (.inr rfl) (.inl ⟨rfl, rfl⟩) hy4 (fun A5 c5 => ?_)
      refine c_assign rfl rfl rfl rfl (v := (.slice A5 y5.length c5)) rfl ?_
      refine can_nil ?_
      refine ps_block_normal ?_
      refine ps_en (en_keep (Rd (un .u8) (.slice A5 y5.length c5) y5 :: rs) (List.forall_mem_cons.2 ⟨(.head _), fun r hr => (.tail _ (.tail _ (.tail _ hr)))⟩)) ?_
      rintro _ _ ⟨rfl, rfl⟩
      refine ps_roundS [(0, (.slice A5 y5.length c5)), (8, (.slice A4 y4.length c4))] ⟨rfl, rfl, trivial⟩ xA k1 (Nat.lt_succ_self _) (⟨y5, y4, _, _, _, _, _, _, hl1, rfl, rfl, rfl⟩) (.mk .refl .refl)
    · refine cs_exit ?_
      refine ps_then_exit ?_
      refine ps_then_exit ?_
      obtain rfl := Option.some.inj hl1
      replace h := un2_ h
      obtain ⟨z1, rfl⟩ : ∃ z, z = x1 := ⟨_, rfl⟩
      obtain ⟨z2, rfl⟩ : ∃ z, z = x2 := ⟨_, rfl⟩
      refine ps_block_here ?_
      refine ps_then ?_
      refine cs_seq ?_
      refine cs_seq ?_
      refine cs_seq_region [0, 1, 2] rfl ?_
      refine c_move rfl rfl rfl rfl (v := (.slice A1 z1.length c1)) rfl ?_
      refine l_len (m := z1.length) rfl rfl rfl rfl Tryz.underlying22 rfl ?_
      refine c_gtr (p := ((z1.length : Nat) : Int)) (q := (0 : Int)) rfl rfl rfl rfl rfl rfl ?_
      refine can_nil ?_
      refine ps_then ?_
      refine cs_condL (b := (decide (((z1.length : Nat) : Int) > (0 : Int)))) rfl h (fun hc3 h => ?_) (fun hc3 h => ?_)
      · refine cs_seq_region [0, 1, 2, 3, 4] rfl ?_
        refine c_move rfl rfl rfl rfl (v := (.slice A2 z2.length c2)) rfl ?_
        refine c_move rfl rfl rfl rfl (v := (.slice A1 z1.length c1)) rfl ?_
        refine c_lit (cs := [(.slice A1 z1.length c1)]) rfl rfl rfl rfl Tryz.underlying25 Tryz.sizeOf22 Tryz.zeroValue22 rfl rfl rfl rfl rfl (fun _ => Or.inl rfl) (fun g2 => ?_)
        obtain ⟨y6, hy5, h⟩ := bnd h
        refine l_append1 (dr := (Rep.slice (un .u8))) (xs := z2) (ys := [z1]) rfl rfl rfl rfl sty_25 rfl rfl rfl Rem.here Foc.here rfl (fun hh hr => (Reps.nil (Rep.slice (un .u8)) _).snoc (x := z1) (c := [(.slice A1 z1.length c1)]) ⟨_, rfl, hr _ (.head _)⟩) hy5 (fun _ => Or.inl rfl) (fun v2 => ?_)
        refine can_en (en_rowShape (xs := y6) (.head _)) ?_
        rintro _ _ ⟨rfl, rfl, A6, c6, rfl, -, -, -⟩
        refine c_assign rfl rfl rfl rfl (v := (.slice A6 y6.length c6)) rfl ?_
        refine can_nil ?_
        refine ps_then ?_
        refine cs_seq ?_
        refine cs_seq_region [0, 1, 2] rfl ?_
        refine c_move rfl rfl rfl rfl (v := (.slice A6 y6.length c6)) rfl ?_
        refine c_assign rfl rfl rfl rfl (v := (.slice A6 y6.length c6)) rfl ?_
        refine c_assign rfl rfl rfl rfl (v := (.int .i64 (0 : Int))) rfl ?_
        refine can_nil ?_
        refine ps_then ?_
        refine cs_ret ?_
        have hz0 := Option.some.inj h
        obtain ⟨rfl, hz1⟩ := prod2 hz0
        obtain rfl := hz1
        refine ps_en (en_keep (rs) (fun r hr => (.tail _ hr))) ?_
        rintro _ _ ⟨rfl, rfl⟩
        apply ps_end2 rfl Tryz.results42 rfl rfl
        · exact ⟨_, rfl, rfl, rfl⟩
        · exact .mk .refl .refl
      · refine cs_skip ?_
        refine ps_then ?_
        refine cs_seq ?_
        refine cs_seq_region [0, 1, 2] rfl ?_
        refine c_move rfl rfl rfl rfl (v := (.slice A2 z2.length c2)) rfl ?_
        refine c_assign rfl rfl rfl rfl (v := (.slice A2 z2.length c2)) rfl ?_
        refine c_assign rfl rfl rfl rfl (v := (.int .i64 (0 : Int))) rfl ?_
        refine can_nil ?_
        refine ps_then ?_
        refine cs_ret ?_
        have hz0 := Option.some.inj h
        obtain ⟨rfl, hz1⟩ := prod2 hz0
        obtain rfl := hz1
        refine ps_en (en_keep (rs) (fun r hr => (.tail _ hr))) ?_
        rintro _ _ ⟨rfl, rfl⟩
        apply ps_end2 rfl Tryz.results42 rfl rfl
        · exact ⟨_, rfl, rfl, rfl⟩
        · exact .mk .refl .refl
def lf_ref06_LeafText (K : Nat) (p0 : Int) (p1 : (List Nat)) : Option (List Nat) := ((lf_ref06_Eight K p0).bind (fun y1 => ((lf_ref06_join K ([0] : List Nat) y1 p1).bind (fun y2 => (some y2)))))
theorem lf_ref06_LeafText_ok (K : Nat) (p0 : Int) (p1 : (List Nat)) (vp1 : Value) (w0 : World) (sps : List Sp) (rs : List Fa) (hv_p1 : Rd (un .u8) vp1 p1 ∈ rs) {r0 : (List Nat)} (h : lf_ref06_LeafText K p0 p1 = some r0) : FnOk Tryz.prog 162 #[.int .i64 p0, vp1] w0 sps rs (fun v s q => ∃ (qr0 : Value), v = qr0 ∧ Row (un .u8) 5 qr0 r0 :: sps = s ∧ rs = q) := by
  unfold lf_ref06_LeafText at h
  refine fn_en (en_shape hv_p1) ?_
  rintro _ _ ⟨rfl, rfl, Ap1, cp1, rfl, -, -, -⟩
  refine fn_enter Tryz.func162 rfl Tryz.ntmps162 rfl ?_
  refine cs_seq ?_
  refine cs_seq_region [0] rfl ?_
  refine c_assign rfl rfl rfl rfl (v := (.slice none 0 0)) rfl ?_
  refine can_nil ?_
  refine ps_then ?_
  refine cs_seq ?_
  refine cs_seq_region [0, 1, 2, 3, 4, 5] rfl ?_
  refine c_lit (cs := [(.int .u8 ((0 : Nat) : Int))]) rfl rfl rfl rfl Tryz.underlying22 Tryz.sizeOf5 Tryz.zeroValue5 rfl rfl rfl rfl rfl (fun _ => Or.inl rfl) (fun g1 => ?_)
  refine can_en (en_litRow (m := 1) (dr := (un .u8)) (xs := ([0] : List Nat)) Rem.here (fun hh hr => un_reps _) rfl rfl) ?_
  rintro _ _ ⟨rfl, rfl⟩
  refine c_move rfl rfl rfl rfl (v := (.int .i64 p0)) rfl ?_
  obtain ⟨y1, hy1, h⟩ := bnd h
  refine c_call rfl rfl rfl rfl Tryz.call225 (lf_ref06_Eight_ok K p0  w0 _ _  hy1) rfl (fun _ _ _ _ => Or.inl rfl) ?_
  rintro _ _ _ ⟨v1, rfl, rfl, rfl⟩
  refine can_en (en_rowShape (xs := y1) (.head _)) ?_
  rintro _ _ ⟨rfl, rfl, A1, c1, rfl, -, -, -⟩
  refine c_move rfl rfl rfl rfl (v := (.slice Ap1 p1.length cp1)) rfl ?_
  refine can_en (en_give (Rem.there Rem.here)) ?_
  rintro _ _ ⟨rfl, rfl⟩
  refine can_en (en_give Rem.here) ?_
  rintro _ _ ⟨rfl, rfl⟩
  obtain ⟨y2, hy2, h⟩ := bnd h
  refine c_call rfl rfl rfl rfl Tryz.call224 (lf_ref06_join_ok K ([0] : List Nat) y1 p1 (.slice (some ⟨g1, 0, none⟩) 1 1) (.slice A1 y1.length c1) (.slice Ap1 p1.length cp1) w0 _ _ (.tail _ (.head _)) (.head _) (.tail _ (.tail _ hv_p1)) hy2) rfl (fun _ _ _ _ => Or.inl rfl) ?_
  rintro _ _ _ ⟨v2, rfl, rfl, rfl⟩
  refine can_en (en_rowShape (xs := y2) (.head _)) ?_
  rintro _ _ ⟨rfl, rfl, A2, c2, rfl, -, -, -⟩
  refine c_assign rfl rfl rfl rfl (v := (.slice A2 y2.length c2)) rfl ?_
  refine can_nil ?_
  refine ps_then ?_
  refine cs_ret ?_
  obtain rfl := Option.some.inj h
  refine ps_en (en_keep (rs) (fun r hr => (.tail _ (.tail _ hr)))) ?_
  rintro _ _ ⟨rfl, rfl⟩
  apply ps_end1 rfl Tryz.results162 rfl
  · exact ⟨_, rfl, rfl, rfl⟩
  · exact .mk .refl .refl
def lf_ref06_NodeText (K : Nat) (p0 : (List Nat)) (p1 : (List Nat)) : Option (List Nat) := ((lf_ref06_join K ([1] : List Nat) p0 p1).bind (fun y1 => (some y1)))
theorem lf_ref06_NodeText_ok (K : Nat) (p0 : (List Nat)) (p1 : (List Nat)) (vp0 : Value) (vp1 : Value) (w0 : World) (sps : List Sp) (rs : List Fa) (hv_p0 : Rd (un .u8) vp0 p0 ∈ rs) (hv_p1 : Rd (un .u8) vp1 p1 ∈ rs) {r0 : (List Nat)} (h : lf_ref06_NodeText K p0 p1 = some r0) : FnOk Tryz.prog 226 #[vp0, vp1] w0 sps rs (fun v s q => ∃ (qr0 : Value), v = qr0 ∧ Row (un .u8) 5 qr0 r0 :: sps = s ∧ rs = q) := by
  unfold lf_ref06_NodeText at h
  refine fn_en (en_shape hv_p0) ?_
  rintro _ _ ⟨rfl, rfl, Ap0, cp0, rfl, -, -, -⟩
  refine fn_en (en_shape hv_p1) ?_
  rintro _ _ ⟨rfl, rfl, Ap1, cp1, rfl, -, -, -⟩
  refine fn_enter Tryz.func226 rfl Tryz.ntmps226 rfl ?_
  refine cs_seq ?_
  refine cs_seq_region [0] rfl ?_
  refine c_assign rfl rfl rfl rfl (v := (.slice none 0 0)) rfl ?_
  refine can_nil ?_
  refine ps_then ?_
  refine cs_seq ?_
  refine cs_seq_region [0, 1, 2, 3, 4] rfl ?_
  refine c_lit (cs := [(.int .u8 ((1 : Nat) : Int))]) rfl rfl rfl rfl Tryz.underlying22 Tryz.sizeOf5 Tryz.zeroValue5 rfl rfl rfl rfl rfl (fun _ => Or.inl rfl) (fun g1 => ?_)
  refine can_en (en_litRow (m := 1) (dr := (un .u8)) (xs := ([1] : List Nat)) Rem.here (fun hh hr => un_reps _) rfl rfl) ?_
  rintro _ _ ⟨rfl, rfl⟩
  refine c_move rfl rfl rfl rfl (v := (.slice Ap0 p0.length cp0)) rfl ?_
  refine c_move rfl rfl rfl rfl (v := (.slice Ap1 p1.length cp1)) rfl ?_
  refine can_en (en_give Rem.here) ?_
  rintro _ _ ⟨rfl, rfl⟩
  obtain ⟨y1, hy1, h⟩ := bnd h
  refine c_call rfl rfl rfl rfl Tryz.call224 (lf_ref06_join_ok K ([1] : List Nat) p0 p1 (.slice (some ⟨g1, 0, none⟩) 1 1) (.slice Ap0 p0.length cp0) (.slice Ap1 p1.length cp1) w0 _ _ (.head _) (.tail _ hv_p0) (.tail _ hv_p1) hy1) rfl (fun _ _ _ _ => Or.inl rfl) ?_
  rintro _ _ _ ⟨v1, rfl, rfl, rfl⟩
  refine can_en (en_rowShape (xs := y1) (.head _)) ?_
  rintro _ _ ⟨rfl, rfl, A1, c1, rfl, -, -, -⟩
  refine c_assign rfl rfl rfl rfl (v := (.slice A1 y1.length c1)) rfl ?_
  refine can_nil ?_
  refine ps_then ?_
  refine cs_ret ?_
  obtain rfl := Option.some.inj h
  refine ps_en (en_keep (rs) (fun r hr => (.tail _ hr))) ?_
  rintro _ _ ⟨rfl, rfl⟩
  apply ps_end1 rfl Tryz.results226 rfl
  · exact ⟨_, rfl, rfl, rfl⟩
  · exact .mk .refl .refl
def lf_ref06_Leaf (K : Nat) (p0 : Int) (p1 : (List Nat)) : Option ((List Nat) × Int) := (bif (decide (p0 < (0 : Int))) then (some (([] : List Nat), (1 : Int))) else (bif (decide (((p1.length : Nat) : Int) > (1024 : Int))) then (some (([] : List Nat), (2 : Int))) else ((lf_ref06_LeafText K p0 p1).bind (fun y1 => ((lf_ref02_Hash256 K y1).bind (fun y2 => (some (y2, (0 : Int)))))))))
theorem lf_ref06_Leaf_ok (K : Nat) (p0 : Int) (p1 : (List Nat)) (vp1 : Value) (w0 : World) (sps : List Sp) (rs : List Fa) (hv_p1 : Rd (un .u8) vp1 p1 ∈ rs) {r0 : (List Nat)} {r1 : Int} (h : lf_ref06_Leaf K p0 p1 = some (r0, r1)) : FnOk Tryz.prog 94 #[.int .i64 p0, vp1] w0 sps rs (fun v s q => ∃ (qr0 : Value), v = .tuple #[qr0, .int .i64 r1] ∧ Row (un .u8) 5 qr0 r0 :: sps = s ∧ rs = q) := by
  unfold lf_ref06_Leaf at h
  refine fn_en (en_shape hv_p1) ?_
  rintro _ _ ⟨rfl, rfl, Ap1, cp1, rfl, -, -, -⟩
  refine fn_enter Tryz.func94 rfl Tryz.ntmps94 rfl ?_
  refine cs_seq ?_
  refine cs_seq_region [0, 1] rfl ?_
  refine c_assign rfl rfl rfl rfl (v := (.slice none 0 0)) rfl ?_
  refine c_assign rfl rfl rfl rfl (v := (.int .i64 (0 : Int))) rfl ?_
  refine can_nil ?_
  refine ps_then ?_
  refine cs_seq ?_
  refine cs_seq ?_
  refine cs_seq_region [0, 1] rfl ?_
  refine c_move rfl rfl rfl rfl (v := (.int .i64 p0)) rfl ?_
  refine c_lss (p := p0) (q := (0 : Int)) rfl rfl rfl rfl rfl rfl ?_
  refine can_nil ?_
  refine ps_then ?_
  refine cs_condL (b := (decide (p0 < (0 : Int)))) rfl h (fun hc1 h => ?_) (fun hc1 h => ?_)
  · refine cs_seq ?_
    refine cs_seq_region [0, 1] rfl ?_
    refine c_assign rfl rfl rfl rfl (v := (.slice none 0 0)) rfl ?_
    refine c_assign rfl rfl rfl rfl (v := (.int .i64 (1 : Int))) rfl ?_
    refine can_nil ?_
    refine ps_then ?_
    refine cs_ret ?_
    refine ps_then_ret ?_
    refine ps_en (en_nilRow (un .u8) 5) ?_
    rintro _ _ ⟨rfl, rfl⟩
    have hz0 := Option.some.inj h
    obtain ⟨rfl, hz1⟩ := prod2 hz0
    obtain rfl := hz1
    refine ps_en (en_keep (rs) (fun r hr => hr)) ?_
    rintro _ _ ⟨rfl, rfl⟩
    apply ps_end2 rfl Tryz.results94 rfl rfl
    · exact ⟨_, rfl, rfl, rfl⟩
    · exact .mk .refl .refl
  · refine cs_skip ?_
    refine ps_then ?_
    refine cs_seq ?_
    refine cs_seq ?_
    refine cs_seq_region [0, 1, 2] rfl ?_
    refine c_move rfl rfl rfl rfl (v := (.slice Ap1 p1.length cp1)) rfl ?_
    refine l_len (m := p1.length) rfl rfl rfl rfl Tryz.underlying22 rfl ?_
    refine c_gtr (p := ((p1.length : Nat) : Int)) (q := (1024 : Int)) rfl rfl rfl rfl rfl rfl ?_
    refine can_nil ?_
    refine ps_then ?_
    refine cs_condL (b := (decide (((p1.length : Nat) : Int) > (1024 : Int)))) rfl h (fun hc2 h => ?_) (fun hc2 h => ?_)
    · refine cs_seq ?_
      refine cs_seq_region [0, 1] rfl ?_
      refine c_assign rfl rfl rfl rfl (v := (.slice none 0 0)) rfl ?_
      refine c_assign rfl rfl rfl rfl (v := (.int .i64 (2 : Int))) rfl ?_
      refine can_nil ?_
      refine ps_then ?_
      refine cs_ret ?_
      refine ps_then_ret ?_
      refine ps_en (en_nilRow (un .u8) 5) ?_
      rintro _ _ ⟨rfl, rfl⟩
      have hz0 := Option.some.inj h
      obtain ⟨rfl, hz1⟩ := prod2 hz0
      obtain rfl := hz1
      refine ps_en (en_keep (rs) (fun r hr => hr)) ?_
      rintro _ _ ⟨rfl, rfl⟩
      apply ps_end2 rfl Tryz.results94 rfl rfl
      · exact ⟨_, rfl, rfl, rfl⟩
      · exact .mk .refl .refl
    · refine cs_skip ?_
      refine ps_then ?_
      refine cs_seq ?_
      refine cs_seq_region [0, 1, 2, 3, 4, 5] rfl ?_
      refine c_move rfl rfl rfl rfl (v := (.int .i64 p0)) rfl ?_
      refine c_move rfl rfl rfl rfl (v := (.slice Ap1 p1.length cp1)) rfl ?_
      obtain ⟨y1, hy1, h⟩ := bnd h
      refine c_call rfl rfl rfl rfl Tryz.call162 (lf_ref06_LeafText_ok K p0 p1 (.slice Ap1 p1.length cp1) w0 _ _ hv_p1 hy1) rfl (fun _ _ _ _ => Or.inl rfl) ?_
      rintro _ _ _ ⟨v1, rfl, rfl, rfl⟩
      refine can_en (en_rowShape (xs := y1) (.head _)) ?_
      rintro _ _ ⟨rfl, rfl, A1, c1, rfl, -, -, -⟩
      refine can_en (en_give Rem.here) ?_
      rintro _ _ ⟨rfl, rfl⟩
      obtain ⟨y2, hy2, h⟩ := bnd h
      refine c_call rfl rfl rfl rfl Tryz.call146 (lf_ref02_Hash256_ok K y1 (.slice A1 y1.length c1) w0 _ _ (.head _) hy2) rfl (fun _ _ _ _ => Or.inl rfl) ?_
      rintro _ _ _ ⟨v2, rfl, rfl, rfl⟩
      refine can_en (en_rowShape (xs := y2) (.head _)) ?_
      rintro _ _ ⟨rfl, rfl, A2, c2, rfl, -, -, -⟩
      refine c_assign rfl rfl rfl rfl (v := (.slice A2 y2.length c2)) rfl ?_
      refine c_assign rfl rfl rfl rfl (v := (.int .i64 (0 : Int))) rfl ?_
      refine can_nil ?_
      refine ps_then ?_
      refine cs_ret ?_
      have hz0 := Option.some.inj h
      obtain ⟨rfl, hz1⟩ := prod2 hz0
      obtain rfl := hz1
      refine ps_en (en_keep (rs) (fun r hr => (.tail _ hr))) ?_
      rintro _ _ ⟨rfl, rfl⟩
      apply ps_end2 rfl Tryz.results94 rfl rfl
      · exact ⟨_, rfl, rfl, rfl⟩
      · exact .mk .refl .refl
def lf_ref06_Half_l0 (K : Nat) (p0 : Int) : Nat → Int → Option Int
  | 0, _ => none
  | k + 1, x1 => (bif (decide ((IntKind.wrap .i64 (x1 * (2 : Int))) < p0)) then (lf_ref06_Half_l0 K p0 k (IntKind.wrap .i64 (x1 * (2 : Int)))) else (some x1))
def lf_ref06_Half (K : Nat) (p0 : Int) : Option Int := ((lf_ref06_Half_l0 K p0 K (1 : Int)).bind (fun z1 => (some z1)))
theorem lf_ref06_Half_ok (K : Nat) (p0 : Int)  (w0 : World) (sps : List Sp) (rs : List Fa)  {r0 : Int} (h : lf_ref06_Half K p0 = some r0) : FnOk Tryz.prog 163 #[.int .i64 p0] w0 sps rs (fun v s q => v = .int .i64 r0 ∧ sps = s ∧ rs = q) := by
  unfold lf_ref06_Half at h
  refine fn_enter Tryz.func163 rfl Tryz.ntmps163 rfl ?_
  refine cs_seq ?_
  refine cs_seq_region [0] rfl ?_
  refine c_assign rfl rfl rfl rfl (v := (.int .i64 (0 : Int))) rfl ?_
  refine can_nil ?_
  refine ps_then ?_
  refine cs_seq ?_
  refine cs_seq_region [0] rfl ?_
  refine c_assign rfl rfl rfl rfl (v := (.int .i64 (1 : Int))) rfl ?_
  refine can_nil ?_
  refine ps_then ?_
  refine cs_seq ?_
  refine cs_block ?_
  obtain ⟨o1, hl1, h⟩ := bnd h
  refine cs_loopS [3, 4, 5, 6, 7, 8, 9] (fun m L s r => ∃ (x1 : Int), lf_ref06_Half_l0 K p0 m x1 = some o1 ∧ [(3, (.int .i64 x1))] = L ∧ sps = s ∧ rs = r) [(3, (.int .i64 (1 : Int)))] (⟨rfl, trivial⟩) (⟨(1 : Int), hl1, rfl, rfl, rfl⟩) ?_
  rintro k1 f1 _ _ _ ⟨x1, hl1, rfl, rfl, rfl⟩
  rcases k1 with _ | k1
  · exact absurd hl1 (by rw [lf_ref06_Half_l0.eq_1]; exact nofun)
  rw [lf_ref06_Half_l0.eq_2] at hl1
  refine cs_seq ?_
  refine cs_seq ?_
  refine cs_seq_region [0, 1, 2, 3] rfl ?_
  refine c_move rfl rfl rfl rfl (v := (.int .i64 x1)) rfl ?_
  refine c_mul (p := x1) (q := (2 : Int)) rfl rfl rfl rfl rfl rfl ?_
  refine c_move rfl rfl rfl rfl (v := (.int .i64 p0)) rfl ?_
  refine c_lss (p := (IntKind.wrap .i64 (x1 * (2 : Int)))) (q := p0) rfl rfl rfl rfl rfl rfl ?_
  refine can_nil ?_
  refine ps_then ?_
  refine cs_condL (b := (decide ((IntKind.wrap .i64 (x1 * (2 : Int))) < p0))) rfl hl1 (fun hc1 hl1 => ?_) (fun hc1 hl1 => ?_)
  · refine cs_skip ?_
    refine ps_then ?_
    refine cs_block ?_
    refine cs_seq_region [0, 1, 2] rfl ?_
    refine c_move rfl rfl rfl rfl (v := (.int .i64 x1)) rfl ?_
    refine c_mul (p := x1) (q := (2 : Int)) rfl rfl rfl rfl rfl rfl ?_
    refine c_assign rfl rfl rfl rfl (v := (.int .i64 (IntKind.wrap .i64 (x1 * (2 : Int))))) rfl ?_
    refine can_nil ?_
    refine ps_block_normal ?_
    refine ps_en (en_keep (rs) (fun r hr => hr)) ?_
    rintro _ _ ⟨rfl, rfl⟩
    refine ps_roundS [(3, (.int .i64 (IntKind.wrap .i64 (x1 * (2 : Int)))))] ⟨rfl, trivial⟩ xA k1 (Nat.lt_succ_self _) (⟨(IntKind.wrap .i64 (x1 * (2 : Int))), hl1, rfl, rfl, rfl⟩) (.mk .refl .refl)
  · refine cs_exit ?_
    refine ps_then_exit ?_
    refine ps_then_exit ?_
    obtain rfl := Option.some.inj hl1
    obtain ⟨z1, rfl⟩ : ∃ z, z = x1 := ⟨_, rfl⟩
    refine ps_block_here ?_
    refine ps_then ?_
    refine cs_seq ?_
    refine cs_seq_region [0, 1] rfl ?_
    refine c_move rfl rfl rfl rfl (v := (.int .i64 z1)) rfl ?_
    refine c_assign rfl rfl rfl rfl (v := (.int .i64 z1)) rfl ?_
    refine can_nil ?_
    refine ps_then ?_
    refine cs_ret ?_
    obtain rfl := Option.some.inj h
    refine ps_en (en_keep (rs) (fun r hr => hr)) ?_
    rintro _ _ ⟨rfl, rfl⟩
    apply ps_end1 rfl Tryz.results163 rfl
    · exact ⟨rfl, rfl, rfl⟩
    · exact .mk .refl .refl
def lf_ref06_Top_b (K : Nat) (self : (List (List Nat)) → Option ((List Nat) × (List (List Nat)))) (p0 : (List (List Nat))) : Option ((List Nat) × (List (List Nat))) := (bif (decide (((p0.length : Nat) : Int) = (0 : Int))) then (some (([] : List Nat), ([] : List (List Nat)))) else (bif (decide (((p0.length : Nat) : Int) = (1 : Int))) then ((getO p0 (0 : Int)).bind fun y1 => (some (y1, ([] : List (List Nat))))) else ((lf_ref06_Half K ((p0.length : Nat) : Int)).bind (fun y2 => ((subO p0 (0 : Int) y2).bind fun y3 => ((self y3).bind (fun qy4 => un2 qy4 (fun y4 => fun y5 => ((subO p0 y2 ((p0.length : Nat) : Int)).bind fun y6 => ((self y6).bind (fun qy7 => un2 qy7 (fun y7 => fun y8 => ((lf_ref06_NodeText K y4 y7).bind (fun y9 => ((appO ([] : List (List Nat)) y5).bind fun y10 => ((appO y10 y8).bind fun y11 => ((appO y11 ([y9] : List (List Nat))).bind fun y12 => ((lf_ref02_Hash256 K y9).bind (fun y13 => (some (y13, y12)))))))))))))))))))))
def lf_ref06_Top (K : Nat) : Nat → (List (List Nat)) → Option ((List Nat) × (List (List Nat)))
  | 0, _ => none
  | k + 1, p0 => lf_ref06_Top_b K (lf_ref06_Top K k) p0
theorem lf_ref06_Top_ok (K : Nat) : ∀ (k : Nat) (p0 : (List (List Nat))) (vp0 : Value) (w0 : World) (sps : List Sp) (rs : List Fa) (hv_p0 : Rd (Rep.slice (un .u8)) vp0 p0 ∈ rs) {r0 : (List Nat)} {r1 : (List (List Nat))} (h : lf_ref06_Top K k p0 = some (r0, r1)), FnOk Tryz.prog 164 #[vp0] w0 sps rs (fun v s q => ∃ (qr0 : Value) (qr1 : Value), v = .tuple #[qr0, qr1] ∧ Row (Rep.slice (un .u8)) 22 qr1 r1 :: sps = s ∧ Rd (un .u8) qr0 r0 :: rs = q) := by
  intro k
  induction k with
  | zero => intros; rename_i h; exact absurd h (by rw [lf_ref06_Top.eq_1]; exact nofun)
  | succ k ih =>
    intro p0 vp0 w0 sps rs hv_p0 r0 r1 h
    rw [lf_ref06_Top.eq_2] at h
    unfold lf_ref06_Top_b at h
    refine fn_en (en_shape hv_p0) ?_
    rintro _ _ ⟨rfl, rfl, Ap0, cp0, rfl, -, -, -⟩
    refine fn_enter Tryz.func164 rfl Tryz.ntmps164 rfl ?_
    refine cs_seq ?_
    refine cs_seq_region [0, 1] rfl ?_
    refine c_assign rfl rfl rfl rfl (v := (.slice none 0 0)) rfl ?_
    refine c_assign rfl rfl rfl rfl (v := (.slice none 0 0)) rfl ?_
    refine can_nil ?_
    refine ps_then ?_
    refine cs_seq ?_
    refine cs_seq ?_
    refine cs_seq_region [0, 1, 2] rfl ?_
    refine c_move rfl rfl rfl rfl (v := (.slice Ap0 p0.length cp0)) rfl ?_
    refine l_len (m := p0.length) rfl rfl rfl rfl Tryz.underlying25 rfl ?_
    refine l_eqlI (p := ((p0.length : Nat) : Int)) (q := (0 : Int)) rfl rfl rfl rfl rfl rfl ?_
    refine can_nil ?_
    refine ps_then ?_
    refine cs_condL (b := (decide (((p0.length : Nat) : Int) = (0 : Int)))) rfl h (fun hc1 h => ?_) (fun hc1 h => ?_)
    · refine cs_seq ?_
      refine cs_seq_region [0, 1] rfl ?_
      refine c_assign rfl rfl rfl rfl (v := (.slice none 0 0)) rfl ?_
      refine c_assign rfl rfl rfl rfl (v := (.slice none 0 0)) rfl ?_
      refine can_nil ?_
      refine ps_then ?_
      refine cs_ret ?_
      refine ps_then_ret ?_
      refine ps_en (en_nilRd (un .u8)) ?_
      rintro _ _ ⟨rfl, rfl⟩
      refine ps_en (en_nilRow (Rep.slice (un .u8)) 22) ?_
      rintro _ _ ⟨rfl, rfl⟩
      have hz0 := Option.some.inj h
      obtain ⟨rfl, hz1⟩ := prod2 hz0
      obtain rfl := hz1
      refine ps_en (en_keep (Rd (un .u8) (.slice none 0 0) ([] : List Nat) :: rs) (List.forall_mem_cons.2 ⟨(.head _), fun r hr => (.tail _ hr)⟩)) ?_
      rintro _ _ ⟨rfl, rfl⟩
      apply ps_end2 rfl Tryz.results164 rfl rfl
      · exact ⟨_, _, rfl, rfl, rfl⟩
      · exact .mk .refl .refl
    · refine cs_skip ?_
      refine ps_then ?_
      refine cs_seq ?_
      refine cs_seq ?_
      refine cs_seq_region [0, 1, 2] rfl ?_
      refine c_move rfl rfl rfl rfl (v := (.slice Ap0 p0.length cp0)) rfl ?_
      refine l_len (m := p0.length) rfl rfl rfl rfl Tryz.underlying25 rfl ?_
      refine l_eqlI (p := ((p0.length : Nat) : Int)) (q := (1 : Int)) rfl rfl rfl rfl rfl rfl ?_
      refine can_nil ?_
      refine ps_then ?_
      refine cs_condL (b := (decide (((p0.length : Nat) : Int) = (1 : Int)))) rfl h (fun hc2 h => ?_) (fun hc2 h => ?_)
      · refine cs_seq ?_
        refine cs_seq_region [0, 1, 2, 3, 4] rfl ?_
        refine c_move rfl rfl rfl rfl (v := (.slice Ap0 p0.length cp0)) rfl ?_
        obtain ⟨y1, hy1, h⟩ := bnd h
        refine can_en (en_ptr hv_p0 (by have := getO_lt hy1; omega)) ?_
        rintro _ _ ⟨rfl, rfl, g1, o1, rfl⟩
        refine can_en (open_Rep_slice_un_u8 hv_p0 hy1) ?_
        rintro _ _ ⟨A1, c1, rfl, rfl⟩
        refine c_indexAddrS (p := (0 : Int)) rfl rfl rfl rfl Tryz.underlying25 Tryz.sizeOf22 rfl rfl (by have := getO_lt hy1; omega) ?_
        refine c_load1 (v := (.slice A1 y1.length c1)) rfl rfl rfl Tryz.isAgg22 rfl (ldSC (off := o1 + ((0 : Int) : Int).toNat * 1) (k := 0) rfl rfl (.head _) (sub1 rfl)) ?_
        refine c_assign rfl rfl rfl rfl (v := (.slice A1 y1.length c1)) rfl ?_
        refine c_assign rfl rfl rfl rfl (v := (.slice none 0 0)) rfl ?_
        refine can_nil ?_
        refine ps_then ?_
        refine cs_ret ?_
        refine ps_then_ret ?_
        refine ps_en (en_nilRow (Rep.slice (un .u8)) 22) ?_
        rintro _ _ ⟨rfl, rfl⟩
        have hz0 := Option.some.inj h
        obtain ⟨rfl, hz1⟩ := prod2 hz0
        obtain rfl := hz1
        refine ps_en (en_keep (Rd (un .u8) (.slice A1 y1.length c1) y1 :: rs) (List.forall_mem_cons.2 ⟨(.tail _ (.head _)), fun r hr => (.tail _ (.tail _ hr))⟩)) ?_
        rintro _ _ ⟨rfl, rfl⟩
        apply ps_end2 rfl Tryz.results164 rfl rfl
        · exact ⟨_, _, rfl, rfl, rfl⟩
        · exact .mk .refl .refl
      · refine cs_skip ?_
        refine ps_then ?_
        refine cs_seq ?_
        refine cs_seq_region [0, 1, 2, 3] rfl ?_
        refine c_move rfl rfl rfl rfl (v := (.slice Ap0 p0.length cp0)) rfl ?_
        refine l_len (m := p0.length) rfl rfl rfl rfl Tryz.underlying25 rfl ?_
        obtain ⟨y2, hy2, h⟩ := bnd h
        refine c_call rfl rfl rfl rfl Tryz.call163 (lf_ref06_Half_ok K ((p0.length : Nat) : Int)  w0 _ _  hy2) rfl (fun _ _ _ _ => Or.inl rfl) ?_
        rintro _ _ _ ⟨rfl, rfl, rfl⟩
        refine c_assign rfl rfl rfl rfl (v := (.int .i64 y2)) rfl ?_
        refine can_nil ?_
        refine ps_then ?_
        refine cs_seq ?_
        refine cs_seq_region [0, 1, 2, 3, 4, 5, 6, 7, 8] rfl ?_
        refine c_move rfl rfl rfl rfl (v := (.slice Ap0 p0.length cp0)) rfl ?_
        refine c_move rfl rfl rfl rfl (v := (.int .i64 y2)) rfl ?_
        obtain ⟨y3, hy3, h⟩ := bnd h
        refine l_slice (k := .i64) (k' := .i64) (xs := p0) (p := (0 : Int)) (q := y2) rfl rfl rfl rfl Tryz.underlying25 Tryz.sizeOf22 rfl hv_p0 rfl rfl (.inl ⟨rfl, rfl⟩) (.inr rfl) hy3 (fun A2 c2 => ?_)
        obtain ⟨⟨y4, y5⟩, hy4, h⟩ := bnd h
        replace h := un2_ h
        refine c_call rfl rfl rfl rfl Tryz.call164 (ih y3 (.slice A2 y3.length c2) w0 _ _ (.head _) hy4) rfl (fun _ _ _ _ => Or.inl rfl) ?_
        rintro _ _ _ ⟨v1, v2, rfl, rfl, rfl⟩
        refine can_en (en_shape (xs := y4) (.head _)) ?_
        rintro _ _ ⟨rfl, rfl, A3, c3, rfl, -, -, -⟩
        refine can_en (en_rowShape (xs := y5) (.head _)) ?_
        rintro _ _ ⟨rfl, rfl, A4, c4, rfl, -, -, -⟩
        refine c_move rfl rfl rfl rfl (v := (.tuple #[(.slice A3 y4.length c3), (.slice A4 y5.length c4)])) rfl ?_
        refine c_extract rfl rfl rfl rfl rfl rfl ?_
        refine c_extract rfl rfl rfl rfl rfl rfl ?_
        refine c_assign rfl rfl rfl rfl (v := (.slice A3 y4.length c3)) rfl ?_
        refine c_assign rfl rfl rfl rfl (v := (.slice A4 y5.length c4)) rfl ?_
        refine can_nil ?_
        refine ps_then ?_
        refine cs_seq ?_
        refine cs_seq_region [0, 1, 2, 3, 4, 5, 6, 7, 8] rfl ?_
        refine c_move rfl rfl rfl rfl (v := (.slice Ap0 p0.length cp0)) rfl ?_
        refine c_move rfl rfl rfl rfl (v := (.int .i64 y2)) rfl ?_
        obtain ⟨y6, hy5, h⟩ := bnd h
        refine l_slice (k := .i64) (k' := .i64) (xs := p0) (p := y2) (q := ((p0.length : Nat) : Int)) rfl rfl rfl rfl Tryz.underlying25 Tryz.sizeOf22 rfl (.tail _ (.tail _ hv_p0)) rfl rfl (.inr rfl) (.inl ⟨rfl, rfl⟩) hy5 (fun A5 c5 => ?_)
        obtain ⟨⟨y7, y8⟩, hy6, h⟩ := bnd h
        replace h := un2_ h
        refine c_call rfl rfl rfl rfl Tryz.call164 (ih y6 (.slice A5 y6.length c5) w0 _ _ (.head _) hy6) rfl (fun _ _ _ _ => Or.inl rfl) ?_
        rintro _ _ _ ⟨v3, v4, rfl, rfl, rfl⟩
        refine can_en (en_shape (xs := y7) (.head _)) ?_
        rintro _ _ ⟨rfl, rfl, A6, c6, rfl, -, -, -⟩
        refine can_en (en_rowShape (xs := y8) (.head _)) ?_
        rintro _ _ ⟨rfl, rfl, A7, c7, rfl, -, -, -⟩
        refine c_move rfl rfl rfl rfl (v := (.tuple #[(.slice A6 y7.length c6), (.slice A7 y8.length c7)])) rfl ?_
        refine c_extract rfl rfl rfl rfl rfl rfl ?_
        refine c_extract rfl rfl rfl rfl rfl rfl ?_
        refine c_assign rfl rfl rfl rfl (v := (.slice A6 y7.length c6)) rfl ?_
        refine c_assign rfl rfl rfl rfl (v := (.slice A7 y8.length c7)) rfl ?_
        refine can_nil ?_
        refine ps_then ?_
        refine cs_seq ?_
        refine cs_seq_region [0, 1, 2, 3] rfl ?_
        refine c_move rfl rfl rfl rfl (v := (.slice A3 y4.length c3)) rfl ?_
        refine c_move rfl rfl rfl rfl (v := (.slice A6 y7.length c6)) rfl ?_
        obtain ⟨y9, hy7, h⟩ := bnd h
        refine c_call rfl rfl rfl rfl Tryz.call226 (lf_ref06_NodeText_ok K y4 y7 (.slice A3 y4.length c3) (.slice A6 y7.length c6) w0 _ _ (.tail _ (.tail _ (.head _))) (.head _) hy7) rfl (fun _ _ _ _ => Or.inl rfl) ?_
        rintro _ _ _ ⟨v5, rfl, rfl, rfl⟩
        refine can_en (en_rowShape (xs := y9) (.head _)) ?_
        rintro _ _ ⟨rfl, rfl, A8, c8, rfl, -, -, -⟩
        refine c_assign rfl rfl rfl rfl (v := (.slice A8 y9.length c8)) rfl ?_
        refine can_nil ?_
        refine ps_then ?_
        refine cs_seq ?_
        refine cs_seq_region [0] rfl ?_
        refine c_assign rfl rfl rfl rfl (v := (.slice none 0 0)) rfl ?_
        refine can_nil ?_
        refine ps_then ?_
        refine cs_seq ?_
        refine cs_seq_region [0, 1, 2, 3, 4, 5, 6, 7, 8] rfl ?_
        refine c_move rfl rfl rfl rfl (v := (.slice none 0 0)) rfl ?_
        refine c_move rfl rfl rfl rfl (v := (.slice A4 y5.length c4)) rfl ?_
        refine can_en (en_nilRow (Rep.slice (un .u8)) 22) ?_
        rintro _ _ ⟨rfl, rfl⟩
        refine can_en (en_give (Rem.there (Rem.there (Rem.there Rem.here)))) ?_
        rintro _ _ ⟨rfl, rfl⟩
        obtain ⟨y10, hy8, h⟩ := bnd h
        refine l_append (dr := (Rep.slice (un .u8))) (xs := ([] : List (List Nat))) (ys := y5) rfl rfl rfl rfl sty_25 rfl rfl rfl Foc.here (.head _) hy8 (fun _ => Or.inl rfl) (fun v6 => ?_)
        refine can_en (en_rowShape (xs := y10) (.head _)) ?_
        rintro _ _ ⟨rfl, rfl, A9, c9, rfl, -, -, -⟩
        refine c_move rfl rfl rfl rfl (v := (.slice A7 y8.length c7)) rfl ?_
        refine can_en (en_give (Rem.there (Rem.there Rem.here))) ?_
        rintro _ _ ⟨rfl, rfl⟩
        obtain ⟨y11, hy9, h⟩ := bnd h
        refine l_append (dr := (Rep.slice (un .u8))) (xs := y10) (ys := y8) rfl rfl rfl rfl sty_25 rfl rfl rfl Foc.here (.head _) hy9 (fun _ => Or.inl rfl) (fun v7 => ?_)
        refine can_en (en_rowShape (xs := y11) (.head _)) ?_
        rintro _ _ ⟨rfl, rfl, A10, c10, rfl, -, -, -⟩
        refine c_move rfl rfl rfl rfl (v := (.slice A8 y9.length c8)) rfl ?_
        refine can_en (en_give (Rem.there Rem.here)) ?_
        rintro _ _ ⟨rfl, rfl⟩
        refine c_lit (cs := [(.slice A8 y9.length c8)]) rfl rfl rfl rfl Tryz.underlying25 Tryz.sizeOf22 Tryz.zeroValue22 rfl rfl rfl rfl rfl (fun _ => Or.inl rfl) (fun g2 => ?_)
        obtain ⟨y12, hy10, h⟩ := bnd h
        refine l_append1 (dr := (Rep.slice (un .u8))) (xs := y11) (ys := [y9]) rfl rfl rfl rfl sty_25 rfl rfl rfl Rem.here Foc.here rfl (fun hh hr => (Reps.nil (Rep.slice (un .u8)) _).snoc (x := y9) (c := [(.slice A8 y9.length c8)]) ⟨_, rfl, hr _ (.head _)⟩) hy10 (fun _ => Or.inl rfl) (fun v8 => ?_)
        refine can_en (en_rowShape (xs := y12) (.head _)) ?_
        rintro _ _ ⟨rfl, rfl, A11, c11, rfl, -, -, -⟩
        refine c_assign rfl rfl rfl rfl (v := (.slice A11 y12.length c11)) rfl ?_
        refine can_nil ?_
        refine ps_then ?_
        refine cs_seq ?_
        refine cs_seq_region [0, 1, 2, 3, 4] rfl ?_
        refine c_move rfl rfl rfl rfl (v := (.slice A8 y9.length c8)) rfl ?_
        obtain ⟨y13, hy11, h⟩ := bnd h
        refine c_call rfl rfl rfl rfl Tryz.call146 (lf_ref02_Hash256_ok K y9 (.slice A8 y9.length c8) w0 _ _ (.head _) hy11) rfl (fun _ _ _ _ => Or.inl rfl) ?_
        rintro _ _ _ ⟨v9, rfl, rfl, rfl⟩
        refine can_en (en_rowShape (xs := y13) (.head _)) ?_
        rintro _ _ ⟨rfl, rfl, A12, c12, rfl, -, -, -⟩
        refine c_move rfl rfl rfl rfl (v := (.slice A11 y12.length c11)) rfl ?_
        refine c_assign rfl rfl rfl rfl (v := (.slice A12 y13.length c12)) rfl ?_
        refine c_assign rfl rfl rfl rfl (v := (.slice A11 y12.length c11)) rfl ?_
        refine can_nil ?_
        refine ps_then ?_
        refine cs_ret ?_
        refine ps_en (en_give Rem.here) ?_
        rintro _ _ ⟨rfl, rfl⟩
        have hz0 := Option.some.inj h
        obtain ⟨rfl, hz1⟩ := prod2 hz0
        obtain rfl := hz1
        refine ps_en (en_keep (Rd (un .u8) (.slice A12 y13.length c12) y13 :: rs) (List.forall_mem_cons.2 ⟨(.head _), fun r hr => (.tail _ (.tail _ (.tail _ (.tail _ (.tail _ (.tail _ (.tail _ (.tail _ hr))))))))⟩)) ?_
        rintro _ _ ⟨rfl, rfl⟩
        apply ps_end2 rfl Tryz.results164 rfl rfl
        · exact ⟨_, _, rfl, rfl, rfl⟩
        · exact .mk .refl .refl
def lf_ref06_ok_l0 (K : Nat) (p0 : (List (List Nat))) : Nat → Int → Int → Option (Int ⊕ (Int × Int))
  | 0, _, _ => none
  | k + 1, x1, x2 => (bif (decide (x2 < ((p0.length : Nat) : Int))) then ((getO p0 x2).bind fun y1 => (bif (decide (((y1.length : Nat) : Int) ≠ (32 : Int))) then (some (Sum.inl (1 : Int))) else (lf_ref06_ok_l0 K p0 k x1 (IntKind.wrap .i64 (x2 + (1 : Int)))))) else (some (Sum.inr (x1, x2))))
def lf_ref06_ok (K : Nat) (p0 : (List (List Nat))) : Option Int := (bif (decide (((p0.length : Nat) : Int) > (4096 : Int))) then (some (2 : Int)) else (bindR (lf_ref06_ok_l0 K p0 K (0 : Int) (0 : Int)) id (fun qz1 => un2 qz1 (fun z1 => fun z2 => (some (0 : Int))))))
theorem lf_ref06_ok_ok (K : Nat) (p0 : (List (List Nat))) (vp0 : Value) (w0 : World) (sps : List Sp) (rs : List Fa) (hv_p0 : Rd (Rep.slice (un .u8)) vp0 p0 ∈ rs) {r0 : Int} (h : lf_ref06_ok K p0 = some r0) : FnOk Tryz.prog 95 #[vp0] w0 sps rs (fun v s q => v = .int .i64 r0 ∧ sps = s ∧ rs = q) := by
  unfold lf_ref06_ok at h
  refine fn_en (en_shape hv_p0) ?_
  rintro _ _ ⟨rfl, rfl, Ap0, cp0, rfl, -, -, -⟩
  refine fn_enter Tryz.func95 rfl Tryz.ntmps95 rfl ?_
  refine cs_seq ?_
  refine cs_seq_region [0] rfl ?_
  refine c_assign rfl rfl rfl rfl (v := (.int .i64 (0 : Int))) rfl ?_
  refine can_nil ?_
  refine ps_then ?_
  refine cs_seq ?_
  refine cs_seq ?_
  refine cs_seq_region [0, 1, 2] rfl ?_
  refine c_move rfl rfl rfl rfl (v := (.slice Ap0 p0.length cp0)) rfl ?_
  refine l_len (m := p0.length) rfl rfl rfl rfl Tryz.underlying25 rfl ?_
  refine c_gtr (p := ((p0.length : Nat) : Int)) (q := (4096 : Int)) rfl rfl rfl rfl rfl rfl ?_
  refine can_nil ?_
  refine ps_then ?_
  refine cs_condL (b := (decide (((p0.length : Nat) : Int) > (4096 : Int)))) rfl h (fun hc1 h => ?_) (fun hc1 h => ?_)
  · refine cs_seq ?_
    refine cs_seq_region [0] rfl ?_
    refine c_assign rfl rfl rfl rfl (v := (.int .i64 (2 : Int))) rfl ?_
    refine can_nil ?_
    refine ps_then ?_
    refine cs_ret ?_
    refine ps_then_ret ?_
    obtain rfl := Option.some.inj h
    refine ps_en (en_keep (rs) (fun r hr => hr)) ?_
    rintro _ _ ⟨rfl, rfl⟩
    apply ps_end1 rfl Tryz.results95 rfl
    · exact ⟨rfl, rfl, rfl⟩
    · exact .mk .refl .refl
  · refine cs_skip ?_
    refine ps_then ?_
    refine cs_seq ?_
    refine cs_seq ?_
    refine cs_seq_region [0] rfl ?_
    refine c_assign rfl rfl rfl rfl (v := (.int .i64 (0 : Int))) rfl ?_
    refine can_nil ?_
    refine ps_then ?_
    refine cs_block ?_
    obtain ⟨o1, hl1, h⟩ := bndR h
    refine cs_loopS [2, 3, 7, 8, 9, 10, 11, 12, 13, 14, 15, 16, 17, 18] (fun m L s r => ∃ (x1 : Int) (x2 : Int), lf_ref06_ok_l0 K p0 m x1 x2 = some o1 ∧ [(2, (.int .i64 x1)), (3, (.int .i64 x2))] = L ∧ sps = s ∧ rs = r) [(2, (.int .i64 (0 : Int))), (3, (.int .i64 (0 : Int)))] (⟨rfl, rfl, trivial⟩) (⟨(0 : Int), (0 : Int), hl1, rfl, rfl, rfl⟩) ?_
    rintro k1 f1 _ _ _ ⟨x1, x2, hl1, rfl, rfl, rfl⟩
    rcases k1 with _ | k1
    · exact absurd hl1 (by rw [lf_ref06_ok_l0.eq_1]; exact nofun)
    rw [lf_ref06_ok_l0.eq_2] at hl1
    refine cs_seq ?_
    refine cs_seq ?_
    refine cs_seq_region [0, 1, 2, 3] rfl ?_
    refine c_move rfl rfl rfl rfl (v := (.int .i64 x2)) rfl ?_
    refine c_move rfl rfl rfl rfl (v := (.slice Ap0 p0.length cp0)) rfl ?_
    refine l_len (m := p0.length) rfl rfl rfl rfl Tryz.underlying25 rfl ?_
    refine c_lss (p := x2) (q := ((p0.length : Nat) : Int)) rfl rfl rfl rfl rfl rfl ?_
    refine can_nil ?_
    refine ps_then ?_
    refine cs_condL (b := (decide (x2 < ((p0.length : Nat) : Int)))) rfl hl1 (fun hc2 hl1 => ?_) (fun hc2 hl1 => ?_)
    · refine cs_skip ?_
      refine ps_then ?_
      refine cs_seq ?_
      refine cs_block ?_
      refine cs_seq ?_
      refine cs_seq_region [0, 1, 2, 3, 4, 5] rfl ?_
      refine c_move rfl rfl rfl rfl (v := (.slice Ap0 p0.length cp0)) rfl ?_
      refine c_move rfl rfl rfl rfl (v := (.int .i64 x2)) rfl ?_
      obtain ⟨y1, hy1, hl1⟩ := bnd hl1
      refine can_en (en_ptr hv_p0 (by have := getO_lt hy1; omega)) ?_
      rintro _ _ ⟨rfl, rfl, g1, o2, rfl⟩
      refine can_en (open_Rep_slice_un_u8 hv_p0 hy1) ?_
      rintro _ _ ⟨A1, c1, rfl, rfl⟩
      refine c_indexAddrS (p := x2) rfl rfl rfl rfl Tryz.underlying25 Tryz.sizeOf22 rfl rfl (by have := getO_lt hy1; omega) ?_
      refine c_load1 (v := (.slice A1 y1.length c1)) rfl rfl rfl Tryz.isAgg22 rfl (ldSC (off := o2 + (x2 : Int).toNat * 1) (k := 0) rfl rfl (.head _) (sub1 rfl)) ?_
      refine l_len (m := y1.length) rfl rfl rfl rfl Tryz.underlying22 rfl ?_
      refine l_neqI (p := ((y1.length : Nat) : Int)) (q := (32 : Int)) rfl rfl rfl rfl rfl rfl ?_
      refine can_nil ?_
      refine ps_then ?_
      refine cs_condL (b := (decide (((y1.length : Nat) : Int) ≠ (32 : Int)))) rfl hl1 (fun hc3 hl1 => ?_) (fun hc3 hl1 => ?_)
      · refine cs_seq ?_
        refine cs_seq_region [0] rfl ?_
        refine c_assign rfl rfl rfl rfl (v := (.int .i64 (1 : Int))) rfl ?_
        refine can_nil ?_
        refine ps_then ?_
        refine cs_ret ?_
        refine ps_block_ret ?_
        refine ps_then_ret ?_
        refine ps_then_ret ?_
        refine ps_block_ret ?_
        refine ps_then_ret ?_
        obtain rfl := Option.some.inj hl1
        replace h := kR_i h
        obtain rfl := Option.some.inj h
        refine ps_en (en_keep (rs) (fun r hr => (.tail _ (.tail _ hr)))) ?_
        rintro _ _ ⟨rfl, rfl⟩
        apply ps_end1 rfl Tryz.results95 rfl
        · exact ⟨rfl, rfl, rfl⟩
        · exact .mk .refl .refl
      · refine cs_skip ?_
        refine ps_block_normal ?_
        refine ps_then ?_
        refine cs_seq_region [0, 1, 2] rfl ?_
        refine c_move rfl rfl rfl rfl (v := (.int .i64 x2)) rfl ?_
        refine c_add (p := x2) (q := (1 : Int)) rfl rfl rfl rfl rfl rfl ?_
        refine c_assign rfl rfl rfl rfl (v := (.int .i64 (IntKind.wrap .i64 (x2 + (1 : Int))))) rfl ?_
        refine can_nil ?_
        refine ps_en (en_keep (rs) (fun r hr => (.tail _ (.tail _ hr)))) ?_
        rintro _ _ ⟨rfl, rfl⟩
        refine ps_roundS [(2, (.int .i64 x1)), (3, (.int .i64 (IntKind.wrap .i64 (x2 + (1 : Int)))))] ⟨rfl, rfl, trivial⟩ xA k1 (Nat.lt_succ_self _) (⟨x1, (IntKind.wrap .i64 (x2 + (1 : Int))), hl1, rfl, rfl, rfl⟩) (.mk .refl .refl)
    · refine cs_exit ?_
      refine ps_then_exit ?_
      refine ps_then_exit ?_
      obtain rfl := Option.some.inj hl1
      replace h := kR_r h
      replace h := un2_ h
      obtain ⟨z1, rfl⟩ : ∃ z, z = x1 := ⟨_, rfl⟩
      obtain ⟨z2, rfl⟩ : ∃ z, z = x2 := ⟨_, rfl⟩
      refine ps_block_here ?_
      refine ps_then ?_
      refine cs_seq ?_
      refine cs_seq_region [0] rfl ?_
      refine c_assign rfl rfl rfl rfl (v := (.int .i64 (0 : Int))) rfl ?_
      refine can_nil ?_
      refine ps_then ?_
      refine cs_ret ?_
      obtain rfl := Option.some.inj h
      refine ps_en (en_keep (rs) (fun r hr => hr)) ?_
      rintro _ _ ⟨rfl, rfl⟩
      apply ps_end1 rfl Tryz.results95 rfl
      · exact ⟨rfl, rfl, rfl⟩
      · exact .mk .refl .refl
def lf_ref06_Leaves_l0 (K : Nat) (y1 : (List (List Nat))) : Nat → (List (List Nat)) → Int → Option ((List (List Nat)) × Int)
  | 0, _, _ => none
  | k + 1, x1, x2 => (bif (decide (x2 < ((y1.length : Nat) : Int))) then ((getO y1 x2).bind fun y3 => ((lf_ref06_Leaf K x2 y3).bind (fun qy4 => un2 qy4 (fun y4 => fun y5 => ((appO x1 ([y4] : List (List Nat))).bind fun y6 => (lf_ref06_Leaves_l0 K y1 k y6 (IntKind.wrap .i64 (x2 + (1 : Int))))))))) else (some (x1, x2)))
def lf_ref06_Leaves (K : Nat) (p0 : (List Nat)) (p1 : Int) : Option ((List (List Nat)) × Int) := ((lf_ref06_Cut K p0 p1).bind (fun qy1 => un2 qy1 (fun y1 => fun y2 => ((lf_ref06_Leaves_l0 K y1 K ([] : List (List Nat)) (0 : Int)).bind (fun qz1 => un2 qz1 (fun z1 => fun z2 => (some (z1, y2))))))))
theorem lf_ref06_Leaves_ok (K : Nat) (p0 : (List Nat)) (p1 : Int) (vp0 : Value) (w0 : World) (sps : List Sp) (rs : List Fa) (hv_p0 : Rd (un .u8) vp0 p0 ∈ rs) {r0 : (List (List Nat))} {r1 : Int} (h : lf_ref06_Leaves K p0 p1 = some (r0, r1)) : FnOk Tryz.prog 43 #[vp0, .int .i64 p1] w0 sps rs (fun v s q => ∃ (qr0 : Value), v = .tuple #[qr0, .int .i64 r1] ∧ Row (Rep.slice (un .u8)) 22 qr0 r0 :: sps = s ∧ rs = q) := by
  unfold lf_ref06_Leaves at h
  refine fn_en (en_shape hv_p0) ?_
  rintro _ _ ⟨rfl, rfl, Ap0, cp0, rfl, -, -, -⟩
  refine fn_enter Tryz.func43 rfl Tryz.ntmps43 rfl ?_
  refine cs_seq ?_
  refine cs_seq_region [0, 1] rfl ?_
  refine c_assign rfl rfl rfl rfl (v := (.slice none 0 0)) rfl ?_
  refine c_assign rfl rfl rfl rfl (v := (.int .i64 (0 : Int))) rfl ?_
  refine can_nil ?_
  refine ps_then ?_
  refine cs_seq ?_
  refine cs_seq_region [0, 1, 2, 3, 4, 5, 6, 7] rfl ?_
  refine c_move rfl rfl rfl rfl (v := (.slice Ap0 p0.length cp0)) rfl ?_
  refine c_move rfl rfl rfl rfl (v := (.int .i64 p1)) rfl ?_
  obtain ⟨⟨y1, y2⟩, hy1, h⟩ := bnd h
  replace h := un2_ h
  refine c_call rfl rfl rfl rfl Tryz.call42 (lf_ref06_Cut_ok K p0 p1 (.slice Ap0 p0.length cp0) w0 _ _ hv_p0 hy1) rfl (fun _ _ _ _ => Or.inl rfl) ?_
  rintro _ _ _ ⟨v1, rfl, rfl, rfl⟩
  refine can_en (en_rowShape (xs := y1) (.head _)) ?_
  rintro _ _ ⟨rfl, rfl, A1, c1, rfl, -, -, -⟩
  refine c_move rfl rfl rfl rfl (v := (.tuple #[(.slice A1 y1.length c1), (.int .i64 y2)])) rfl ?_
  refine c_extract rfl rfl rfl rfl rfl rfl ?_
  refine c_extract rfl rfl rfl rfl rfl rfl ?_
  refine c_assign rfl rfl rfl rfl (v := (.slice A1 y1.length c1)) rfl ?_
  refine c_assign rfl rfl rfl rfl (v := (.int .i64 y2)) rfl ?_
  refine can_nil ?_
  refine ps_then ?_
  refine cs_seq ?_
  refine cs_seq_region [0] rfl ?_
  refine c_assign rfl rfl rfl rfl (v := (.slice none 0 0)) rfl ?_
  refine can_nil ?_
  refine ps_then ?_
  refine cs_seq ?_
  refine cs_seq ?_
  refine cs_seq_region [0] rfl ?_
  refine c_assign rfl rfl rfl rfl (v := (.int .i64 (0 : Int))) rfl ?_
  refine can_nil ?_
  refine ps_then ?_
  refine cs_block ?_
  refine cs_en (en_give Rem.here) ?_
  rintro _ _ ⟨rfl, rfl⟩
  refine cs_en (en_nilRow (Rep.slice (un .u8)) 22) ?_
  rintro _ _ ⟨rfl, rfl⟩
  obtain ⟨o1, hl1, h⟩ := bnd h
  refine cs_loopS [8, 9, 10, 11, 18, 19, 20, 21, 22, 23, 24, 25, 26, 27, 28, 29, 30, 31, 32, 33, 34, 35, 36] (fun m L s r => ∃ (x1 : (List (List Nat))) (x2 : Int) (A2 : Option Addr) (m1 : Nat) (c2 : Nat), lf_ref06_Leaves_l0 K y1 m x1 x2 = some o1 ∧ [(8, (.slice A2 m1 c2)), (9, (.int .i64 x2))] = L ∧ Row (Rep.slice (un .u8)) 22 (.slice A2 m1 c2) x1 :: sps = s ∧ Rd (Rep.slice (un .u8)) (.slice A1 y1.length c1) y1 :: rs = r) [(8, (.slice none 0 0)), (9, (.int .i64 (0 : Int)))] (⟨rfl, rfl, trivial⟩) (⟨([] : List (List Nat)), (0 : Int), _, _, _, hl1, rfl, rfl, rfl⟩) ?_
  rintro k1 f1 _ _ _ ⟨x1, x2, A2, m1, c2, hl1, rfl, rfl, rfl⟩
  rcases k1 with _ | k1
  · exact absurd hl1 (by rw [lf_ref06_Leaves_l0.eq_1]; exact nofun)
  rw [lf_ref06_Leaves_l0.eq_2] at hl1
  refine cs_en (en_rowLen (.head _)) ?_
  rintro _ _ ⟨rfl, rfl, rfl⟩
  refine cs_seq ?_
  refine cs_seq ?_
  refine cs_seq_region [0, 1, 2, 3] rfl ?_
  refine c_move rfl rfl rfl rfl (v := (.int .i64 x2)) rfl ?_
  refine c_move rfl rfl rfl rfl (v := (.slice A1 y1.length c1)) rfl ?_
  refine l_len (m := y1.length) rfl rfl rfl rfl Tryz.underlying25 rfl ?_
  refine c_lss (p := x2) (q := ((y1.length : Nat) : Int)) rfl rfl rfl rfl rfl rfl ?_
  refine can_nil ?_
  refine ps_then ?_
  refine cs_condL (b := (decide (x2 < ((y1.length : Nat) : Int)))) rfl hl1 (fun hc1 hl1 => ?_) (fun hc1 hl1 => ?_)
  · refine cs_skip ?_
    refine ps_then ?_
    refine cs_seq ?_
    refine cs_block ?_
    refine cs_seq ?_
    refine cs_seq_region [0, 1, 2, 3, 4, 5, 6, 7, 8, 9, 10] rfl ?_
    refine c_move rfl rfl rfl rfl (v := (.int .i64 x2)) rfl ?_
    refine c_move rfl rfl rfl rfl (v := (.slice A1 y1.length c1)) rfl ?_
    refine c_move rfl rfl rfl rfl (v := (.int .i64 x2)) rfl ?_
    obtain ⟨y3, hy2, hl1⟩ := bnd hl1
    refine can_en (en_ptr (.head _) (by have := getO_lt hy2; omega)) ?_
    rintro _ _ ⟨rfl, rfl, g1, o2, rfl⟩
    refine can_en (open_Rep_slice_un_u8 (.head _) hy2) ?_
    rintro _ _ ⟨A3, c3, rfl, rfl⟩
    refine c_indexAddrS (p := x2) rfl rfl rfl rfl Tryz.underlying25 Tryz.sizeOf22 rfl rfl (by have := getO_lt hy2; omega) ?_
    refine c_load1 (v := (.slice A3 y3.length c3)) rfl rfl rfl Tryz.isAgg22 rfl (ldSC (off := o2 + (x2 : Int).toNat * 1) (k := 0) rfl rfl (.head _) (sub1 rfl)) ?_
    obtain ⟨⟨y4, y5⟩, hy3, hl1⟩ := bnd hl1
    replace hl1 := un2_ hl1
    refine c_call rfl rfl rfl rfl Tryz.call94 (lf_ref06_Leaf_ok K x2 y3 (.slice A3 y3.length c3) w0 _ _ (.tail _ (.head _)) hy3) rfl (fun _ _ _ _ => Or.inl rfl) ?_
    rintro _ _ _ ⟨v2, rfl, rfl, rfl⟩
    refine can_en (en_rowShape (xs := y4) (.head _)) ?_
    rintro _ _ ⟨rfl, rfl, A4, c4, rfl, -, -, -⟩
    refine c_move rfl rfl rfl rfl (v := (.tuple #[(.slice A4 y4.length c4), (.int .i64 y5)])) rfl ?_
    refine c_extract rfl rfl rfl rfl rfl rfl ?_
    refine c_extract rfl rfl rfl rfl rfl rfl ?_
    refine c_assign rfl rfl rfl rfl (v := (.slice A4 y4.length c4)) rfl ?_
    refine c_assign rfl rfl rfl rfl (v := (.int .i64 y5)) rfl ?_
    refine can_nil ?_
    refine ps_then ?_
    refine cs_seq_region [0, 1, 2, 3, 4] rfl ?_
    refine c_move rfl rfl rfl rfl (v := (.slice A2 x1.length c2)) rfl ?_
    refine c_move rfl rfl rfl rfl (v := (.slice A4 y4.length c4)) rfl ?_
    refine can_en (en_give Rem.here) ?_
    rintro _ _ ⟨rfl, rfl⟩
    refine c_lit (cs := [(.slice A4 y4.length c4)]) rfl rfl rfl rfl Tryz.underlying25 Tryz.sizeOf22 Tryz.zeroValue22 rfl rfl rfl rfl rfl (fun _ => Or.inl rfl) (fun g2 => ?_)
    obtain ⟨y6, hy4, hl1⟩ := bnd hl1
    refine l_append1 (dr := (Rep.slice (un .u8))) (xs := x1) (ys := [y4]) rfl rfl rfl rfl sty_25 rfl rfl rfl Rem.here Foc.here rfl (fun hh hr => (Reps.nil (Rep.slice (un .u8)) _).snoc (x := y4) (c := [(.slice A4 y4.length c4)]) ⟨_, rfl, hr _ (.head _)⟩) hy4 (fun _ => Or.inl rfl) (fun v3 => ?_)
    refine can_en (en_rowShape (xs := y6) (.head _)) ?_
    rintro _ _ ⟨rfl, rfl, A5, c5, rfl, -, -, -⟩
    refine c_assign rfl rfl rfl rfl (v := (.slice A5 y6.length c5)) rfl ?_
    refine can_nil ?_
    refine ps_block_normal ?_
    refine ps_then ?_
    refine cs_seq_region [0, 1, 2] rfl ?_
    refine c_move rfl rfl rfl rfl (v := (.int .i64 x2)) rfl ?_
    refine c_add (p := x2) (q := (1 : Int)) rfl rfl rfl rfl rfl rfl ?_
    refine c_assign rfl rfl rfl rfl (v := (.int .i64 (IntKind.wrap .i64 (x2 + (1 : Int))))) rfl ?_
    refine can_nil ?_
    refine ps_en (en_keep (Rd (Rep.slice (un .u8)) (.slice (some ⟨g1, o2, none⟩) y1.length c1) y1 :: rs) (List.forall_mem_cons.2 ⟨(.tail _ (.tail _ (.tail _ (.head _)))), fun r hr => (.tail _ (.tail _ (.tail _ (.tail _ hr))))⟩)) ?_
    rintro _ _ ⟨rfl, rfl⟩
    refine ps_roundS [(8, (.slice A5 y6.length c5)), (9, (.int .i64 (IntKind.wrap .i64 (x2 + (1 : Int)))))] ⟨rfl, rfl, trivial⟩ xA k1 (Nat.lt_succ_self _) (⟨y6, (IntKind.wrap .i64 (x2 + (1 : Int))), _, _, _, hl1, rfl, rfl, rfl⟩) (.mk .refl .refl)
  · refine cs_exit ?_
    refine ps_then_exit ?_
    refine ps_then_exit ?_
    obtain rfl := Option.some.inj hl1
    replace h := un2_ h
    obtain ⟨z1, rfl⟩ : ∃ z, z = x1 := ⟨_, rfl⟩
    obtain ⟨z2, rfl⟩ : ∃ z, z = x2 := ⟨_, rfl⟩
    refine ps_block_here ?_
    refine ps_then ?_
    refine cs_seq ?_
    refine cs_seq_region [0, 1, 2, 3] rfl ?_
    refine c_move rfl rfl rfl rfl (v := (.slice A2 z1.length c2)) rfl ?_
    refine c_move rfl rfl rfl rfl (v := (.int .i64 y2)) rfl ?_
    refine c_assign rfl rfl rfl rfl (v := (.slice A2 z1.length c2)) rfl ?_
    refine c_assign rfl rfl rfl rfl (v := (.int .i64 y2)) rfl ?_
    refine can_nil ?_
    refine ps_then ?_
    refine cs_ret ?_
    have hz0 := Option.some.inj h
    obtain ⟨rfl, hz1⟩ := prod2 hz0
    obtain rfl := hz1
    refine ps_en (en_keep (rs) (fun r hr => (.tail _ hr))) ?_
    rintro _ _ ⟨rfl, rfl⟩
    apply ps_end2 rfl Tryz.results43 rfl rfl
    · exact ⟨_, rfl, rfl, rfl⟩
    · exact .mk .refl .refl
def lf_ref06_walk_b (K : Nat) (self : (List (List Nat)) → Int → Option (List (List Nat))) (p0 : (List (List Nat))) (p1 : Int) : Option (List (List Nat)) := (bif (decide (((p0.length : Nat) : Int) < (2 : Int))) then (some ([] : List (List Nat))) else ((lf_ref06_Half K ((p0.length : Nat) : Int)).bind (fun y1 => (bif (decide (p1 < y1)) then ((subO p0 y1 ((p0.length : Nat) : Int)).bind fun y2 => ((lf_ref06_Top K K y2).bind (fun qy3 => un2 qy3 (fun y3 => fun y4 => ((subO p0 (0 : Int) y1).bind fun y5 => ((self y5 p1).bind (fun y6 => ((appO y6 ([y3] : List (List Nat))).bind fun y7 => (some y7))))))))) else ((subO p0 (0 : Int) y1).bind fun y8 => ((lf_ref06_Top K K y8).bind (fun qy9 => un2 qy9 (fun y9 => fun y10 => ((subO p0 y1 ((p0.length : Nat) : Int)).bind fun y11 => ((self y11 (IntKind.wrap .i64 (p1 - y1))).bind (fun y12 => ((appO y12 ([y9] : List (List Nat))).bind fun y13 => (some y13)))))))))))))
def lf_ref06_walk (K : Nat) : Nat → (List (List Nat)) → Int → Option (List (List Nat))
  | 0, _, _ => none
  | k + 1, p0, p1 => lf_ref06_walk_b K (lf_ref06_walk K k) p0 p1
theorem lf_ref06_walk_ok (K : Nat) : ∀ (k : Nat) (p0 : (List (List Nat))) (p1 : Int) (vp0 : Value) (w0 : World) (sps : List Sp) (rs : List Fa) (hv_p0 : Rd (Rep.slice (un .u8)) vp0 p0 ∈ rs) {r0 : (List (List Nat))} (h : lf_ref06_walk K k p0 p1 = some r0), FnOk Tryz.prog 96 #[vp0, .int .i64 p1] w0 sps rs (fun v s q => ∃ (qr0 : Value), v = qr0 ∧ Row (Rep.slice (un .u8)) 22 qr0 r0 :: sps = s ∧ rs = q) := by
  intro k
  induction k with
  | zero => intros; rename_i h; exact absurd h (by rw [lf_ref06_walk.eq_1]; exact nofun)
  | succ k ih =>
    intro p0 p1 vp0 w0 sps rs hv_p0 r0 h
    rw [lf_ref06_walk.eq_2] at h
    unfold lf_ref06_walk_b at h
    refine fn_en (en_shape hv_p0) ?_
    rintro _ _ ⟨rfl, rfl, Ap0, cp0, rfl, -, -, -⟩
    refine fn_enter Tryz.func96 rfl Tryz.ntmps96 rfl ?_
    refine cs_seq ?_
    refine cs_seq_region [0] rfl ?_
    refine c_assign rfl rfl rfl rfl (v := (.slice none 0 0)) rfl ?_
    refine can_nil ?_
    refine ps_then ?_
    refine cs_seq ?_
    refine cs_seq ?_
    refine cs_seq_region [0, 1, 2] rfl ?_
    refine c_move rfl rfl rfl rfl (v := (.slice Ap0 p0.length cp0)) rfl ?_
    refine l_len (m := p0.length) rfl rfl rfl rfl Tryz.underlying25 rfl ?_
    refine c_lss (p := ((p0.length : Nat) : Int)) (q := (2 : Int)) rfl rfl rfl rfl rfl rfl ?_
    refine can_nil ?_
    refine ps_then ?_
    refine cs_condL (b := (decide (((p0.length : Nat) : Int) < (2 : Int)))) rfl h (fun hc1 h => ?_) (fun hc1 h => ?_)
    · refine cs_seq ?_
      refine cs_seq_region [0] rfl ?_
      refine c_assign rfl rfl rfl rfl (v := (.slice none 0 0)) rfl ?_
      refine can_nil ?_
      refine ps_then ?_
      refine cs_ret ?_
      refine ps_then_ret ?_
      refine ps_en (en_nilRow (Rep.slice (un .u8)) 22) ?_
      rintro _ _ ⟨rfl, rfl⟩
      obtain rfl := Option.some.inj h
      refine ps_en (en_keep (rs) (fun r hr => hr)) ?_
      rintro _ _ ⟨rfl, rfl⟩
      apply ps_end1 rfl Tryz.results96 rfl
      · exact ⟨_, rfl, rfl, rfl⟩
      · exact .mk .refl .refl
    · refine cs_skip ?_
      refine ps_then ?_
      refine cs_seq ?_
      refine cs_seq_region [0, 1, 2, 3] rfl ?_
      refine c_move rfl rfl rfl rfl (v := (.slice Ap0 p0.length cp0)) rfl ?_
      refine l_len (m := p0.length) rfl rfl rfl rfl Tryz.underlying25 rfl ?_
      obtain ⟨y1, hy1, h⟩ := bnd h
      refine c_call rfl rfl rfl rfl Tryz.call163 (lf_ref06_Half_ok K ((p0.length : Nat) : Int)  w0 _ _  hy1) rfl (fun _ _ _ _ => Or.inl rfl) ?_
      rintro _ _ _ ⟨rfl, rfl, rfl⟩
      refine c_assign rfl rfl rfl rfl (v := (.int .i64 y1)) rfl ?_
      refine can_nil ?_
      refine ps_then ?_
      refine cs_seq ?_
      refine cs_seq ?_
      refine cs_seq_region [0, 1, 2] rfl ?_
      refine c_move rfl rfl rfl rfl (v := (.int .i64 p1)) rfl ?_
      refine c_move rfl rfl rfl rfl (v := (.int .i64 y1)) rfl ?_
      refine c_lss (p := p1) (q := y1) rfl rfl rfl rfl rfl rfl ?_
      refine can_nil ?_
      refine ps_then ?_
      refine cs_condL (b := (decide (p1 < y1))) rfl h (fun hc2 h => ?_) (fun hc2 h => ?_)
      · refine cs_seq ?_
        refine cs_seq_region [0, 1, 2, 3, 4, 5, 6, 7, 8] rfl ?_
        refine c_move rfl rfl rfl rfl (v := (.slice Ap0 p0.length cp0)) rfl ?_
        refine c_move rfl rfl rfl rfl (v := (.int .i64 y1)) rfl ?_
        obtain ⟨y2, hy2, h⟩ := bnd h
        refine l_slice (k := .i64) (k' := .i64) (xs := p0) (p := y1) (q := ((p0.length : Nat) : Int)) rfl rfl rfl rfl Tryz.underlying25 Tryz.sizeOf22 rfl hv_p0 rfl rfl (.inr rfl) (.inl ⟨rfl, rfl⟩) hy2 (fun A1 c1 => ?_)
        obtain ⟨⟨y3, y4⟩, hy3, h⟩ := bnd h
        replace h := un2_ h
        refine c_call rfl rfl rfl rfl Tryz.call164 (lf_ref06_Top_ok K K y2 (.slice A1 y2.length c1) w0 _ _ (.head _) hy3) rfl (fun _ _ _ _ => Or.inl rfl) ?_
        rintro _ _ _ ⟨v1, v2, rfl, rfl, rfl⟩
        refine can_en (en_shape (xs := y3) (.head _)) ?_
        rintro _ _ ⟨rfl, rfl, A2, c2, rfl, -, -, -⟩
        refine can_en (en_rowShape (xs := y4) (.head _)) ?_
        rintro _ _ ⟨rfl, rfl, A3, c3, rfl, -, -, -⟩
        refine c_move rfl rfl rfl rfl (v := (.tuple #[(.slice A2 y3.length c2), (.slice A3 y4.length c3)])) rfl ?_
        refine c_extract rfl rfl rfl rfl rfl rfl ?_
        refine c_extract rfl rfl rfl rfl rfl rfl ?_
        refine c_assign rfl rfl rfl rfl (v := (.slice A2 y3.length c2)) rfl ?_
        refine c_assign rfl rfl rfl rfl (v := (.slice A3 y4.length c3)) rfl ?_
        refine can_nil ?_
        refine ps_then ?_
        refine cs_seq ?_
        refine cs_seq_region [0, 1, 2, 3, 4, 5, 6, 7, 8] rfl ?_
        refine c_move rfl rfl rfl rfl (v := (.slice Ap0 p0.length cp0)) rfl ?_
        refine c_move rfl rfl rfl rfl (v := (.int .i64 y1)) rfl ?_
        obtain ⟨y5, hy4, h⟩ := bnd h
        refine l_slice (k := .i64) (k' := .i64) (xs := p0) (p := (0 : Int)) (q := y1) rfl rfl rfl rfl Tryz.underlying25 Tryz.sizeOf22 rfl (.tail _ (.tail _ hv_p0)) rfl rfl (.inl ⟨rfl, rfl⟩) (.inr rfl) hy4 (fun A4 c4 => ?_)
        refine c_move rfl rfl rfl rfl (v := (.int .i64 p1)) rfl ?_
        obtain ⟨y6, hy5, h⟩ := bnd h
        refine c_call rfl rfl rfl rfl Tryz.call96 (ih y5 p1 (.slice A4 y5.length c4) w0 _ _ (.head _) hy5) rfl (fun _ _ _ _ => Or.inl rfl) ?_
        rintro _ _ _ ⟨v3, rfl, rfl, rfl⟩
        refine can_en (en_rowShape (xs := y6) (.head _)) ?_
        rintro _ _ ⟨rfl, rfl, A5, c5, rfl, -, -, -⟩
        refine c_move rfl rfl rfl rfl (v := (.slice A2 y3.length c2)) rfl ?_
        refine c_lit (cs := [(.slice A2 y3.length c2)]) rfl rfl rfl rfl Tryz.underlying25 Tryz.sizeOf22 Tryz.zeroValue22 rfl rfl rfl rfl rfl (fun _ => Or.inl rfl) (fun g1 => ?_)
        obtain ⟨y7, hy6, h⟩ := bnd h
        refine l_append1 (dr := (Rep.slice (un .u8))) (xs := y6) (ys := [y3]) rfl rfl rfl rfl sty_25 rfl rfl rfl Rem.here Foc.here rfl (fun hh hr => (Reps.nil (Rep.slice (un .u8)) _).snoc (x := y3) (c := [(.slice A2 y3.length c2)]) ⟨_, rfl, hr _ (.tail _ (.head _))⟩) hy6 (fun _ => Or.inl rfl) (fun v4 => ?_)
        refine can_en (en_rowShape (xs := y7) (.head _)) ?_
        rintro _ _ ⟨rfl, rfl, A6, c6, rfl, -, -, -⟩
        refine c_assign rfl rfl rfl rfl (v := (.slice A6 y7.length c6)) rfl ?_
        refine can_nil ?_
        refine ps_then ?_
        refine cs_ret ?_
        refine ps_then_ret ?_
        obtain rfl := Option.some.inj h
        refine ps_en (en_arr (sps' := Row (Rep.slice (un .u8)) 22 (.slice A6 y7.length c6) y7 :: sps) (Arr.cons Rem.here (Arr.sub (List.Sublist.cons _ (List.Sublist.refl _))))) ?_
        rintro _ _ ⟨rfl, rfl⟩
        refine ps_en (en_keep (rs) (fun r hr => (.tail _ (.tail _ (.tail _ hr))))) ?_
        rintro _ _ ⟨rfl, rfl⟩
        apply ps_end1 rfl Tryz.results96 rfl
        · exact ⟨_, rfl, rfl, rfl⟩
        · exact .mk .refl .refl
      · refine cs_skip ?_
        refine ps_then ?_
        refine cs_seq ?_
        refine cs_seq_region [0, 1, 2, 3, 4, 5, 6, 7, 8] rfl ?_
        refine c_move rfl rfl rfl rfl (v := (.slice Ap0 p0.length cp0)) rfl ?_
        refine c_move rfl rfl rfl rfl (v := (.int .i64 y1)) rfl ?_
        obtain ⟨y8, hy7, h⟩ := bnd h
        refine l_slice (k := .i64) (k' := .i64) (xs := p0) (p := (0 : Int)) (q := y1) rfl rfl rfl rfl Tryz.underlying25 Tryz.sizeOf22 rfl hv_p0 rfl rfl (.inl ⟨rfl, rfl⟩) (.inr rfl) hy7 (fun A7 c7 => ?_)
        obtain ⟨⟨y9, y10⟩, hy8, h⟩ := bnd h
        replace h := un2_ h
        refine c_call rfl rfl rfl rfl Tryz.call164 (lf_ref06_Top_ok K K y8 (.slice A7 y8.length c7) w0 _ _ (.head _) hy8) rfl (fun _ _ _ _ => Or.inl rfl) ?_
        rintro _ _ _ ⟨v5, v6, rfl, rfl, rfl⟩
        refine can_en (en_shape (xs := y9) (.head _)) ?_
        rintro _ _ ⟨rfl, rfl, A8, c8, rfl, -, -, -⟩
        refine can_en (en_rowShape (xs := y10) (.head _)) ?_
        rintro _ _ ⟨rfl, rfl, A9, c9, rfl, -, -, -⟩
        refine c_move rfl rfl rfl rfl (v := (.tuple #[(.slice A8 y9.length c8), (.slice A9 y10.length c9)])) rfl ?_
        refine c_extract rfl rfl rfl rfl rfl rfl ?_
        refine c_extract rfl rfl rfl rfl rfl rfl ?_
        refine c_assign rfl rfl rfl rfl (v := (.slice A8 y9.length c8)) rfl ?_
        refine c_assign rfl rfl rfl rfl (v := (.slice A9 y10.length c9)) rfl ?_
        refine can_nil ?_
        refine ps_then ?_
        refine cs_seq ?_
        refine cs_seq_region [0, 1, 2, 3, 4, 5, 6, 7, 8, 9, 10] rfl ?_
        refine c_move rfl rfl rfl rfl (v := (.slice Ap0 p0.length cp0)) rfl ?_
        refine c_move rfl rfl rfl rfl (v := (.int .i64 y1)) rfl ?_
        obtain ⟨y11, hy9, h⟩ := bnd h
        refine l_slice (k := .i64) (k' := .i64) (xs := p0) (p := y1) (q := ((p0.length : Nat) : Int)) rfl rfl rfl rfl Tryz.underlying25 Tryz.sizeOf22 rfl (.tail _ (.tail _ hv_p0)) rfl rfl (.inr rfl) (.inl ⟨rfl, rfl⟩) hy9 (fun A10 c10 => ?_)
        refine c_move rfl rfl rfl rfl (v := (.int .i64 p1)) rfl ?_
        refine c_move rfl rfl rfl rfl (v := (.int .i64 y1)) rfl ?_
        refine c_sub (p := p1) (q := y1) rfl rfl rfl rfl rfl rfl ?_
        obtain ⟨y12, hy10, h⟩ := bnd h
        refine c_call rfl rfl rfl rfl Tryz.call96 (ih y11 (IntKind.wrap .i64 (p1 - y1)) (.slice A10 y11.length c10) w0 _ _ (.head _) hy10) rfl (fun _ _ _ _ => Or.inl rfl) ?_
        rintro _ _ _ ⟨v7, rfl, rfl, rfl⟩
        refine can_en (en_rowShape (xs := y12) (.head _)) ?_
        rintro _ _ ⟨rfl, rfl, A11, c11, rfl, -, -, -⟩
        refine c_move rfl rfl rfl rfl (v := (.slice A8 y9.length c8)) rfl ?_
        refine c_lit (cs := [(.slice A8 y9.length c8)]) rfl rfl rfl rfl Tryz.underlying25 Tryz.sizeOf22 Tryz.zeroValue22 rfl rfl rfl rfl rfl (fun _ => Or.inl rfl) (fun g2 => ?_)
        obtain ⟨y13, hy11, h⟩ := bnd h
        refine l_append1 (dr := (Rep.slice (un .u8))) (xs := y12) (ys := [y9]) rfl rfl rfl rfl sty_25 rfl rfl rfl Rem.here Foc.here rfl (fun hh hr => (Reps.nil (Rep.slice (un .u8)) _).snoc (x := y9) (c := [(.slice A8 y9.length c8)]) ⟨_, rfl, hr _ (.tail _ (.head _))⟩) hy11 (fun _ => Or.inl rfl) (fun v8 => ?_)
        refine can_en (en_rowShape (xs := y13) (.head _)) ?_
        rintro _ _ ⟨rfl, rfl, A12, c12, rfl, -, -, -⟩
        refine c_assign rfl rfl rfl rfl (v := (.slice A12 y13.length c12)) rfl ?_
        refine can_nil ?_
        refine ps_then ?_
        refine cs_ret ?_
        obtain rfl := Option.some.inj h
        refine ps_en (en_arr (sps' := Row (Rep.slice (un .u8)) 22 (.slice A12 y13.length c12) y13 :: sps) (Arr.cons Rem.here (Arr.sub (List.Sublist.cons _ (List.Sublist.refl _))))) ?_
        rintro _ _ ⟨rfl, rfl⟩
        refine ps_en (en_keep (rs) (fun r hr => (.tail _ (.tail _ (.tail _ hr))))) ?_
        rintro _ _ ⟨rfl, rfl⟩
        apply ps_end1 rfl Tryz.results96 rfl
        · exact ⟨_, rfl, rfl, rfl⟩
        · exact .mk .refl .refl
def lf_ref06_Prove (K : Nat) (p0 : (List (List Nat))) (p1 : Int) : Option ((List (List Nat)) × Int) := ((lf_ref06_ok K p0).bind (fun y1 => (bif (decide (y1 ≠ (0 : Int))) then (some (([] : List (List Nat)), y1)) else (bif (decide (p1 < (0 : Int))) then (some (([] : List (List Nat)), (1 : Int))) else (bif (decide (p1 ≥ ((p0.length : Nat) : Int))) then (some (([] : List (List Nat)), (1 : Int))) else ((lf_ref06_walk K K p0 p1).bind (fun y2 => (some (y2, (0 : Int))))))))))
theorem lf_ref06_Prove_ok (K : Nat) (p0 : (List (List Nat))) (p1 : Int) (vp0 : Value) (w0 : World) (sps : List Sp) (rs : List Fa) (hv_p0 : Rd (Rep.slice (un .u8)) vp0 p0 ∈ rs) {r0 : (List (List Nat))} {r1 : Int} (h : lf_ref06_Prove K p0 p1 = some (r0, r1)) : FnOk Tryz.prog 44 #[vp0, .int .i64 p1] w0 sps rs (fun v s q => ∃ (qr0 : Value), v = .tuple #[qr0, .int .i64 r1] ∧ Row (Rep.slice (un .u8)) 22 qr0 r0 :: sps = s ∧ rs = q) := by
  unfold lf_ref06_Prove at h
  refine fn_en (en_shape hv_p0) ?_
  rintro _ _ ⟨rfl, rfl, Ap0, cp0, rfl, -, -, -⟩
  refine fn_enter Tryz.func44 rfl Tryz.ntmps44 rfl ?_
  refine cs_seq ?_
  refine cs_seq_region [0, 1] rfl ?_
  refine c_assign rfl rfl rfl rfl (v := (.slice none 0 0)) rfl ?_
  refine c_assign rfl rfl rfl rfl (v := (.int .i64 (0 : Int))) rfl ?_
  refine can_nil ?_
  refine ps_then ?_
  refine cs_seq ?_
  refine cs_seq_region [0, 1, 2] rfl ?_
  refine c_move rfl rfl rfl rfl (v := (.slice Ap0 p0.length cp0)) rfl ?_
  obtain ⟨y1, hy1, h⟩ := bnd h
  refine c_call rfl rfl rfl rfl Tryz.call95 (lf_ref06_ok_ok K p0 (.slice Ap0 p0.length cp0) w0 _ _ hv_p0 hy1) rfl (fun _ _ _ _ => Or.inl rfl) ?_
  rintro _ _ _ ⟨rfl, rfl, rfl⟩
  refine c_assign rfl rfl rfl rfl (v := (.int .i64 y1)) rfl ?_
  refine can_nil ?_
  refine ps_then ?_
  refine cs_seq ?_
  refine cs_seq ?_
  refine cs_seq_region [0, 1] rfl ?_
  refine c_move rfl rfl rfl rfl (v := (.int .i64 y1)) rfl ?_
  refine l_neqI (p := y1) (q := (0 : Int)) rfl rfl rfl rfl rfl rfl ?_
  refine can_nil ?_
  refine ps_then ?_
  refine cs_condL (b := (decide (y1 ≠ (0 : Int)))) rfl h (fun hc1 h => ?_) (fun hc1 h => ?_)
  · refine cs_seq ?_
    refine cs_seq_region [0, 1, 2] rfl ?_
    refine c_move rfl rfl rfl rfl (v := (.int .i64 y1)) rfl ?_
    refine c_assign rfl rfl rfl rfl (v := (.slice none 0 0)) rfl ?_
    refine c_assign rfl rfl rfl rfl (v := (.int .i64 y1)) rfl ?_
    refine can_nil ?_
    refine ps_then ?_
    refine cs_ret ?_
    refine ps_then_ret ?_
    refine ps_en (en_nilRow (Rep.slice (un .u8)) 22) ?_
    rintro _ _ ⟨rfl, rfl⟩
    have hz0 := Option.some.inj h
    obtain ⟨rfl, hz1⟩ := prod2 hz0
    obtain rfl := hz1
    refine ps_en (en_keep (rs) (fun r hr => hr)) ?_
    rintro _ _ ⟨rfl, rfl⟩
    apply ps_end2 rfl Tryz.results44 rfl rfl
    · exact ⟨_, rfl, rfl, rfl⟩
    · exact .mk .refl .refl
  · refine cs_skip ?_
    refine ps_then ?_
    refine cs_seq ?_
    refine cs_seq ?_
    refine cs_seq_region [0, 1, 2, 3, 4, 5, 6, 7] rfl ?_
    refine c_move rfl rfl rfl rfl (v := (.int .i64 p1)) rfl ?_
    refine c_lss (p := p1) (q := (0 : Int)) rfl rfl rfl rfl rfl rfl ?_
    refine c_move rfl rfl rfl rfl (v := (.bool (decide (p1 < (0 : Int))))) rfl ?_
    refine can_splitL 14 (b := (decide (p1 < (0 : Int)))) rfl h (fun hg1 h => ?_) (fun hg1 h => ?_)
    · refine can_skip rfl rfl rfl (Or.inl rfl) ?_
      refine can_skip rfl rfl rfl (Or.inl rfl) ?_
      refine can_skip rfl rfl rfl (Or.inl rfl) ?_
      refine can_skip rfl rfl rfl (Or.inl rfl) ?_
      refine c_pick rfl rfl rfl rfl rfl (by conv => lhs; whnf) ?_
      refine can_nil ?_
      refine ps_then ?_
      refine cs_true rfl ?_
      refine cs_seq ?_
      refine cs_seq_region [0, 1] rfl ?_
      refine c_assign rfl rfl rfl rfl (v := (.slice none 0 0)) rfl ?_
      refine c_assign rfl rfl rfl rfl (v := (.int .i64 (1 : Int))) rfl ?_
      refine can_nil ?_
      refine ps_then ?_
      refine cs_ret ?_
      refine ps_then_ret ?_
      refine ps_en (en_nilRow (Rep.slice (un .u8)) 22) ?_
      rintro _ _ ⟨rfl, rfl⟩
      have hz0 := Option.some.inj h
      obtain ⟨rfl, hz1⟩ := prod2 hz0
      obtain rfl := hz1
      refine ps_en (en_keep (rs) (fun r hr => hr)) ?_
      rintro _ _ ⟨rfl, rfl⟩
      apply ps_end2 rfl Tryz.results44 rfl rfl
      · exact ⟨_, rfl, rfl, rfl⟩
      · exact .mk .refl .refl
    · refine c_move rfl rfl rfl rfl (v := (.int .i64 p1)) rfl ?_
      refine c_move rfl rfl rfl rfl (v := (.slice Ap0 p0.length cp0)) rfl ?_
      refine l_len (m := p0.length) rfl rfl rfl rfl Tryz.underlying25 rfl ?_
      refine c_geq (p := p1) (q := ((p0.length : Nat) : Int)) rfl rfl rfl rfl rfl rfl ?_
      refine c_pick rfl rfl rfl rfl rfl (by conv => lhs; whnf) ?_
      refine can_nil ?_
      refine ps_then ?_
      refine cs_condL (b := (decide (p1 ≥ ((p0.length : Nat) : Int)))) rfl h (fun hc2 h => ?_) (fun hc2 h => ?_)
      · refine cs_seq ?_
        refine cs_seq_region [0, 1] rfl ?_
        refine c_assign rfl rfl rfl rfl (v := (.slice none 0 0)) rfl ?_
        refine c_assign rfl rfl rfl rfl (v := (.int .i64 (1 : Int))) rfl ?_
        refine can_nil ?_
        refine ps_then ?_
        refine cs_ret ?_
        refine ps_then_ret ?_
        refine ps_en (en_nilRow (Rep.slice (un .u8)) 22) ?_
        rintro _ _ ⟨rfl, rfl⟩
        have hz0 := Option.some.inj h
        obtain ⟨rfl, hz1⟩ := prod2 hz0
        obtain rfl := hz1
        refine ps_en (en_keep (rs) (fun r hr => hr)) ?_
        rintro _ _ ⟨rfl, rfl⟩
        apply ps_end2 rfl Tryz.results44 rfl rfl
        · exact ⟨_, rfl, rfl, rfl⟩
        · exact .mk .refl .refl
      · refine cs_skip ?_
        refine ps_then ?_
        refine cs_seq ?_
        refine cs_seq_region [0, 1, 2, 3, 4] rfl ?_
        refine c_move rfl rfl rfl rfl (v := (.slice Ap0 p0.length cp0)) rfl ?_
        refine c_move rfl rfl rfl rfl (v := (.int .i64 p1)) rfl ?_
        obtain ⟨y2, hy2, h⟩ := bnd h
        refine c_call rfl rfl rfl rfl Tryz.call96 (lf_ref06_walk_ok K K p0 p1 (.slice Ap0 p0.length cp0) w0 _ _ hv_p0 hy2) rfl (fun _ _ _ _ => Or.inl rfl) ?_
        rintro _ _ _ ⟨v1, rfl, rfl, rfl⟩
        refine can_en (en_rowShape (xs := y2) (.head _)) ?_
        rintro _ _ ⟨rfl, rfl, A1, c1, rfl, -, -, -⟩
        refine c_assign rfl rfl rfl rfl (v := (.slice A1 y2.length c1)) rfl ?_
        refine c_assign rfl rfl rfl rfl (v := (.int .i64 (0 : Int))) rfl ?_
        refine can_nil ?_
        refine ps_then ?_
        refine cs_ret ?_
        have hz0 := Option.some.inj h
        obtain ⟨rfl, hz1⟩ := prod2 hz0
        obtain rfl := hz1
        refine ps_en (en_keep (rs) (fun r hr => hr)) ?_
        rintro _ _ ⟨rfl, rfl⟩
        apply ps_end2 rfl Tryz.results44 rfl rfl
        · exact ⟨_, rfl, rfl, rfl⟩
        · exact .mk .refl .refl
def lf_ref06_Size_l0 (K : Nat) (p0 : (List (List Nat))) (p1 : Int) : Nat → Int → Int → Option (Int × Int)
  | 0, _, _ => none
  | k + 1, x1, x2 => (bif (decide (x2 < ((p0.length : Nat) : Int))) then (bif (decide (x1 ≤ p1)) then ((getO p0 x2).bind fun y1 => (lett ((IntKind.wrap .i64 ((IntKind.wrap .i64 (x1 + (1 : Int))) + ((y1.length : Nat) : Int))) : Int) fun y2 => (lf_ref06_Size_l0 K p0 p1 k y2 (IntKind.wrap .i64 (x2 + (1 : Int)))))) else (some (x1, x2))) else (some (x1, x2)))
def lf_ref06_Size (K : Nat) (p0 : (List (List Nat))) (p1 : Int) : Option Int := ((lf_ref06_Size_l0 K p0 p1 K (0 : Int) (0 : Int)).bind (fun qz1 => un2 qz1 (fun z1 => fun z2 => (some z1))))
theorem lf_ref06_Size_ok (K : Nat) (p0 : (List (List Nat))) (p1 : Int) (vp0 : Value) (w0 : World) (sps : List Sp) (rs : List Fa) (hv_p0 : Rd (Rep.slice (un .u8)) vp0 p0 ∈ rs) {r0 : Int} (h : lf_ref06_Size K p0 p1 = some r0) : FnOk Tryz.prog 7 #[vp0, .int .i64 p1] w0 sps rs (fun v s q => v = .int .i64 r0 ∧ sps = s ∧ rs = q) := by
  unfold lf_ref06_Size at h
  refine fn_en (en_shape hv_p0) ?_
  rintro _ _ ⟨rfl, rfl, Ap0, cp0, rfl, -, -, -⟩
  refine fn_enter Tryz.func7 rfl Tryz.ntmps7 rfl ?_
  refine cs_seq ?_
  refine cs_seq_region [0] rfl ?_
  refine c_assign rfl rfl rfl rfl (v := (.int .i64 (0 : Int))) rfl ?_
  refine can_nil ?_
  refine ps_then ?_
  refine cs_seq ?_
  refine cs_seq_region [0] rfl ?_
  refine c_assign rfl rfl rfl rfl (v := (.int .i64 (0 : Int))) rfl ?_
  refine can_nil ?_
  refine ps_then ?_
  refine cs_seq ?_
  refine cs_seq ?_
  refine cs_seq_region [0] rfl ?_
  refine c_assign rfl rfl rfl rfl (v := (.int .i64 (0 : Int))) rfl ?_
  refine can_nil ?_
  refine ps_then ?_
  refine cs_block ?_
  obtain ⟨o1, hl1, h⟩ := bnd h
  refine cs_loopS [5, 6, 7, 8, 9, 10, 11, 12, 13, 14, 15, 16, 17, 18, 19, 20, 21, 22, 23, 24, 25] (fun m L s r => ∃ (x1 : Int) (x2 : Int), lf_ref06_Size_l0 K p0 p1 m x1 x2 = some o1 ∧ [(5, (.int .i64 x1)), (6, (.int .i64 x2))] = L ∧ sps = s ∧ rs = r) [(5, (.int .i64 (0 : Int))), (6, (.int .i64 (0 : Int)))] (⟨rfl, rfl, trivial⟩) (⟨(0 : Int), (0 : Int), hl1, rfl, rfl, rfl⟩) ?_
  rintro k1 f1 _ _ _ ⟨x1, x2, hl1, rfl, rfl, rfl⟩
  rcases k1 with _ | k1
  · exact absurd hl1 (by rw [lf_ref06_Size_l0.eq_1]; exact nofun)
  rw [lf_ref06_Size_l0.eq_2] at hl1
  refine cs_seq ?_
  refine cs_seq ?_
  refine cs_seq_region [0, 1, 2, 3, 4, 5, 6, 7, 8] rfl ?_
  refine c_move rfl rfl rfl rfl (v := (.int .i64 x2)) rfl ?_
  refine c_move rfl rfl rfl rfl (v := (.slice Ap0 p0.length cp0)) rfl ?_
  refine l_len (m := p0.length) rfl rfl rfl rfl Tryz.underlying25 rfl ?_
  refine c_lss (p := x2) (q := ((p0.length : Nat) : Int)) rfl rfl rfl rfl rfl rfl ?_
  refine c_move rfl rfl rfl rfl (v := (.bool (decide (x2 < ((p0.length : Nat) : Int))))) rfl ?_
  refine can_splitL 11 (b := (decide (x2 < ((p0.length : Nat) : Int)))) rfl hl1 (fun hg1 hl1 => ?_) (fun hg1 hl1 => ?_)
  · refine c_move rfl rfl rfl rfl (v := (.int .i64 x1)) rfl ?_
    refine c_move rfl rfl rfl rfl (v := (.int .i64 p1)) rfl ?_
    refine c_leq (p := x1) (q := p1) rfl rfl rfl rfl rfl rfl ?_
    refine c_pick rfl rfl rfl rfl rfl (by conv => lhs; whnf) ?_
    refine can_nil ?_
    refine ps_then ?_
    refine cs_condL (b := (decide (x1 ≤ p1))) rfl hl1 (fun hc1 hl1 => ?_) (fun hc1 hl1 => ?_)
    · refine cs_skip ?_
      refine ps_then ?_
      refine cs_seq ?_
      refine cs_block ?_
      refine cs_seq_region [0, 1, 2, 3, 4, 5, 6, 7, 8] rfl ?_
      refine c_move rfl rfl rfl rfl (v := (.int .i64 x1)) rfl ?_
      refine c_add (p := x1) (q := (1 : Int)) rfl rfl rfl rfl rfl rfl ?_
      refine c_move rfl rfl rfl rfl (v := (.slice Ap0 p0.length cp0)) rfl ?_
      refine c_move rfl rfl rfl rfl (v := (.int .i64 x2)) rfl ?_
      obtain ⟨y1, hy1, hl1⟩ := bnd hl1
      refine can_en (en_ptr hv_p0 (by have := getO_lt hy1; omega)) ?_
      rintro _ _ ⟨rfl, rfl, g1, o2, rfl⟩
      refine can_en (open_Rep_slice_un_u8 hv_p0 hy1) ?_
      rintro _ _ ⟨A1, c1, rfl, rfl⟩
      refine c_indexAddrS (p := x2) rfl rfl rfl rfl Tryz.underlying25 Tryz.sizeOf22 rfl rfl (by have := getO_lt hy1; omega) ?_
      refine c_load1 (v := (.slice A1 y1.length c1)) rfl rfl rfl Tryz.isAgg22 rfl (ldSC (off := o2 + (x2 : Int).toNat * 1) (k := 0) rfl rfl (.head _) (sub1 rfl)) ?_
      refine l_len (m := y1.length) rfl rfl rfl rfl Tryz.underlying22 rfl ?_
      refine c_add (p := (IntKind.wrap .i64 (x1 + (1 : Int)))) (q := ((y1.length : Nat) : Int)) rfl rfl rfl rfl rfl rfl ?_
      refine c_assign rfl rfl rfl rfl (v := (.int .i64 (IntKind.wrap .i64 ((IntKind.wrap .i64 (x1 + (1 : Int))) + ((y1.length : Nat) : Int))))) rfl ?_
      obtain ⟨y2, hy2, hl1⟩ := let_ hl1
      refine can_is 5 (.int .i64 y2) (congrArg (fun z : Int => Value.int .i64 z) hy2) ?_
      refine can_nil ?_
      refine ps_block_normal ?_
      refine ps_then ?_
      refine cs_seq_region [0, 1, 2] rfl ?_
      refine c_move rfl rfl rfl rfl (v := (.int .i64 x2)) rfl ?_
      refine c_add (p := x2) (q := (1 : Int)) rfl rfl rfl rfl rfl rfl ?_
      refine c_assign rfl rfl rfl rfl (v := (.int .i64 (IntKind.wrap .i64 (x2 + (1 : Int))))) rfl ?_
      refine can_nil ?_
      refine ps_en (en_keep (rs) (fun r hr => (.tail _ (.tail _ hr)))) ?_
      rintro _ _ ⟨rfl, rfl⟩
      refine ps_roundS [(5, (.int .i64 y2)), (6, (.int .i64 (IntKind.wrap .i64 (x2 + (1 : Int)))))] ⟨rfl, rfl, trivial⟩ xA k1 (Nat.lt_succ_self _) (⟨y2, (IntKind.wrap .i64 (x2 + (1 : Int))), hl1, rfl, rfl, rfl⟩) (.mk .refl .refl)
    · refine cs_exit ?_
      refine ps_then_exit ?_
      refine ps_then_exit ?_
      obtain rfl := Option.some.inj hl1
      replace h := un2_ h
      obtain ⟨z1, rfl⟩ : ∃ z, z = x1 := ⟨_, rfl⟩
      obtain ⟨z2, rfl⟩ : ∃ z, z = x2 := ⟨_, rfl⟩
      refine ps_block_here ?_
      refine ps_then ?_
      refine cs_seq ?_
      refine cs_seq_region [0, 1] rfl ?_
      refine c_move rfl rfl rfl rfl (v := (.int .i64 z1)) rfl ?_
      refine c_assign rfl rfl rfl rfl (v := (.int .i64 z1)) rfl ?_
      refine can_nil ?_
      refine ps_then ?_
      refine cs_ret ?_
      obtain rfl := Option.some.inj h
      refine ps_en (en_keep (rs) (fun r hr => hr)) ?_
      rintro _ _ ⟨rfl, rfl⟩
      apply ps_end1 rfl Tryz.results7 rfl
      · exact ⟨rfl, rfl, rfl⟩
      · exact .mk .refl .refl
  · refine can_skip rfl rfl rfl (Or.inl rfl) ?_
    refine can_skip rfl rfl rfl (Or.inl rfl) ?_
    refine can_skip rfl rfl rfl (Or.inl rfl) ?_
    refine c_pick rfl rfl rfl rfl rfl (by conv => lhs; whnf) ?_
    refine can_nil ?_
    refine ps_then ?_
    refine cs_false rfl ?_
    refine cs_exit ?_
    refine ps_then_exit ?_
    refine ps_then_exit ?_
    obtain rfl := Option.some.inj hl1
    replace h := un2_ h
    obtain ⟨z1, rfl⟩ : ∃ z, z = x1 := ⟨_, rfl⟩
    obtain ⟨z2, rfl⟩ : ∃ z, z = x2 := ⟨_, rfl⟩
    refine ps_block_here ?_
    refine ps_then ?_
    refine cs_seq ?_
    refine cs_seq_region [0, 1] rfl ?_
    refine c_move rfl rfl rfl rfl (v := (.int .i64 z1)) rfl ?_
    refine c_assign rfl rfl rfl rfl (v := (.int .i64 z1)) rfl ?_
    refine can_nil ?_
    refine ps_then ?_
    refine cs_ret ?_
    obtain rfl := Option.some.inj h
    refine ps_en (en_keep (rs) (fun r hr => hr)) ?_
    rintro _ _ ⟨rfl, rfl⟩
    apply ps_end1 rfl Tryz.results7 rfl
    · exact ⟨rfl, rfl, rfl⟩
    · exact .mk .refl .refl
def lf_ref03_Whole (K : Nat)  : Option (Int × Int × Int × Int) := (some ((65536 : Int), (16 : Int), (16384 : Int), (65536 : Int)))
theorem lf_ref03_Whole_ok (K : Nat)   (w0 : World) (sps : List Sp) (rs : List Fa)  {r0 : Int} {r1 : Int} {r2 : Int} {r3 : Int} (h : lf_ref03_Whole K  = some (r0, r1, r2, r3)) : FnOk Tryz.prog 100 #[] w0 sps rs (fun v s q => v = .agg #[.int .i64 r0, .int .i64 r1, .int .i64 r2, .int .i64 r3] ∧ sps = s ∧ rs = q) := by
  unfold lf_ref03_Whole at h
  refine fn_enter Tryz.func100 rfl Tryz.ntmps100 rfl ?_
  refine cs_seq ?_
  refine cs_seq_region [0] rfl ?_
  refine c_alloc (cs := [(.int .i64 (0 : Int)), (.int .i64 (0 : Int)), (.int .i64 (0 : Int)), (.int .i64 (0 : Int))]) rfl rfl rfl rfl Tryz.zeroValue168 rfl (fun _ => Or.inl rfl) (fun g1 => ?_)
  refine can_nil ?_
  refine ps_then ?_
  refine cs_seq ?_
  refine cs_seq_region [0, 1] rfl ?_
  refine c_buildS (cs := [(.int .i64 (65536 : Int)), (.int .i64 (16 : Int)), (.int .i64 (16384 : Int)), (.int .i64 (65536 : Int))]) rfl rfl rfl rfl Tryz.underlying168 Tryz.zeroValue168 (by intro w; simp [Tryz.sizeOf3]; rfl) rfl rfl ?_
  refine c_storeN (cs := [(.int .i64 (65536 : Int)), (.int .i64 (16 : Int)), (.int .i64 (16384 : Int)), (.int .i64 (65536 : Int))]) rfl rfl rfl Tryz.sizeOf168 rfl rfl Foc.here rfl rfl (by exact Nat.le_of_ble_eq_true rfl) rfl rfl (Or.inl rfl) ?_
  refine can_nil ?_
  refine ps_then ?_
  refine cs_ret ?_
  have hz0 := Option.some.inj h
  obtain ⟨rfl, hz1⟩ := prod2 hz0
  obtain ⟨rfl, hz2⟩ := prod2 hz1
  obtain ⟨rfl, hz3⟩ := prod2 hz2
  obtain rfl := hz3
  refine ps_en (en_keep (rs) (fun r hr => hr)) ?_
  rintro _ _ ⟨rfl, rfl⟩
  apply ps_res1 rfl Tryz.results100 (res_cellN Tryz.isAgg168 Tryz.sizeOf168 rfl (.head _) rfl)
  · exact ⟨rfl, rfl, rfl⟩
  · exact .mk (.cons .refl) .refl
def lf_ref03_Count_l0 (K : Nat)  : Nat → Nat → (List Nat) → Int → Option (Nat × (List Nat) × Int)
  | 0, _, _, _ => none
  | k + 1, x1, x2, x3 => (bif (decide (0 < x1)) then ((appO ([((x1 % 256) % 2 ^ 8)] : List Nat) x2).bind fun y1 => (lf_ref03_Count_l0 K  k (x1 / 256 % 2 ^ 64) y1 (IntKind.wrap .i64 (x3 + (1 : Int))))) else (some (x1, x2, x3)))
def lf_ref03_Count (K : Nat) (p0 : Nat) : Option (List Nat) := (bif (decide (p0 < 192)) then (some ([(p0 % 2 ^ 8)] : List Nat)) else ((lf_ref03_Count_l0 K  K p0 ([] : List Nat) (0 : Int)).bind (fun qz1 => un2 qz1 (fun z1 => fun qz2 => un2 qz2 (fun z2 => fun z3 => ((appO ([(toU .u8 (IntKind.wrap .i64 ((191 : Int) + z3)))] : List Nat) z2).bind fun y2 => (some y2)))))))
end Go.Proofs.YtmodmjekhlnjpaaGreatDoor
