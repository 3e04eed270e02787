/- The proof of PressAnswers, part 4 of 14 (texts joined and shortened by a program: LfA Sha5 ShaT STys Sha6). -/
import Derived.Test.YtmodmjekhlnjpaaGreatDoorPkA3
namespace Go.Proofs.YtmodmjekhlnjpaaGreatDoor
open Go.RowKit Lf
set_option maxRecDepth 4000
theorem lf_ref03_Count_ok (K : Nat) (p0 : Nat)  (w0 : World) (sps : List Sp) (rs : List Fa)  {r0 : (List Nat)} (h : lf_ref03_Count K p0 = some r0) : FnOk Tryz.prog 227 #[.int .u64 ((p0 : Nat) : Int)] w0 sps rs (fun v s q => ∃ (qr0 : Value), v = qr0 ∧ Row (un .u8) 5 qr0 r0 :: sps = s ∧ rs = q) := by
  unfold lf_ref03_Count at h
  refine fn_enter Tryz.func227 rfl Tryz.ntmps227 rfl ?_
  refine cs_seq ?_
  refine cs_seq_region [0] rfl ?_
  refine c_assign rfl rfl rfl rfl (v := (.slice none 0 0)) rfl ?_
  refine can_nil ?_
  refine ps_then ?_
  refine cs_seq ?_
  refine cs_seq ?_
  refine cs_seq_region [0, 1] rfl ?_
  refine c_move rfl rfl rfl rfl (v := (.int .u64 ((p0 : Nat) : Int))) rfl ?_
  refine l_lss (p := p0) (q := 192) rfl rfl rfl rfl rfl rfl ?_
  refine can_nil ?_
  refine ps_then ?_
  refine cs_condL (b := (decide (p0 < 192))) rfl h (fun hc1 h => ?_) (fun hc1 h => ?_)
  · refine cs_seq ?_
    refine cs_seq_region [0, 1, 2, 3] rfl ?_
    refine c_move rfl rfl rfl rfl (v := (.int .u64 ((p0 : Nat) : Int))) rfl ?_
    refine n_conv (p := p0) rfl rfl rfl rfl Tryz.underlying97 Tryz.underlying5 rfl rfl ?_
    refine c_lit (cs := [(.int .u8 (((p0 % 2 ^ 8) : Nat) : Int))]) rfl rfl rfl rfl Tryz.underlying22 Tryz.sizeOf5 Tryz.zeroValue5 rfl rfl rfl rfl rfl (fun _ => Or.inl rfl) (fun g1 => ?_)
    refine can_en (en_litRow (m := 1) (dr := (un .u8)) (xs := ([(p0 % 2 ^ 8)] : List Nat)) Rem.here (fun hh hr => un_reps _) rfl rfl) ?_
    rintro _ _ ⟨rfl, rfl⟩
    refine c_assign rfl rfl rfl rfl (v := (.slice (some ⟨g1, 0, none⟩) 1 1)) rfl ?_
    refine can_nil ?_
    refine ps_then ?_
    refine cs_ret ?_
    refine ps_then_ret ?_
    obtain rfl := Option.some.inj h
    refine ps_en (en_keep (rs) (fun r hr => hr)) ?_
    rintro _ _ ⟨rfl, rfl⟩
    apply ps_end1 rfl Tryz.results227 rfl
    · exact ⟨_, rfl, rfl, rfl⟩
    · exact .mk .refl .refl
  · refine cs_skip ?_
    refine ps_then ?_
    refine cs_seq ?_
    refine cs_seq_region [0] rfl ?_
    refine c_assign rfl rfl rfl rfl (v := (.slice none 0 0)) rfl ?_
    refine can_nil ?_
    refine ps_then ?_
    refine cs_seq ?_
    refine cs_seq_region [0] rfl ?_
    refine c_assign rfl rfl rfl rfl (v := (.int .i64 (0 : Int))) rfl ?_
    refine can_nil ?_
    refine ps_then ?_
    refine cs_seq ?_
    refine cs_block ?_
    refine cs_en (en_nilRow (un .u8) 5) ?_
    rintro _ _ ⟨rfl, rfl⟩
    obtain ⟨o1, hl1, h⟩ := bnd h
    refine cs_loopS [0, 3, 4, 10, 11, 12, 13, 14, 15, 16, 17, 18, 19, 20, 21] (fun m L s r => ∃ (x1 : Nat) (x2 : (List Nat)) (x3 : Int) (A1 : Option Addr) (m1 : Nat) (c1 : Nat), lf_ref03_Count_l0 K  m x1 x2 x3 = some o1 ∧ [(0, (.int .u64 ((x1 : Nat) : Int))), (3, (.slice A1 m1 c1)), (4, (.int .i64 x3))] = L ∧ Row (un .u8) 5 (.slice A1 m1 c1) x2 :: sps = s ∧ rs = r) [(0, (.int .u64 ((p0 : Nat) : Int))), (3, (.slice none 0 0)), (4, (.int .i64 (0 : Int)))] (⟨rfl, rfl, rfl, trivial⟩) (⟨p0, ([] : List Nat), (0 : Int), _, _, _, hl1, rfl, rfl, rfl⟩) ?_
    rintro k1 f1 _ _ _ ⟨x1, x2, x3, A1, m1, c1, hl1, rfl, rfl, rfl⟩
    rcases k1 with _ | k1
    · exact absurd hl1 (by rw [lf_ref03_Count_l0.eq_1]; exact nofun)
    rw [lf_ref03_Count_l0.eq_2] at hl1
    refine cs_en (en_rowLen (.head _)) ?_
    rintro _ _ ⟨rfl, rfl, rfl⟩
    refine cs_seq ?_
    refine cs_seq ?_
    refine cs_seq_region [0, 1] rfl ?_
    refine c_move rfl rfl rfl rfl (v := (.int .u64 ((x1 : Nat) : Int))) rfl ?_
    refine l_gtr (p := x1) (q := 0) rfl rfl rfl rfl rfl rfl ?_
    refine can_nil ?_
    refine ps_then ?_
    refine cs_condL (b := (decide (0 < x1))) rfl hl1 (fun hc2 hl1 => ?_) (fun hc2 hl1 => ?_)
    · refine cs_skip ?_
      refine ps_then ?_
      refine cs_block ?_
      refine cs_seq ?_
      refine cs_seq_region [0, 1, 2, 3, 4, 5, 6] rfl ?_
      refine c_move rfl rfl rfl rfl (v := (.int .u64 ((x1 : Nat) : Int))) rfl ?_
      refine l_rem (p := x1) (q := 256) rfl rfl rfl rfl rfl rfl rfl ?_
      refine n_conv (p := (x1 % 256)) rfl rfl rfl rfl Tryz.underlying97 Tryz.underlying5 rfl rfl ?_
      refine c_lit (cs := [(.int .u8 ((((x1 % 256) % 2 ^ 8) : Nat) : Int))]) rfl rfl rfl rfl Tryz.underlying22 Tryz.sizeOf5 Tryz.zeroValue5 rfl rfl rfl rfl rfl (fun _ => Or.inl rfl) (fun g2 => ?_)
      refine can_en (en_litRow (m := 1) (dr := (un .u8)) (xs := ([((x1 % 256) % 2 ^ 8)] : List Nat)) Rem.here (fun hh hr => un_reps _) rfl rfl) ?_
      rintro _ _ ⟨rfl, rfl⟩
      refine c_move rfl rfl rfl rfl (v := (.slice A1 x2.length c1)) rfl ?_
      refine can_en (en_give (Rem.there Rem.here)) ?_
      rintro _ _ ⟨rfl, rfl⟩
      obtain ⟨y1, hy1, hl1⟩ := bnd hl1
      refine l_append (dr := (un .u8)) (xs := ([((x1 % 256) % 2 ^ 8)] : List Nat)) (ys := x2) rfl rfl rfl rfl sty_22 rfl rfl rfl Foc.here (.head _) hy1 (fun _ => Or.inl rfl) (fun v1 => ?_)
      refine can_en (en_rowShape (xs := y1) (.head _)) ?_
      rintro _ _ ⟨rfl, rfl, A2, c2, rfl, -, -, -⟩
      refine c_assign rfl rfl rfl rfl (v := (.slice A2 y1.length c2)) rfl ?_
      refine can_nil ?_
      refine ps_then ?_
      refine cs_seq ?_
      refine cs_seq_region [0, 1, 2] rfl ?_
      refine c_move rfl rfl rfl rfl (v := (.int .u64 ((x1 : Nat) : Int))) rfl ?_
      refine l_quo (p := x1) (q := 256) rfl rfl rfl rfl rfl rfl rfl rfl ?_
      refine c_assign rfl rfl rfl rfl (v := (.int .u64 (((x1 / 256 % 2 ^ 64) : Nat) : Int))) rfl ?_
      refine can_nil ?_
      refine ps_then ?_
      refine cs_seq_region [0, 1, 2] rfl ?_
      refine c_move rfl rfl rfl rfl (v := (.int .i64 x3)) rfl ?_
      refine c_add (p := x3) (q := (1 : Int)) rfl rfl rfl rfl rfl rfl ?_
      refine c_assign rfl rfl rfl rfl (v := (.int .i64 (IntKind.wrap .i64 (x3 + (1 : Int))))) rfl ?_
      refine can_nil ?_
      refine ps_block_normal ?_
      refine ps_en (en_keep (rs) (fun r hr => (.tail _ hr))) ?_
      rintro _ _ ⟨rfl, rfl⟩
      refine ps_roundS [(0, (.int .u64 (((x1 / 256 % 2 ^ 64) : Nat) : Int))), (3, (.slice A2 y1.length c2)), (4, (.int .i64 (IntKind.wrap .i64 (x3 + (1 : Int)))))] ⟨rfl, rfl, rfl, trivial⟩ xA k1 (Nat.lt_succ_self _) (⟨(x1 / 256 % 2 ^ 64), y1, (IntKind.wrap .i64 (x3 + (1 : Int))), _, _, _, hl1, rfl, rfl, rfl⟩) (.mk .refl .refl)
    · refine cs_exit ?_
      refine ps_then_exit ?_
      refine ps_then_exit ?_
      obtain rfl := Option.some.inj hl1
      replace h := un2_ h
      replace h := un2_ h
      obtain ⟨z1, rfl⟩ : ∃ z, z = x1 := ⟨_, rfl⟩
      obtain ⟨z2, rfl⟩ : ∃ z, z = x2 := ⟨_, rfl⟩
      obtain ⟨z3, rfl⟩ : ∃ z, z = x3 := ⟨_, rfl⟩
      refine ps_block_here ?_
      refine ps_then ?_
      refine cs_seq ?_
      refine cs_seq_region [0, 1, 2, 3, 4, 5, 6] rfl ?_
      refine c_move rfl rfl rfl rfl (v := (.int .i64 z3)) rfl ?_
      refine c_add (p := (191 : Int)) (q := z3) rfl rfl rfl rfl rfl rfl ?_
      refine l_convU (p := (IntKind.wrap .i64 ((191 : Int) + z3))) rfl rfl rfl rfl Tryz.underlying3 Tryz.underlying5 rfl rfl ?_
      refine c_lit (cs := [(.int .u8 (((toU .u8 (IntKind.wrap .i64 ((191 : Int) + z3))) : Nat) : Int))]) rfl rfl rfl rfl Tryz.underlying22 Tryz.sizeOf5 Tryz.zeroValue5 rfl rfl rfl rfl rfl (fun _ => Or.inl rfl) (fun g3 => ?_)
      refine can_en (en_litRow (m := 1) (dr := (un .u8)) (xs := ([(toU .u8 (IntKind.wrap .i64 ((191 : Int) + z3)))] : List Nat)) Rem.here (fun hh hr => un_reps _) rfl rfl) ?_
      rintro _ _ ⟨rfl, rfl⟩
      refine c_move rfl rfl rfl rfl (v := (.slice A1 z2.length c1)) rfl ?_
      refine can_en (en_give (Rem.there Rem.here)) ?_
      rintro _ _ ⟨rfl, rfl⟩
      obtain ⟨y2, hy2, h⟩ := bnd h
      refine l_append (dr := (un .u8)) (xs := ([(toU .u8 (IntKind.wrap .i64 ((191 : Int) + z3)))] : List Nat)) (ys := z2) rfl rfl rfl rfl sty_22 rfl rfl rfl Foc.here (.head _) hy2 (fun _ => Or.inl rfl) (fun v2 => ?_)
      refine can_en (en_rowShape (xs := y2) (.head _)) ?_
      rintro _ _ ⟨rfl, rfl, A3, c3, rfl, -, -, -⟩
      refine c_assign rfl rfl rfl rfl (v := (.slice A3 y2.length c3)) rfl ?_
      refine can_nil ?_
      refine ps_then ?_
      refine cs_ret ?_
      obtain rfl := Option.some.inj h
      refine ps_en (en_keep (rs) (fun r hr => (.tail _ hr))) ?_
      rintro _ _ ⟨rfl, rfl⟩
      apply ps_end1 rfl Tryz.results227 rfl
      · exact ⟨_, rfl, rfl, rfl⟩
      · exact .mk .refl .refl
def lf_ref03_Right_l0 (K : Nat) (self : Int → Nat → (List Nat) → (List GNode) → Option Bool) (p0_3 : (List GNode)) : Nat → Bool → Int → Option (Bool ⊕ (Bool × Int))
  | 0, _, _ => none
  | k + 1, x1, x2 => (bif (decide (x2 < ((p0_3.length : Nat) : Int))) then ((getO p0_3 x2).bind fun y1 => ((self y1.kind y1.num y1.bytes y1.list).bind (fun y2 => (bif (!y2) then (some (Sum.inl false)) else (lf_ref03_Right_l0 K self p0_3 k x1 (IntKind.wrap .i64 (x2 + (1 : Int)))))))) else (some (Sum.inr (x1, x2))))
def lf_ref03_Right_l1 (K : Nat) (self : Int → Nat → (List Nat) → (List GNode) → Option Bool) (p0_3 : (List GNode)) : Nat → Bool → Int → Option (Bool ⊕ (Bool × Int))
  | 0, _, _ => none
  | k + 1, x3, x4 => (bif (decide (x4 < ((p0_3.length : Nat) : Int))) then ((getO p0_3 x4).bind fun y3 => ((self y3.kind y3.num y3.bytes y3.list).bind (fun y4 => (bif (!y4) then (some (Sum.inl false)) else (lf_ref03_Right_l1 K self p0_3 k x3 (IntKind.wrap .i64 (x4 + (1 : Int)))))))) else (some (Sum.inr (x3, x4))))
def lf_ref03_Right_l2 (K : Nat) (self : Int → Nat → (List Nat) → (List GNode) → Option Bool) (p0_3 : (List GNode)) : Nat → Bool → Int → Option (Bool ⊕ (Bool × Int))
  | 0, _, _ => none
  | k + 1, x5, x6 => (bif (decide (x6 < ((p0_3.length : Nat) : Int))) then ((getO p0_3 x6).bind fun y5 => ((self y5.kind y5.num y5.bytes y5.list).bind (fun y6 => (bif (!y6) then (some (Sum.inl false)) else (lf_ref03_Right_l2 K self p0_3 k x5 (IntKind.wrap .i64 (x6 + (1 : Int)))))))) else (some (Sum.inr (x5, x6))))
def lf_ref03_Right_l3 (K : Nat) (self : Int → Nat → (List Nat) → (List GNode) → Option Bool) (p0_3 : (List GNode)) : Nat → Bool → Int → Option (Bool ⊕ (Bool × Int))
  | 0, _, _ => none
  | k + 1, x7, x8 => (bif (decide (x8 < ((p0_3.length : Nat) : Int))) then ((getO p0_3 x8).bind fun y7 => ((self y7.kind y7.num y7.bytes y7.list).bind (fun y8 => (bif (!y8) then (some (Sum.inl false)) else (lf_ref03_Right_l3 K self p0_3 k x7 (IntKind.wrap .i64 (x8 + (1 : Int)))))))) else (some (Sum.inr (x7, x8))))
def lf_ref03_Right_l4 (K : Nat) (self : Int → Nat → (List Nat) → (List GNode) → Option Bool) (p0_3 : (List GNode)) : Nat → Bool → Int → Option (Bool ⊕ (Bool × Int))
  | 0, _, _ => none
  | k + 1, x9, x10 => (bif (decide (x10 < ((p0_3.length : Nat) : Int))) then ((getO p0_3 x10).bind fun y9 => ((self y9.kind y9.num y9.bytes y9.list).bind (fun y10 => (bif (!y10) then (some (Sum.inl false)) else (lf_ref03_Right_l4 K self p0_3 k x9 (IntKind.wrap .i64 (x10 + (1 : Int)))))))) else (some (Sum.inr (x9, x10))))
def lf_ref03_Right_l5 (K : Nat) (self : Int → Nat → (List Nat) → (List GNode) → Option Bool) (p0_3 : (List GNode)) : Nat → Bool → Int → Option (Bool ⊕ (Bool × Int))
  | 0, _, _ => none
  | k + 1, x11, x12 => (bif (decide (x12 < ((p0_3.length : Nat) : Int))) then ((getO p0_3 x12).bind fun y11 => ((self y11.kind y11.num y11.bytes y11.list).bind (fun y12 => (bif (!y12) then (some (Sum.inl false)) else (lf_ref03_Right_l5 K self p0_3 k x11 (IntKind.wrap .i64 (x12 + (1 : Int)))))))) else (some (Sum.inr (x11, x12))))
def lf_ref03_Right_l6 (K : Nat) (self : Int → Nat → (List Nat) → (List GNode) → Option Bool) (p0_3 : (List GNode)) : Nat → Bool → Int → Option (Bool ⊕ (Bool × Int))
  | 0, _, _ => none
  | k + 1, x13, x14 => (bif (decide (x14 < ((p0_3.length : Nat) : Int))) then ((getO p0_3 x14).bind fun y13 => ((self y13.kind y13.num y13.bytes y13.list).bind (fun y14 => (bif (!y14) then (some (Sum.inl false)) else (lf_ref03_Right_l6 K self p0_3 k x13 (IntKind.wrap .i64 (x14 + (1 : Int)))))))) else (some (Sum.inr (x13, x14))))
def lf_ref03_Right_l7 (K : Nat) (self : Int → Nat → (List Nat) → (List GNode) → Option Bool) (p0_3 : (List GNode)) : Nat → Bool → Int → Option (Bool ⊕ (Bool × Int))
  | 0, _, _ => none
  | k + 1, x15, x16 => (bif (decide (x16 < ((p0_3.length : Nat) : Int))) then ((getO p0_3 x16).bind fun y15 => ((self y15.kind y15.num y15.bytes y15.list).bind (fun y16 => (bif (!y16) then (some (Sum.inl false)) else (lf_ref03_Right_l7 K self p0_3 k x15 (IntKind.wrap .i64 (x16 + (1 : Int)))))))) else (some (Sum.inr (x15, x16))))
def lf_ref03_Right_b (K : Nat) (self : Int → Nat → (List Nat) → (List GNode) → Option Bool) (p0_0 : Int) (p0_1 : Nat) (p0_2 : (List Nat)) (p0_3 : (List GNode)) : Option Bool := (bif (decide (p0_0 < (1 : Int))) then (some false) else (bif (decide (p0_0 > (3 : Int))) then (some false) else (bif (decide (p0_0 ≠ (1 : Int))) then (bif (decide (p0_1 ≠ 0)) then (some false) else (bif (decide (p0_0 ≠ (2 : Int))) then (bif (decide (((p0_2.length : Nat) : Int) > (0 : Int))) then (some false) else (bif (decide (p0_0 ≠ (3 : Int))) then (bif (decide (((p0_3.length : Nat) : Int) > (0 : Int))) then (some false) else (bindR (lf_ref03_Right_l0 K self p0_3 K false (0 : Int)) id (fun qz1 => un2 qz1 (fun z1 => fun z2 => (some true))))) else (bindR (lf_ref03_Right_l1 K self p0_3 K false (0 : Int)) id (fun qz3 => un2 qz3 (fun z3 => fun z4 => (some true)))))) else (bif (decide (p0_0 ≠ (3 : Int))) then (bif (decide (((p0_3.length : Nat) : Int) > (0 : Int))) then (some false) else (bindR (lf_ref03_Right_l2 K self p0_3 K false (0 : Int)) id (fun qz5 => un2 qz5 (fun z5 => fun z6 => (some true))))) else (bindR (lf_ref03_Right_l3 K self p0_3 K false (0 : Int)) id (fun qz7 => un2 qz7 (fun z7 => fun z8 => (some true))))))) else (bif (decide (p0_0 ≠ (2 : Int))) then (bif (decide (((p0_2.length : Nat) : Int) > (0 : Int))) then (some false) else (bif (decide (p0_0 ≠ (3 : Int))) then (bif (decide (((p0_3.length : Nat) : Int) > (0 : Int))) then (some false) else (bindR (lf_ref03_Right_l4 K self p0_3 K false (0 : Int)) id (fun qz9 => un2 qz9 (fun z9 => fun z10 => (some true))))) else (bindR (lf_ref03_Right_l5 K self p0_3 K false (0 : Int)) id (fun qz11 => un2 qz11 (fun z11 => fun z12 => (some true)))))) else (bif (decide (p0_0 ≠ (3 : Int))) then (bif (decide (((p0_3.length : Nat) : Int) > (0 : Int))) then (some false) else (bindR (lf_ref03_Right_l6 K self p0_3 K false (0 : Int)) id (fun qz13 => un2 qz13 (fun z13 => fun z14 => (some true))))) else (bindR (lf_ref03_Right_l7 K self p0_3 K false (0 : Int)) id (fun qz15 => un2 qz15 (fun z15 => fun z16 => (some true)))))))))
def lf_ref03_Right (K : Nat) : Nat → Int → Nat → (List Nat) → (List GNode) → Option Bool
  | 0, _, _, _, _ => none
  | k + 1, p0_0, p0_1, p0_2, p0_3 => lf_ref03_Right_b K (lf_ref03_Right K k) p0_0 p0_1 p0_2 p0_3
theorem lf_ref03_Right_ok (K : Nat) : ∀ (k : Nat) (p0_0 : Int) (p0_1 : Nat) (p0_2 : (List Nat)) (p0_3 : (List GNode)) (vp0_2 : Value) (vp0_3 : Value) (w0 : World) (sps : List Sp) (rs : List Fa) (hv_p0_2 : Rd (un .u8) vp0_2 p0_2 ∈ rs) (hv_p0_3 : Rd gN vp0_3 p0_3 ∈ rs) {r0 : Bool} (h : lf_ref03_Right K k p0_0 p0_1 p0_2 p0_3 = some r0), FnOk Tryz.prog 165 #[.agg #[.int .i64 p0_0, .int .u64 ((p0_1 : Nat) : Int), vp0_2, vp0_3]] w0 sps rs (fun v s q => v = .bool r0 ∧ sps = s ∧ rs = q) := by
  intro k
  induction k with
  | zero => intros; rename_i h; exact absurd h (by rw [lf_ref03_Right.eq_1]; exact nofun)
  | succ k ih =>
    intro p0_0 p0_1 p0_2 p0_3 vp0_2 vp0_3 w0 sps rs hv_p0_2 hv_p0_3 r0 h
    rw [lf_ref03_Right.eq_2] at h
    unfold lf_ref03_Right_b at h
    refine fn_en (en_shape hv_p0_2) ?_
    rintro _ _ ⟨rfl, rfl, Ap0_2, cp0_2, rfl, -, -, -⟩
    refine fn_en (en_shape hv_p0_3) ?_
    rintro _ _ ⟨rfl, rfl, Ap0_3, cp0_3, rfl, -, -, -⟩
    refine fn_enter Tryz.func165 rfl Tryz.ntmps165 rfl ?_
    refine cs_seq ?_
    refine cs_seq_region [0, 1] rfl ?_
    refine c_box (cs := [(.int .i64 p0_0), (.int .u64 ((p0_1 : Nat) : Int)), (.slice Ap0_2 p0_2.length cp0_2), (.slice Ap0_3 p0_3.length cp0_3)]) rfl rfl rfl rfl rfl (fun _ => Or.inl rfl) (fun g1 => ?_)
    refine c_assign rfl rfl rfl rfl (v := (.bool false)) rfl ?_
    refine can_nil ?_
    refine ps_then ?_
    refine cs_seq ?_
    refine cs_seq ?_
    refine cs_seq_region [0, 1, 2, 3, 4, 5, 6, 7, 8, 9, 10, 11, 12, 13, 14, 15, 16, 17, 18, 19, 20, 21, 22, 23, 24, 25, 26, 27, 28, 29, 30, 31, 32, 33, 34, 35, 36, 37, 38, 39] rfl ?_
    refine c_fieldAddr rfl rfl rfl rfl Tryz.underlying99 rfl Tryz.sizeOf3 rfl rfl ?_
    refine c_load1 (v := (.int .i64 p0_0)) rfl rfl rfl Tryz.isAgg3 rfl (ldS rfl rfl (.head _) (sub1 rfl)) ?_
    refine c_lss (p := p0_0) (q := (1 : Int)) rfl rfl rfl rfl rfl rfl ?_
    refine c_move rfl rfl rfl rfl (v := (.bool (decide (p0_0 < (1 : Int))))) rfl ?_
    refine can_splitL 7 (b := (decide (p0_0 < (1 : Int)))) rfl h (fun hg1 h => ?_) (fun hg1 h => ?_)
    · refine can_skip rfl rfl rfl (Or.inl rfl) ?_
      refine can_skip rfl rfl rfl (Or.inl rfl) ?_
      refine can_skip rfl rfl rfl (Or.inl rfl) ?_
      refine c_pick rfl rfl rfl rfl rfl (by conv => lhs; whnf) ?_
      refine c_move rfl rfl rfl rfl (v := (.bool true)) rfl ?_
      refine can_skip rfl rfl rfl (Or.inl rfl) ?_
      refine can_skip rfl rfl rfl (Or.inl rfl) ?_
      refine can_skip rfl rfl rfl (Or.inl rfl) ?_
      refine can_skip rfl rfl rfl (Or.inl rfl) ?_
      refine can_skip rfl rfl rfl (Or.inl rfl) ?_
      refine can_skip rfl rfl rfl (Or.inl rfl) ?_
      refine can_skip rfl rfl rfl (Or.inl rfl) ?_
      refine can_skip rfl rfl rfl (Or.inl rfl) ?_
      refine c_pick rfl rfl rfl rfl rfl (by conv => lhs; whnf) ?_
      refine c_move rfl rfl rfl rfl (v := (.bool true)) rfl ?_
      refine can_skip rfl rfl rfl (Or.inl rfl) ?_
      refine can_skip rfl rfl rfl (Or.inl rfl) ?_
      refine can_skip rfl rfl rfl (Or.inl rfl) ?_
      refine can_skip rfl rfl rfl (Or.inl rfl) ?_
      refine can_skip rfl rfl rfl (Or.inl rfl) ?_
      refine can_skip rfl rfl rfl (Or.inl rfl) ?_
      refine can_skip rfl rfl rfl (Or.inl rfl) ?_
      refine can_skip rfl rfl rfl (Or.inl rfl) ?_
      refine can_skip rfl rfl rfl (Or.inl rfl) ?_
      refine c_pick rfl rfl rfl rfl rfl (by conv => lhs; whnf) ?_
      refine c_move rfl rfl rfl rfl (v := (.bool true)) rfl ?_
      refine can_skip rfl rfl rfl (Or.inl rfl) ?_
      refine can_skip rfl rfl rfl (Or.inl rfl) ?_
      refine can_skip rfl rfl rfl (Or.inl rfl) ?_
      refine can_skip rfl rfl rfl (Or.inl rfl) ?_
      refine can_skip rfl rfl rfl (Or.inl rfl) ?_
      refine can_skip rfl rfl rfl (Or.inl rfl) ?_
      refine can_skip rfl rfl rfl (Or.inl rfl) ?_
      refine can_skip rfl rfl rfl (Or.inl rfl) ?_
      refine can_skip rfl rfl rfl (Or.inl rfl) ?_
      refine c_pick rfl rfl rfl rfl rfl (by conv => lhs; whnf) ?_
      refine can_nil ?_
      refine ps_then ?_
      refine cs_true rfl ?_
      refine cs_seq ?_
      refine cs_seq_region [0] rfl ?_
      refine c_assign rfl rfl rfl rfl (v := (.bool false)) rfl ?_
      refine can_nil ?_
      refine ps_then ?_
      refine cs_ret ?_
      refine ps_then_ret ?_
      obtain rfl := Option.some.inj h
      refine ps_en (en_arr (sps' := sps) (Arr.sub (List.Sublist.cons _ (List.Sublist.refl _)))) ?_
      rintro _ _ ⟨rfl, rfl⟩
      refine ps_en (en_keep (rs) (fun r hr => hr)) ?_
      rintro _ _ ⟨rfl, rfl⟩
      apply ps_end1 rfl Tryz.results165 rfl
      · exact ⟨rfl, rfl, rfl⟩
      · exact .mk .refl .refl
    · refine c_fieldAddr rfl rfl rfl rfl Tryz.underlying99 rfl Tryz.sizeOf3 rfl rfl ?_
      refine c_load1 (v := (.int .i64 p0_0)) rfl rfl rfl Tryz.isAgg3 rfl (ldS rfl rfl (.head _) (sub1 rfl)) ?_
      refine c_gtr (p := p0_0) (q := (3 : Int)) rfl rfl rfl rfl rfl rfl ?_
      refine c_pick rfl rfl rfl rfl rfl (by conv => lhs; whnf) ?_
      refine c_move rfl rfl rfl rfl (v := (.bool (decide (p0_0 > (3 : Int))))) rfl ?_
      refine can_splitL 12 (b := (decide (p0_0 > (3 : Int)))) rfl h (fun hg2 h => ?_) (fun hg2 h => ?_)
      · refine can_skip rfl rfl rfl (Or.inl rfl) ?_
        refine can_skip rfl rfl rfl (Or.inl rfl) ?_
        refine can_skip rfl rfl rfl (Or.inl rfl) ?_
        refine can_skip rfl rfl rfl (Or.inl rfl) ?_
        refine can_skip rfl rfl rfl (Or.inl rfl) ?_
        refine can_skip rfl rfl rfl (Or.inl rfl) ?_
        refine can_skip rfl rfl rfl (Or.inl rfl) ?_
        refine can_skip rfl rfl rfl (Or.inl rfl) ?_
        refine c_pick rfl rfl rfl rfl rfl (by conv => lhs; whnf) ?_
        refine c_move rfl rfl rfl rfl (v := (.bool true)) rfl ?_
        refine can_skip rfl rfl rfl (Or.inl rfl) ?_
        refine can_skip rfl rfl rfl (Or.inl rfl) ?_
        refine can_skip rfl rfl rfl (Or.inl rfl) ?_
        refine can_skip rfl rfl rfl (Or.inl rfl) ?_
        refine can_skip rfl rfl rfl (Or.inl rfl) ?_
        refine can_skip rfl rfl rfl (Or.inl rfl) ?_
        refine can_skip rfl rfl rfl (Or.inl rfl) ?_
        refine can_skip rfl rfl rfl (Or.inl rfl) ?_
        refine can_skip rfl rfl rfl (Or.inl rfl) ?_
        refine c_pick rfl rfl rfl rfl rfl (by conv => lhs; whnf) ?_
        refine c_move rfl rfl rfl rfl (v := (.bool true)) rfl ?_
        refine can_skip rfl rfl rfl (Or.inl rfl) ?_
        refine can_skip rfl rfl rfl (Or.inl rfl) ?_
        refine can_skip rfl rfl rfl (Or.inl rfl) ?_
        refine can_skip rfl rfl rfl (Or.inl rfl) ?_
        refine can_skip rfl rfl rfl (Or.inl rfl) ?_
        refine can_skip rfl rfl rfl (Or.inl rfl) ?_
        refine can_skip rfl rfl rfl (Or.inl rfl) ?_
        refine can_skip rfl rfl rfl (Or.inl rfl) ?_
        refine can_skip rfl rfl rfl (Or.inl rfl) ?_
        refine c_pick rfl rfl rfl rfl rfl (by conv => lhs; whnf) ?_
        refine can_nil ?_
        refine ps_then ?_
        refine cs_true rfl ?_
        refine cs_seq ?_
        refine cs_seq_region [0] rfl ?_
        refine c_assign rfl rfl rfl rfl (v := (.bool false)) rfl ?_
        refine can_nil ?_
        refine ps_then ?_
        refine cs_ret ?_
        refine ps_then_ret ?_
        obtain rfl := Option.some.inj h
        refine ps_en (en_arr (sps' := sps) (Arr.sub (List.Sublist.cons _ (List.Sublist.refl _)))) ?_
        rintro _ _ ⟨rfl, rfl⟩
        refine ps_en (en_keep (rs) (fun r hr => hr)) ?_
        rintro _ _ ⟨rfl, rfl⟩
        apply ps_end1 rfl Tryz.results165 rfl
        · exact ⟨rfl, rfl, rfl⟩
        · exact .mk .refl .refl
      · refine c_fieldAddr rfl rfl rfl rfl Tryz.underlying99 rfl Tryz.sizeOf3 rfl rfl ?_
        refine c_load1 (v := (.int .i64 p0_0)) rfl rfl rfl Tryz.isAgg3 rfl (ldS rfl rfl (.head _) (sub1 rfl)) ?_
        refine l_neqI (p := p0_0) (q := (1 : Int)) rfl rfl rfl rfl rfl rfl ?_
        refine c_move rfl rfl rfl rfl (v := (.bool (decide (p0_0 ≠ (1 : Int))))) rfl ?_
        refine can_splitL 16 (b := (decide (p0_0 ≠ (1 : Int)))) rfl h (fun hg3 h => ?_) (fun hg3 h => ?_)
        · refine c_fieldAddr rfl rfl rfl rfl Tryz.underlying99 rfl Tryz.sizeOf97 rfl rfl ?_
          refine c_load1 (v := (.int .u64 ((p0_1 : Nat) : Int))) rfl rfl rfl Tryz.isAgg97 rfl (ldS rfl rfl (.head _) (sub1 rfl)) ?_
          refine l_neq (p := p0_1) (q := 0) rfl rfl rfl rfl rfl rfl ?_
          refine c_pick rfl rfl rfl rfl rfl (by conv => lhs; whnf) ?_
          refine c_pick rfl rfl rfl rfl rfl (by conv => lhs; whnf) ?_
          refine c_move rfl rfl rfl rfl (v := (.bool (decide (p0_1 ≠ 0)))) rfl ?_
          refine can_splitL 22 (b := (decide (p0_1 ≠ 0))) rfl h (fun hg4 h => ?_) (fun hg4 h => ?_)
          · refine can_skip rfl rfl rfl (Or.inl rfl) ?_
            refine can_skip rfl rfl rfl (Or.inl rfl) ?_
            refine can_skip rfl rfl rfl (Or.inl rfl) ?_
            refine can_skip rfl rfl rfl (Or.inl rfl) ?_
            refine can_skip rfl rfl rfl (Or.inl rfl) ?_
            refine can_skip rfl rfl rfl (Or.inl rfl) ?_
            refine can_skip rfl rfl rfl (Or.inl rfl) ?_
            refine can_skip rfl rfl rfl (Or.inl rfl) ?_
            refine can_skip rfl rfl rfl (Or.inl rfl) ?_
            refine c_pick rfl rfl rfl rfl rfl (by conv => lhs; whnf) ?_
            refine c_move rfl rfl rfl rfl (v := (.bool true)) rfl ?_
            refine can_skip rfl rfl rfl (Or.inl rfl) ?_
            refine can_skip rfl rfl rfl (Or.inl rfl) ?_
            refine can_skip rfl rfl rfl (Or.inl rfl) ?_
            refine can_skip rfl rfl rfl (Or.inl rfl) ?_
            refine can_skip rfl rfl rfl (Or.inl rfl) ?_
            refine can_skip rfl rfl rfl (Or.inl rfl) ?_
            refine can_skip rfl rfl rfl (Or.inl rfl) ?_
            refine can_skip rfl rfl rfl (Or.inl rfl) ?_
            refine can_skip rfl rfl rfl (Or.inl rfl) ?_
            refine c_pick rfl rfl rfl rfl rfl (by conv => lhs; whnf) ?_
            refine can_nil ?_
            refine ps_then ?_
            refine cs_true rfl ?_
            refine cs_seq ?_
            refine cs_seq_region [0] rfl ?_
            refine c_assign rfl rfl rfl rfl (v := (.bool false)) rfl ?_
            refine can_nil ?_
            refine ps_then ?_
            refine cs_ret ?_
            refine ps_then_ret ?_
            obtain rfl := Option.some.inj h
            refine ps_en (en_arr (sps' := sps) (Arr.sub (List.Sublist.cons _ (List.Sublist.refl _)))) ?_
            rintro _ _ ⟨rfl, rfl⟩
            refine ps_en (en_keep (rs) (fun r hr => hr)) ?_
            rintro _ _ ⟨rfl, rfl⟩
            apply ps_end1 rfl Tryz.results165 rfl
            · exact ⟨rfl, rfl, rfl⟩
            · exact .mk .refl .refl
          · refine c_fieldAddr rfl rfl rfl rfl Tryz.underlying99 rfl Tryz.sizeOf3 rfl rfl ?_
            refine c_load1 (v := (.int .i64 p0_0)) rfl rfl rfl Tryz.isAgg3 rfl (ldS rfl rfl (.head _) (sub1 rfl)) ?_
            refine l_neqI (p := p0_0) (q := (2 : Int)) rfl rfl rfl rfl rfl rfl ?_
            refine c_move rfl rfl rfl rfl (v := (.bool (decide (p0_0 ≠ (2 : Int))))) rfl ?_
            refine can_splitL 26 (b := (decide (p0_0 ≠ (2 : Int)))) rfl h (fun hg5 h => ?_) (fun hg5 h => ?_)
            · refine c_fieldAddr rfl rfl rfl rfl Tryz.underlying99 rfl Tryz.sizeOf22 rfl rfl ?_
              refine c_load1 (v := (.slice Ap0_2 p0_2.length cp0_2)) rfl rfl rfl Tryz.isAgg22 rfl (ldS rfl rfl (.head _) (sub1 rfl)) ?_
              refine l_len (m := p0_2.length) rfl rfl rfl rfl Tryz.underlying22 rfl ?_
              refine c_gtr (p := ((p0_2.length : Nat) : Int)) (q := (0 : Int)) rfl rfl rfl rfl rfl rfl ?_
              refine c_pick rfl rfl rfl rfl rfl (by conv => lhs; whnf) ?_
              refine c_pick rfl rfl rfl rfl rfl (by conv => lhs; whnf) ?_
              refine c_move rfl rfl rfl rfl (v := (.bool (decide (((p0_2.length : Nat) : Int) > (0 : Int))))) rfl ?_
              refine can_splitL 33 (b := (decide (((p0_2.length : Nat) : Int) > (0 : Int)))) rfl h (fun hg6 h => ?_) (fun hg6 h => ?_)
              · refine can_skip rfl rfl rfl (Or.inl rfl) ?_
                refine can_skip rfl rfl rfl (Or.inl rfl) ?_
                refine can_skip rfl rfl rfl (Or.inl rfl) ?_
                refine can_skip rfl rfl rfl (Or.inl rfl) ?_
                refine can_skip rfl rfl rfl (Or.inl rfl) ?_
                refine can_skip rfl rfl rfl (Or.inl rfl) ?_
                refine can_skip rfl rfl rfl (Or.inl rfl) ?_
                refine can_skip rfl rfl rfl (Or.inl rfl) ?_
                refine can_skip rfl rfl rfl (Or.inl rfl) ?_
                refine c_pick rfl rfl rfl rfl rfl (by conv => lhs; whnf) ?_
                refine can_nil ?_
                refine ps_then ?_
                refine cs_true rfl ?_
                refine cs_seq ?_
                refine cs_seq_region [0] rfl ?_
                refine c_assign rfl rfl rfl rfl (v := (.bool false)) rfl ?_
                refine can_nil ?_
                refine ps_then ?_
                refine cs_ret ?_
                refine ps_then_ret ?_
                obtain rfl := Option.some.inj h
                refine ps_en (en_arr (sps' := sps) (Arr.sub (List.Sublist.cons _ (List.Sublist.refl _)))) ?_
                rintro _ _ ⟨rfl, rfl⟩
                refine ps_en (en_keep (rs) (fun r hr => hr)) ?_
                rintro _ _ ⟨rfl, rfl⟩
                apply ps_end1 rfl Tryz.results165 rfl
                · exact ⟨rfl, rfl, rfl⟩
                · exact .mk .refl .refl
              · refine c_fieldAddr rfl rfl rfl rfl Tryz.underlying99 rfl Tryz.sizeOf3 rfl rfl ?_
                refine c_load1 (v := (.int .i64 p0_0)) rfl rfl rfl Tryz.isAgg3 rfl (ldS rfl rfl (.head _) (sub1 rfl)) ?_
                refine l_neqI (p := p0_0) (q := (3 : Int)) rfl rfl rfl rfl rfl rfl ?_
                refine c_move rfl rfl rfl rfl (v := (.bool (decide (p0_0 ≠ (3 : Int))))) rfl ?_
                refine can_splitL 37 (b := (decide (p0_0 ≠ (3 : Int)))) rfl h (fun hg7 h => ?_) (fun hg7 h => ?_)
                · refine c_fieldAddr rfl rfl rfl rfl Tryz.underlying99 rfl Tryz.sizeOf96 rfl rfl ?_
                  refine c_load1 (v := (.slice Ap0_3 p0_3.length cp0_3)) rfl rfl rfl Tryz.isAgg96 rfl (ldS rfl rfl (.head _) (sub1 rfl)) ?_
                  refine l_len (m := p0_3.length) rfl rfl rfl rfl Tryz.underlying96 rfl ?_
                  refine c_gtr (p := ((p0_3.length : Nat) : Int)) (q := (0 : Int)) rfl rfl rfl rfl rfl rfl ?_
                  refine c_pick rfl rfl rfl rfl rfl (by conv => lhs; whnf) ?_
                  refine c_pick rfl rfl rfl rfl rfl (by conv => lhs; whnf) ?_
                  refine can_nil ?_
                  refine ps_then ?_
                  refine cs_condL (b := (decide (((p0_3.length : Nat) : Int) > (0 : Int)))) rfl h (fun hc1 h => ?_) (fun hc1 h => ?_)
                  · refine cs_seq ?_
                    refine cs_seq_region [0] rfl ?_
                    refine c_assign rfl rfl rfl rfl (v := (.bool false)) rfl ?_
                    refine can_nil ?_
                    refine ps_then ?_
                    refine cs_ret ?_
                    refine ps_then_ret ?_
                    obtain rfl := Option.some.inj h
                    refine ps_en (en_arr (sps' := sps) (Arr.sub (List.Sublist.cons _ (List.Sublist.refl _)))) ?_
                    rintro _ _ ⟨rfl, rfl⟩
                    refine ps_en (en_keep (rs) (fun r hr => hr)) ?_
                    rintro _ _ ⟨rfl, rfl⟩
                    apply ps_end1 rfl Tryz.results165 rfl
                    · exact ⟨rfl, rfl, rfl⟩
                    · exact .mk .refl .refl
                  · refine cs_skip ?_
                    refine ps_then ?_
                    refine cs_seq ?_
                    refine cs_seq ?_
                    refine cs_seq_region [0] rfl ?_
                    refine c_assign rfl rfl rfl rfl (v := (.int .i64 (0 : Int))) rfl ?_
                    refine can_nil ?_
                    refine ps_then ?_
                    refine cs_block ?_
                    obtain ⟨o1, hl1, h⟩ := bndR h
                    refine cs_loopS [2, 3, 44, 45, 46, 47, 48, 49, 50, 51, 52, 53, 54, 55, 56, 57] (fun m L s r => ∃ (x1 : Bool) (x2 : Int), lf_ref03_Right_l0 K (lf_ref03_Right K k) p0_3 m x1 x2 = some o1 ∧ [(2, (.bool x1)), (3, (.int .i64 x2))] = L ∧ Bk g1 [(.int .i64 p0_0), (.int .u64 ((p0_1 : Nat) : Int)), (.slice Ap0_2 p0_2.length cp0_2), (.slice Ap0_3 p0_3.length cp0_3)] 99 :: sps = s ∧ rs = r) [(2, (.bool false)), (3, (.int .i64 (0 : Int)))] (⟨rfl, rfl, trivial⟩) (⟨false, (0 : Int), hl1, rfl, rfl, rfl⟩) ?_
                    rintro k1 f1 _ _ _ ⟨x1, x2, hl1, rfl, rfl, rfl⟩
                    rcases k1 with _ | k1
                    · exact absurd hl1 (by rw [lf_ref03_Right_l0.eq_1]; exact nofun)
                    rw [lf_ref03_Right_l0.eq_2] at hl1
                    refine cs_seq ?_
                    refine cs_seq ?_
                    refine cs_seq_region [0, 1, 2, 3, 4] rfl ?_
                    refine c_move rfl rfl rfl rfl (v := (.int .i64 x2)) rfl ?_
                    refine c_fieldAddr rfl rfl rfl rfl Tryz.underlying99 rfl Tryz.sizeOf96 rfl rfl ?_
                    refine c_load1 (v := (.slice Ap0_3 p0_3.length cp0_3)) rfl rfl rfl Tryz.isAgg96 rfl (ldS rfl rfl (.head _) (sub1 rfl)) ?_
                    refine l_len (m := p0_3.length) rfl rfl rfl rfl Tryz.underlying96 rfl ?_
                    refine c_lss (p := x2) (q := ((p0_3.length : Nat) : Int)) rfl rfl rfl rfl rfl rfl ?_
                    refine can_nil ?_
                    refine ps_then ?_
                    refine cs_condL (b := (decide (x2 < ((p0_3.length : Nat) : Int)))) rfl hl1 (fun hc2 hl1 => ?_) (fun hc2 hl1 => ?_)
                    · refine cs_skip ?_
                      refine ps_then ?_
                      refine cs_seq ?_
                      refine cs_block ?_
                      refine cs_seq ?_
                      refine cs_seq_region [0, 1, 2, 3, 4, 5, 6] rfl ?_
                      refine c_fieldAddr rfl rfl rfl rfl Tryz.underlying99 rfl Tryz.sizeOf96 rfl rfl ?_
                      refine c_load1 (v := (.slice Ap0_3 p0_3.length cp0_3)) rfl rfl rfl Tryz.isAgg96 rfl (ldS rfl rfl (.head _) (sub1 rfl)) ?_
                      refine c_move rfl rfl rfl rfl (v := (.int .i64 x2)) rfl ?_
                      obtain ⟨y1, hy1, hl1⟩ := bnd hl1
                      refine can_en (en_ptr hv_p0_3 (by have := getO_lt hy1; omega)) ?_
                      rintro _ _ ⟨rfl, rfl, g2, o2, rfl⟩
                      refine can_en (open_gN hv_p0_3 hy1) ?_
                      rintro _ _ ⟨A1, c1, A2, c2, rfl, rfl⟩
                      refine c_indexAddrS (p := x2) rfl rfl rfl rfl Tryz.underlying96 Tryz.sizeOf99 rfl rfl (by have := getO_lt hy1; omega) ?_
                      refine c_loadN (cs := [(.int .i64 y1.kind), (.int .u64 ((y1.num : Nat) : Int)), (.slice A1 y1.bytes.length c1), (.slice A2 y1.list.length c2)]) rfl rfl rfl Tryz.isAgg99 Tryz.sizeOf99 rfl (ldSC (off := o2 + (x2 : Int).toNat * 4) (k := 0) rfl rfl (.head _) (subN (m := 4) rfl)) rfl ?_
                      obtain ⟨y2, hy2, hl1⟩ := bnd hl1
                      refine c_call rfl rfl rfl rfl Tryz.call165 (ih y1.kind y1.num y1.bytes y1.list (.slice A1 y1.bytes.length c1) (.slice A2 y1.list.length c2) w0 _ _ (.tail _ (.head _)) (.tail _ (.tail _ (.head _))) hy2) rfl (fun _ _ _ _ => Or.inl rfl) ?_
                      rintro _ _ _ ⟨rfl, rfl, rfl⟩
                      refine c_not rfl rfl rfl rfl rfl ?_
                      refine can_nil ?_
                      refine ps_then ?_
                      refine cs_condL (b := (!y2)) rfl hl1 (fun hc3 hl1 => ?_) (fun hc3 hl1 => ?_)
                      · refine cs_seq ?_
                        refine cs_seq_region [0] rfl ?_
                        refine c_assign rfl rfl rfl rfl (v := (.bool false)) rfl ?_
                        refine can_nil ?_
                        refine ps_then ?_
                        refine cs_ret ?_
                        refine ps_block_ret ?_
                        refine ps_then_ret ?_
                        refine ps_then_ret ?_
                        refine ps_block_ret ?_
                        refine ps_then_ret ?_
                        obtain rfl := Option.some.inj hl1
                        replace h := kR_i h
                        obtain rfl := Option.some.inj h
                        refine ps_en (en_arr (sps' := sps) (Arr.sub (List.Sublist.cons _ (List.Sublist.refl _)))) ?_
                        rintro _ _ ⟨rfl, rfl⟩
                        refine ps_en (en_keep (rs) (fun r hr => (.tail _ (.tail _ (.tail _ hr))))) ?_
                        rintro _ _ ⟨rfl, rfl⟩
                        apply ps_end1 rfl Tryz.results165 rfl
                        · exact ⟨rfl, rfl, rfl⟩
                        · exact .mk .refl .refl
                      · refine cs_skip ?_
                        refine ps_block_normal ?_
                        refine ps_then ?_
                        refine cs_seq_region [0, 1, 2] rfl ?_
                        refine c_move rfl rfl rfl rfl (v := (.int .i64 x2)) rfl ?_
                        refine c_add (p := x2) (q := (1 : Int)) rfl rfl rfl rfl rfl rfl ?_
                        refine c_assign rfl rfl rfl rfl (v := (.int .i64 (IntKind.wrap .i64 (x2 + (1 : Int))))) rfl ?_
                        refine can_nil ?_
                        refine ps_en (en_keep (rs) (fun r hr => (.tail _ (.tail _ (.tail _ hr))))) ?_
                        rintro _ _ ⟨rfl, rfl⟩
                        refine ps_roundS [(2, (.bool x1)), (3, (.int .i64 (IntKind.wrap .i64 (x2 + (1 : Int)))))] ⟨rfl, rfl, trivial⟩ xA k1 (Nat.lt_succ_self _) (⟨x1, (IntKind.wrap .i64 (x2 + (1 : Int))), hl1, rfl, rfl, rfl⟩) (.mk .refl .refl)
                    · refine cs_exit ?_
                      refine ps_then_exit ?_
                      refine ps_then_exit ?_
                      obtain rfl := Option.some.inj hl1
                      replace h := kR_r h
                      replace h := un2_ h
                      obtain ⟨z1, rfl⟩ : ∃ z, z = x1 := ⟨_, rfl⟩
                      obtain ⟨z2, rfl⟩ : ∃ z, z = x2 := ⟨_, rfl⟩
                      refine ps_block_here ?_
                      refine ps_then ?_
                      refine cs_seq ?_
                      refine cs_seq_region [0] rfl ?_
                      refine c_assign rfl rfl rfl rfl (v := (.bool true)) rfl ?_
                      refine can_nil ?_
                      refine ps_then ?_
                      refine cs_ret ?_
                      obtain rfl := Option.some.inj h
                      refine ps_en (en_arr (sps' := sps) (Arr.sub (List.Sublist.cons _ (List.Sublist.refl _)))) ?_
                      rintro _ _ ⟨rfl, rfl⟩
                      refine ps_en (en_keep (rs) (fun r hr => hr)) ?_
                      rintro _ _ ⟨rfl, rfl⟩
                      apply ps_end1 rfl Tryz.results165 rfl
                      · exact ⟨rfl, rfl, rfl⟩
                      · exact .mk .refl .refl
                · refine can_skip rfl rfl rfl (Or.inl rfl) ?_
                  refine can_skip rfl rfl rfl (Or.inl rfl) ?_
                  refine can_skip rfl rfl rfl (Or.inl rfl) ?_
                  refine can_skip rfl rfl rfl (Or.inl rfl) ?_
                  refine c_pick rfl rfl rfl rfl rfl (by conv => lhs; whnf) ?_
                  refine c_pick rfl rfl rfl rfl rfl (by conv => lhs; whnf) ?_
                  refine can_nil ?_
                  refine ps_then ?_
                  refine cs_false rfl ?_
                  refine cs_skip ?_
                  refine ps_then ?_
                  refine cs_seq ?_
                  refine cs_seq ?_
                  refine cs_seq_region [0] rfl ?_
                  refine c_assign rfl rfl rfl rfl (v := (.int .i64 (0 : Int))) rfl ?_
                  refine can_nil ?_
                  refine ps_then ?_
                  refine cs_block ?_
                  obtain ⟨o3, hl2, h⟩ := bndR h
                  refine cs_loopS [2, 3, 44, 45, 46, 47, 48, 49, 50, 51, 52, 53, 54, 55, 56, 57] (fun m L s r => ∃ (x3 : Bool) (x4 : Int), lf_ref03_Right_l1 K (lf_ref03_Right K k) p0_3 m x3 x4 = some o3 ∧ [(2, (.bool x3)), (3, (.int .i64 x4))] = L ∧ Bk g1 [(.int .i64 p0_0), (.int .u64 ((p0_1 : Nat) : Int)), (.slice Ap0_2 p0_2.length cp0_2), (.slice Ap0_3 p0_3.length cp0_3)] 99 :: sps = s ∧ rs = r) [(2, (.bool false)), (3, (.int .i64 (0 : Int)))] (⟨rfl, rfl, trivial⟩) (⟨false, (0 : Int), hl2, rfl, rfl, rfl⟩) ?_
                  rintro k2 f2 _ _ _ ⟨x3, x4, hl2, rfl, rfl, rfl⟩
                  rcases k2 with _ | k2
                  · exact absurd hl2 (by rw [lf_ref03_Right_l1.eq_1]; exact nofun)
                  rw [lf_ref03_Right_l1.eq_2] at hl2
                  refine cs_seq ?_
                  refine cs_seq ?_
                  refine cs_seq_region [0, 1, 2, 3, 4] rfl ?_
                  refine c_move rfl rfl rfl rfl (v := (.int .i64 x4)) rfl ?_
                  refine c_fieldAddr rfl rfl rfl rfl Tryz.underlying99 rfl Tryz.sizeOf96 rfl rfl ?_
                  refine c_load1 (v := (.slice Ap0_3 p0_3.length cp0_3)) rfl rfl rfl Tryz.isAgg96 rfl (ldS rfl rfl (.head _) (sub1 rfl)) ?_
                  refine l_len (m := p0_3.length) rfl rfl rfl rfl Tryz.underlying96 rfl ?_
                  refine c_lss (p := x4) (q := ((p0_3.length : Nat) : Int)) rfl rfl rfl rfl rfl rfl ?_
                  refine can_nil ?_
                  refine ps_then ?_
                  refine cs_condL (b := (decide (x4 < ((p0_3.length : Nat) : Int)))) rfl hl2 (fun hc4 hl2 => ?_) (fun hc4 hl2 => ?_)
                  · refine cs_skip ?_
                    refine ps_then ?_
                    refine cs_seq ?_
                    refine cs_block ?_
                    refine cs_seq ?_
                    refine cs_seq_region [0, 1, 2, 3, 4, 5, 6] rfl ?_
                    refine c_fieldAddr rfl rfl rfl rfl Tryz.underlying99 rfl Tryz.sizeOf96 rfl rfl ?_
                    refine c_load1 (v := (.slice Ap0_3 p0_3.length cp0_3)) rfl rfl rfl Tryz.isAgg96 rfl (ldS rfl rfl (.head _) (sub1 rfl)) ?_
                    refine c_move rfl rfl rfl rfl (v := (.int .i64 x4)) rfl ?_
                    obtain ⟨y3, hy3, hl2⟩ := bnd hl2
                    refine can_en (en_ptr hv_p0_3 (by have := getO_lt hy3; omega)) ?_
                    rintro _ _ ⟨rfl, rfl, g3, o4, rfl⟩
                    refine can_en (open_gN hv_p0_3 hy3) ?_
                    rintro _ _ ⟨A3, c3, A4, c4, rfl, rfl⟩
                    refine c_indexAddrS (p := x4) rfl rfl rfl rfl Tryz.underlying96 Tryz.sizeOf99 rfl rfl (by have := getO_lt hy3; omega) ?_
                    refine c_loadN (cs := [(.int .i64 y3.kind), (.int .u64 ((y3.num : Nat) : Int)), (.slice A3 y3.bytes.length c3), (.slice A4 y3.list.length c4)]) rfl rfl rfl Tryz.isAgg99 Tryz.sizeOf99 rfl (ldSC (off := o4 + (x4 : Int).toNat * 4) (k := 0) rfl rfl (.head _) (subN (m := 4) rfl)) rfl ?_
                    obtain ⟨y4, hy4, hl2⟩ := bnd hl2
                    refine c_call rfl rfl rfl rfl Tryz.call165 (ih y3.kind y3.num y3.bytes y3.list (.slice A3 y3.bytes.length c3) (.slice A4 y3.list.length c4) w0 _ _ (.tail _ (.head _)) (.tail _ (.tail _ (.head _))) hy4) rfl (fun _ _ _ _ => Or.inl rfl) ?_
                    rintro _ _ _ ⟨rfl, rfl, rfl⟩
                    refine c_not rfl rfl rfl rfl rfl ?_
                    refine can_nil ?_
                    refine ps_then ?_
                    refine cs_condL (b := (!y4)) rfl hl2 (fun hc5 hl2 => ?_) (fun hc5 hl2 => ?_)
                    · refine cs_seq ?_
                      refine cs_seq_region [0] rfl ?_
                      refine c_assign rfl rfl rfl rfl (v := (.bool false)) rfl ?_
                      refine can_nil ?_
                      refine ps_then ?_
                      refine cs_ret ?_
                      refine ps_block_ret ?_
                      refine ps_then_ret ?_
                      refine ps_then_ret ?_
                      refine ps_block_ret ?_
                      refine ps_then_ret ?_
                      obtain rfl := Option.some.inj hl2
                      replace h := kR_i h
                      obtain rfl := Option.some.inj h
                      refine ps_en (en_arr (sps' := sps) (Arr.sub (List.Sublist.cons _ (List.Sublist.refl _)))) ?_
                      rintro _ _ ⟨rfl, rfl⟩
                      refine ps_en (en_keep (rs) (fun r hr => (.tail _ (.tail _ (.tail _ hr))))) ?_
                      rintro _ _ ⟨rfl, rfl⟩
                      apply ps_end1 rfl Tryz.results165 rfl
                      · exact ⟨rfl, rfl, rfl⟩
                      · exact .mk .refl .refl
                    · refine cs_skip ?_
                      refine ps_block_normal ?_
                      refine ps_then ?_
                      refine cs_seq_region [0, 1, 2] rfl ?_
                      refine c_move rfl rfl rfl rfl (v := (.int .i64 x4)) rfl ?_
                      refine c_add (p := x4) (q := (1 : Int)) rfl rfl rfl rfl rfl rfl ?_
                      refine c_assign rfl rfl rfl rfl (v := (.int .i64 (IntKind.wrap .i64 (x4 + (1 : Int))))) rfl ?_
                      refine can_nil ?_
                      refine ps_en (en_keep (rs) (fun r hr => (.tail _ (.tail _ (.tail _ hr))))) ?_
                      rintro _ _ ⟨rfl, rfl⟩
                      refine ps_roundS [(2, (.bool x3)), (3, (.int .i64 (IntKind.wrap .i64 (x4 + (1 : Int)))))] ⟨rfl, rfl, trivial⟩ xA k2 (Nat.lt_succ_self _) (⟨x3, (IntKind.wrap .i64 (x4 + (1 : Int))), hl2, rfl, rfl, rfl⟩) (.mk .refl .refl)
                  · refine cs_exit ?_
                    refine ps_then_exit ?_
                    refine ps_then_exit ?_
                    obtain rfl := Option.some.inj hl2
                    replace h := kR_r h
                    replace h := un2_ h
                    obtain ⟨z3, rfl⟩ : ∃ z, z = x3 := ⟨_, rfl⟩
                    obtain ⟨z4, rfl⟩ : ∃ z, z = x4 := ⟨_, rfl⟩
                    refine ps_block_here ?_
                    refine ps_then ?_
                    refine cs_seq ?_
                    refine cs_seq_region [0] rfl ?_
                    refine c_assign rfl rfl rfl rfl (v := (.bool true)) rfl ?_
                    refine can_nil ?_
                    refine ps_then ?_
                    refine cs_ret ?_
                    obtain rfl := Option.some.inj h
                    refine ps_en (en_arr (sps' := sps) (Arr.sub (List.Sublist.cons _ (List.Sublist.refl _)))) ?_
                    rintro _ _ ⟨rfl, rfl⟩
                    refine ps_en (en_keep (rs) (fun r hr => hr)) ?_
                    rintro _ _ ⟨rfl, rfl⟩
                    apply ps_end1 rfl Tryz.results165 rfl
                    · exact ⟨rfl, rfl, rfl⟩
                    · exact .mk .refl .refl
            · refine can_skip rfl rfl rfl (Or.inl rfl) ?_
              refine can_skip rfl rfl rfl (Or.inl rfl) ?_
              refine can_skip rfl rfl rfl (Or.inl rfl) ?_
              refine can_skip rfl rfl rfl (Or.inl rfl) ?_
              refine c_pick rfl rfl rfl rfl rfl (by conv => lhs; whnf) ?_
              refine c_pick rfl rfl rfl rfl rfl (by conv => lhs; whnf) ?_
              refine c_move rfl rfl rfl rfl (v := (.bool false)) rfl ?_
              refine c_fieldAddr rfl rfl rfl rfl Tryz.underlying99 rfl Tryz.sizeOf3 rfl rfl ?_
              refine c_load1 (v := (.int .i64 p0_0)) rfl rfl rfl Tryz.isAgg3 rfl (ldS rfl rfl (.head _) (sub1 rfl)) ?_
              refine l_neqI (p := p0_0) (q := (3 : Int)) rfl rfl rfl rfl rfl rfl ?_
              refine c_move rfl rfl rfl rfl (v := (.bool (decide (p0_0 ≠ (3 : Int))))) rfl ?_
              refine can_splitL 37 (b := (decide (p0_0 ≠ (3 : Int)))) rfl h (fun hg8 h => ?_) (fun hg8 h => ?_)
              · refine c_fieldAddr rfl rfl rfl rfl Tryz.underlying99 rfl Tryz.sizeOf96 rfl rfl ?_
                refine c_load1 (v := (.slice Ap0_3 p0_3.length cp0_3)) rfl rfl rfl Tryz.isAgg96 rfl (ldS rfl rfl (.head _) (sub1 rfl)) ?_
                refine l_len (m := p0_3.length) rfl rfl rfl rfl Tryz.underlying96 rfl ?_
                refine c_gtr (p := ((p0_3.length : Nat) : Int)) (q := (0 : Int)) rfl rfl rfl rfl rfl rfl ?_
                refine c_pick rfl rfl rfl rfl rfl (by conv => lhs; whnf) ?_
                refine c_pick rfl rfl rfl rfl rfl (by conv => lhs; whnf) ?_
                refine can_nil ?_
                refine ps_then ?_
                refine cs_condL (b := (decide (((p0_3.length : Nat) : Int) > (0 : Int)))) rfl h (fun hc6 h => ?_) (fun hc6 h => ?_)
                · refine cs_seq ?_
                  refine cs_seq_region [0] rfl ?_
                  refine c_assign rfl rfl rfl rfl (v := (.bool false)) rfl ?_
                  refine can_nil ?_
                  refine ps_then ?_
                  refine cs_ret ?_
                  refine ps_then_ret ?_
                  obtain rfl := Option.some.inj h
                  refine ps_en (en_arr (sps' := sps) (Arr.sub (List.Sublist.cons _ (List.Sublist.refl _)))) ?_
                  rintro _ _ ⟨rfl, rfl⟩
                  refine ps_en (en_keep (rs) (fun r hr => hr)) ?_
                  rintro _ _ ⟨rfl, rfl⟩
                  apply ps_end1 rfl Tryz.results165 rfl
                  · exact ⟨rfl, rfl, rfl⟩
                  · exact .mk .refl .refl
                · refine cs_skip ?_
                  refine ps_then ?_
                  refine cs_seq ?_
                  refine cs_seq ?_
                  refine cs_seq_region [0] rfl ?_
                  refine c_assign rfl rfl rfl rfl (v := (.int .i64 (0 : Int))) rfl ?_
                  refine can_nil ?_
                  refine ps_then ?_
                  refine cs_block ?_
                  obtain ⟨o5, hl3, h⟩ := bndR h
                  refine cs_loopS [2, 3, 44, 45, 46, 47, 48, 49, 50, 51, 52, 53, 54, 55, 56, 57] (fun m L s r => ∃ (x5 : Bool) (x6 : Int), lf_ref03_Right_l2 K (lf_ref03_Right K k) p0_3 m x5 x6 = some o5 ∧ [(2, (.bool x5)), (3, (.int .i64 x6))] = L ∧ Bk g1 [(.int .i64 p0_0), (.int .u64 ((p0_1 : Nat) : Int)), (.slice Ap0_2 p0_2.length cp0_2), (.slice Ap0_3 p0_3.length cp0_3)] 99 :: sps = s ∧ rs = r) [(2, (.bool false)), (3, (.int .i64 (0 : Int)))] (⟨rfl, rfl, trivial⟩) (⟨false, (0 : Int), hl3, rfl, rfl, rfl⟩) ?_
                  rintro k3 f3 _ _ _ ⟨x5, x6, hl3, rfl, rfl, rfl⟩
                  rcases k3 with _ | k3
                  · exact absurd hl3 (by rw [lf_ref03_Right_l2.eq_1]; exact nofun)
                  rw [lf_ref03_Right_l2.eq_2] at hl3
                  refine cs_seq ?_
                  refine cs_seq ?_
                  refine cs_seq_region [0, 1, 2, 3, 4] rfl ?_
                  refine c_move rfl rfl rfl rfl (v := (.int .i64 x6)) rfl ?_
                  refine c_fieldAddr rfl rfl rfl rfl Tryz.underlying99 rfl Tryz.sizeOf96 rfl rfl ?_
                  refine c_load1 (v := (.slice Ap0_3 p0_3.length cp0_3)) rfl rfl rfl Tryz.isAgg96 rfl (ldS rfl rfl (.head _) (sub1 rfl)) ?_
                  refine l_len (m := p0_3.length) rfl rfl rfl rfl Tryz.underlying96 rfl ?_
                  refine c_lss (p := x6) (q := ((p0_3.length : Nat) : Int)) rfl rfl rfl rfl rfl rfl ?_
                  refine can_nil ?_
                  refine ps_then ?_
                  refine cs_condL (b := (decide (x6 < ((p0_3.length : Nat) : Int)))) rfl hl3 (fun hc7 hl3 => ?_) (fun hc7 hl3 => ?_)
                  · refine cs_skip ?_
                    refine ps_then ?_
                    refine cs_seq ?_
                    refine cs_block ?_
                    refine cs_seq ?_
                    refine cs_seq_region [0, 1, 2, 3, 4, 5, 6] rfl ?_
                    refine c_fieldAddr rfl rfl rfl rfl Tryz.underlying99 rfl Tryz.sizeOf96 rfl rfl ?_
                    refine c_load1 (v := (.slice Ap0_3 p0_3.length cp0_3)) rfl rfl rfl Tryz.isAgg96 rfl (ldS rfl rfl (.head _) (sub1 rfl)) ?_
                    refine c_move rfl rfl rfl rfl (v := (.int .i64 x6)) rfl ?_
                    obtain ⟨y5, hy5, hl3⟩ := bnd hl3
                    refine can_en (en_ptr hv_p0_3 (by have := getO_lt hy5; omega)) ?_
                    rintro _ _ ⟨rfl, rfl, g4, o6, rfl⟩
                    refine can_en (open_gN hv_p0_3 hy5) ?_
                    rintro _ _ ⟨A5, c5, A6, c6, rfl, rfl⟩
                    refine c_indexAddrS (p := x6) rfl rfl rfl rfl Tryz.underlying96 Tryz.sizeOf99 rfl rfl (by have := getO_lt hy5; omega) ?_
                    refine c_loadN (cs := [(.int .i64 y5.kind), (.int .u64 ((y5.num : Nat) : Int)), (.slice A5 y5.bytes.length c5), (.slice A6 y5.list.length c6)]) rfl rfl rfl Tryz.isAgg99 Tryz.sizeOf99 rfl (ldSC (off := o6 + (x6 : Int).toNat * 4) (k := 0) rfl rfl (.head _) (subN (m := 4) rfl)) rfl ?_
                    obtain ⟨y6, hy6, hl3⟩ := bnd hl3
                    refine c_call rfl rfl rfl rfl Tryz.call165 (ih y5.kind y5.num y5.bytes y5.list (.slice A5 y5.bytes.length c5) (.slice A6 y5.list.length c6) w0 _ _ (.tail _ (.head _)) (.tail _ (.tail _ (.head _))) hy6) rfl (fun _ _ _ _ => Or.inl rfl) ?_
                    rintro _ _ _ ⟨rfl, rfl, rfl⟩
                    refine c_not rfl rfl rfl rfl rfl ?_
                    refine can_nil ?_
                    refine ps_then ?_
                    refine cs_condL (b := (!y6)) rfl hl3 (fun hc8 hl3 => ?_) (fun hc8 hl3 => ?_)
                    · refine cs_seq ?_
                      refine cs_seq_region [0] rfl ?_
                      refine c_assign rfl rfl rfl rfl (v := (.bool false)) rfl ?_
                      refine can_nil ?_
                      refine ps_then ?_
                      refine cs_ret ?_
                      refine ps_block_ret ?_
                      refine ps_then_ret ?_
                      refine ps_then_ret ?_
                      refine ps_block_ret ?_
                      refine ps_then_ret ?_
                      obtain rfl := Option.some.inj hl3
                      replace h := kR_i h
                      obtain rfl := Option.some.inj h
                      refine ps_en (en_arr (sps' := sps) (Arr.sub (List.Sublist.cons _ (List.Sublist.refl _)))) ?_
                      rintro _ _ ⟨rfl, rfl⟩
                      refine ps_en (en_keep (rs) (fun r hr => (.tail _ (.tail _ (.tail _ hr))))) ?_
                      rintro _ _ ⟨rfl, rfl⟩
                      apply ps_end1 rfl Tryz.results165 rfl
                      · exact ⟨rfl, rfl, rfl⟩
                      · exact .mk .refl .refl
                    · refine cs_skip ?_
                      refine ps_block_normal ?_
                      refine ps_then ?_
                      refine cs_seq_region [0, 1, 2] rfl ?_
                      refine c_move rfl rfl rfl rfl (v := (.int .i64 x6)) rfl ?_
                      refine c_add (p := x6) (q := (1 : Int)) rfl rfl rfl rfl rfl rfl ?_
                      refine c_assign rfl rfl rfl rfl (v := (.int .i64 (IntKind.wrap .i64 (x6 + (1 : Int))))) rfl ?_
                      refine can_nil ?_
                      refine ps_en (en_keep (rs) (fun r hr => (.tail _ (.tail _ (.tail _ hr))))) ?_
                      rintro _ _ ⟨rfl, rfl⟩
                      refine ps_roundS [(2, (.bool x5)), (3, (.int .i64 (IntKind.wrap .i64 (x6 + (1 : Int)))))] ⟨rfl, rfl, trivial⟩ xA k3 (Nat.lt_succ_self _) (⟨x5, (IntKind.wrap .i64 (x6 + (1 : Int))), hl3, rfl, rfl, rfl⟩) (.mk .refl .refl)
                  · refine cs_exit ?_
                    refine ps_then_exit ?_
                    refine ps_then_exit ?_
                    obtain rfl := Option.some.inj hl3
                    replace h := kR_r h
                    replace h := un2_ h
                    obtain ⟨z5, rfl⟩ : ∃ z, z = x5 := ⟨_, rfl⟩
                    obtain ⟨z6, rfl⟩ : ∃ z, z = x6 := ⟨_, rfl⟩
                    refine ps_block_here ?_
                    refine ps_then ?_
                    refine cs_seq ?_
                    refine cs_seq_region [0] rfl ?_
                    refine c_assign rfl rfl rfl rfl (v := (.bool true)) rfl ?_
                    refine can_nil ?_
                    refine ps_then ?_
                    refine cs_ret ?_
                    obtain rfl := Option.some.inj h
                    refine ps_en (en_arr (sps' := sps) (Arr.sub (List.Sublist.cons _ (List.Sublist.refl _)))) ?_
                    rintro _ _ ⟨rfl, rfl⟩
                    refine ps_en (en_keep (rs) (fun r hr => hr)) ?_
                    rintro _ _ ⟨rfl, rfl⟩
                    apply ps_end1 rfl Tryz.results165 rfl
                    · exact ⟨rfl, rfl, rfl⟩
                    · exact .mk .refl .refl
              · refine can_skip rfl rfl rfl (Or.inl rfl) ?_
                refine can_skip rfl rfl rfl (Or.inl rfl) ?_
                refine can_skip rfl rfl rfl (Or.inl rfl) ?_
                refine can_skip rfl rfl rfl (Or.inl rfl) ?_
                refine c_pick rfl rfl rfl rfl rfl (by conv => lhs; whnf) ?_
                refine c_pick rfl rfl rfl rfl rfl (by conv => lhs; whnf) ?_
                refine can_nil ?_
                refine ps_then ?_
                refine cs_false rfl ?_
                refine cs_skip ?_
                refine ps_then ?_
                refine cs_seq ?_
                refine cs_seq ?_
                refine cs_seq_region [0] rfl ?_
                refine c_assign rfl rfl rfl rfl (v := (.int .i64 (0 : Int))) rfl ?_
                refine can_nil ?_
                refine ps_then ?_
                refine cs_block ?_
                obtain ⟨o7, hl4, h⟩ := bndR h
                refine cs_loopS [2, 3, 44, 45, 46, 47, 48, 49, 50, 51, 52, 53, 54, 55, 56, 57] (fun m L s r => ∃ (x7 : Bool) (x8 : Int), lf_ref03_Right_l3 K (lf_ref03_Right K k) p0_3 m x7 x8 = some o7 ∧ [(2, (.bool x7)), (3, (.int .i64 x8))] = L ∧ Bk g1 [(.int .i64 p0_0), (.int .u64 ((p0_1 : Nat) : Int)), (.slice Ap0_2 p0_2.length cp0_2), (.slice Ap0_3 p0_3.length cp0_3)] 99 :: sps = s ∧ rs = r) [(2, (.bool false)), (3, (.int .i64 (0 : Int)))] (⟨rfl, rfl, trivial⟩) (⟨false, (0 : Int), hl4, rfl, rfl, rfl⟩) ?_
                rintro k4 f4 _ _ _ ⟨x7, x8, hl4, rfl, rfl, rfl⟩
                rcases k4 with _ | k4
                · exact absurd hl4 (by rw [lf_ref03_Right_l3.eq_1]; exact nofun)
                rw [lf_ref03_Right_l3.eq_2] at hl4
                refine cs_seq ?_
                refine cs_seq ?_
                refine cs_seq_region [0, 1, 2, 3, 4] rfl ?_
                refine c_move rfl rfl rfl rfl (v := (.int .i64 x8)) rfl ?_
                refine c_fieldAddr rfl rfl rfl rfl Tryz.underlying99 rfl Tryz.sizeOf96 rfl rfl ?_
                refine c_load1 (v := (.slice Ap0_3 p0_3.length cp0_3)) rfl rfl rfl Tryz.isAgg96 rfl (ldS rfl rfl (.head _) (sub1 rfl)) ?_
                refine l_len (m := p0_3.length) rfl rfl rfl rfl Tryz.underlying96 rfl ?_
                refine c_lss (p := x8) (q := ((p0_3.length : Nat) : Int)) rfl rfl rfl rfl rfl rfl ?_
                refine can_nil ?_
                refine ps_then ?_
                refine cs_condL (b := (decide (x8 < ((p0_3.length : Nat) : Int)))) rfl hl4 (fun hc9 hl4 => ?_) (fun hc9 hl4 => ?_)
                · refine cs_skip ?_
                  refine ps_then ?_
                  refine cs_seq ?_
                  refine cs_block ?_
                  refine cs_seq ?_
                  refine cs_seq_region [0, 1, 2, 3, 4, 5, 6] rfl ?_
                  refine c_fieldAddr rfl rfl rfl rfl Tryz.underlying99 rfl Tryz.sizeOf96 rfl rfl ?_
                  refine c_load1 (v := (.slice Ap0_3 p0_3.length cp0_3)) rfl rfl rfl Tryz.isAgg96 rfl (ldS rfl rfl (.head _) (sub1 rfl)) ?_
                  refine c_move rfl rfl rfl rfl (v := (.int .i64 x8)) rfl ?_
                  obtain ⟨y7, hy7, hl4⟩ := bnd hl4
                  refine can_en (en_ptr hv_p0_3 (by have := getO_lt hy7; omega)) ?_
                  rintro _ _ ⟨rfl, rfl, g5, o8, rfl⟩
                  refine can_en (open_gN hv_p0_3 hy7) ?_
                  rintro _ _ ⟨A7, c7, A8, c8, rfl, rfl⟩
                  refine c_indexAddrS (p := x8) rfl rfl rfl rfl Tryz.underlying96 Tryz.sizeOf99 rfl rfl (by have := getO_lt hy7; omega) ?_
                  refine c_loadN (cs := [(.int .i64 y7.kind), (.int .u64 ((y7.num : Nat) : Int)), (.slice A7 y7.bytes.length c7), (.slice A8 y7.list.length c8)]) rfl rfl rfl Tryz.isAgg99 Tryz.sizeOf99 rfl (ldSC (off := o8 + (x8 : Int).toNat * 4) (k := 0) rfl rfl (.head _) (subN (m := 4) rfl)) rfl ?_
                  obtain ⟨y8, hy8, hl4⟩ := bnd hl4
                  refine c_call rfl rfl rfl rfl Tryz.call165 (ih y7.kind y7.num y7.bytes y7.list (.slice A7 y7.bytes.length c7) (.slice A8 y7.list.length c8) w0 _ _ (.tail _ (.head _)) (.tail _ (.tail _ (.head _))) hy8) rfl (fun _ _ _ _ => Or.inl rfl) ?_
                  rintro _ _ _ ⟨rfl, rfl, rfl⟩
                  refine c_not rfl rfl rfl rfl rfl ?_
                  refine can_nil ?_
                  refine ps_then ?_
                  refine cs_condL (b := (!y8)) rfl hl4 (fun hc10 hl4 => ?_) (fun hc10 hl4 => ?_)
                  · refine cs_seq ?_
                    refine cs_seq_region [0] rfl ?_
                    refine c_assign rfl rfl rfl rfl (v := (.bool false)) rfl ?_
                    refine can_nil ?_
                    refine ps_then ?_
                    refine cs_ret ?_
                    refine ps_block_ret ?_
                    refine ps_then_ret ?_
                    refine ps_then_ret ?_
                    refine ps_block_ret ?_
                    refine ps_then_ret ?_
                    obtain rfl := Option.some.inj hl4
                    replace h := kR_i h
                    obtain rfl := Option.some.inj h
                    refine ps_en (en_arr (sps' := sps) (Arr.sub (List.Sublist.cons _ (List.Sublist.refl _)))) ?_
                    rintro _ _ ⟨rfl, rfl⟩
                    refine ps_en (en_keep (rs) (fun r hr => (.tail _ (.tail _ (.tail _ hr))))) ?_
                    rintro _ _ ⟨rfl, rfl⟩
                    apply ps_end1 rfl Tryz.results165 rfl
                    · exact ⟨rfl, rfl, rfl⟩
                    · exact .mk .refl .refl
                  · refine cs_skip ?_
                    refine ps_block_normal ?_
                    refine ps_then ?_
                    refine cs_seq_region [0, 1, 2] rfl ?_
                    refine c_move rfl rfl rfl rfl (v := (.int .i64 x8)) rfl ?_
                    refine c_add (p := x8) (q := (1 : Int)) rfl rfl rfl rfl rfl rfl ?_
                    refine c_assign rfl rfl rfl rfl (v := (.int .i64 (IntKind.wrap .i64 (x8 + (1 : Int))))) rfl ?_
                    refine can_nil ?_
                    refine ps_en (en_keep (rs) (fun r hr => (.tail _ (.tail _ (.tail _ hr))))) ?_
                    rintro _ _ ⟨rfl, rfl⟩
                    refine ps_roundS [(2, (.bool x7)), (3, (.int .i64 (IntKind.wrap .i64 (x8 + (1 : Int)))))] ⟨rfl, rfl, trivial⟩ xA k4 (Nat.lt_succ_self _) (⟨x7, (IntKind.wrap .i64 (x8 + (1 : Int))), hl4, rfl, rfl, rfl⟩) (.mk .refl .refl)
                · refine cs_exit ?_
                  refine ps_then_exit ?_
                  refine ps_then_exit ?_
                  obtain rfl := Option.some.inj hl4
                  replace h := kR_r h
                  replace h := un2_ h
                  obtain ⟨z7, rfl⟩ : ∃ z, z = x7 := ⟨_, rfl⟩
                  obtain ⟨z8, rfl⟩ : ∃ z, z = x8 := ⟨_, rfl⟩
                  refine ps_block_here ?_
                  refine ps_then ?_
                  refine cs_seq ?_
                  refine cs_seq_region [0] rfl ?_
                  refine c_assign rfl rfl rfl rfl (v := (.bool true)) rfl ?_
                  refine can_nil ?_
                  refine ps_then ?_
                  refine cs_ret ?_
                  obtain rfl := Option.some.inj h
                  refine ps_en (en_arr (sps' := sps) (Arr.sub (List.Sublist.cons _ (List.Sublist.refl _)))) ?_
                  rintro _ _ ⟨rfl, rfl⟩
                  refine ps_en (en_keep (rs) (fun r hr => hr)) ?_
                  rintro _ _ ⟨rfl, rfl⟩
                  apply ps_end1 rfl Tryz.results165 rfl
                  · exact ⟨rfl, rfl, rfl⟩
                  · exact .mk .refl .refl
        · refine can_skip rfl rfl rfl (Or.inl rfl) ?_
          refine can_skip rfl rfl rfl (Or.inl rfl) ?_
          refine can_skip rfl rfl rfl (Or.inl rfl) ?_
          refine c_pick rfl rfl rfl rfl rfl (by conv => lhs; whnf) ?_
          refine c_pick rfl rfl rfl rfl rfl (by conv => lhs; whnf) ?_
          refine c_move rfl rfl rfl rfl (v := (.bool false)) rfl ?_
          refine c_fieldAddr rfl rfl rfl rfl Tryz.underlying99 rfl Tryz.sizeOf3 rfl rfl ?_
          refine c_load1 (v := (.int .i64 p0_0)) rfl rfl rfl Tryz.isAgg3 rfl (ldS rfl rfl (.head _) (sub1 rfl)) ?_
          refine l_neqI (p := p0_0) (q := (2 : Int)) rfl rfl rfl rfl rfl rfl ?_
          refine c_move rfl rfl rfl rfl (v := (.bool (decide (p0_0 ≠ (2 : Int))))) rfl ?_
          refine can_splitL 26 (b := (decide (p0_0 ≠ (2 : Int)))) rfl h (fun hg9 h => ?_) (fun hg9 h => ?_)
          · refine c_fieldAddr rfl rfl rfl rfl Tryz.underlying99 rfl Tryz.sizeOf22 rfl rfl ?_
            refine c_load1 (v := (.slice Ap0_2 p0_2.length cp0_2)) rfl rfl rfl Tryz.isAgg22 rfl (ldS rfl rfl (.head _) (sub1 rfl)) ?_
            refine l_len (m := p0_2.length) rfl rfl rfl rfl Tryz.underlying22 rfl ?_
            refine c_gtr (p := ((p0_2.length : Nat) : Int)) (q := (0 : Int)) rfl rfl rfl rfl rfl rfl ?_
            refine c_pick rfl rfl rfl rfl rfl (by conv => lhs; whnf) ?_
            refine c_pick rfl rfl rfl rfl rfl (by conv => lhs; whnf) ?_
            refine c_move rfl rfl rfl rfl (v := (.bool (decide (((p0_2.length : Nat) : Int) > (0 : Int))))) rfl ?_
            refine can_splitL 33 (b := (decide (((p0_2.length : Nat) : Int) > (0 : Int)))) rfl h (fun hg10 h => ?_) (fun hg10 h => ?_)
            · refine can_skip rfl rfl rfl (Or.inl rfl) ?_
              refine can_skip rfl rfl rfl (Or.inl rfl) ?_
              refine can_skip rfl rfl rfl (Or.inl rfl) ?_
              refine can_skip rfl rfl rfl (Or.inl rfl) ?_
              refine can_skip rfl rfl rfl (Or.inl rfl) ?_
              refine can_skip rfl rfl rfl (Or.inl rfl) ?_
              refine can_skip rfl rfl rfl (Or.inl rfl) ?_
              refine can_skip rfl rfl rfl (Or.inl rfl) ?_
              refine can_skip rfl rfl rfl (Or.inl rfl) ?_
              refine c_pick rfl rfl rfl rfl rfl (by conv => lhs; whnf) ?_
              refine can_nil ?_
              refine ps_then ?_
              refine cs_true rfl ?_
              refine cs_seq ?_
              refine cs_seq_region [0] rfl ?_
              refine c_assign rfl rfl rfl rfl (v := (.bool false)) rfl ?_
              refine can_nil ?_
              refine ps_then ?_
              refine cs_ret ?_
              refine ps_then_ret ?_
              obtain rfl := Option.some.inj h
              refine ps_en (en_arr (sps' := sps) (Arr.sub (List.Sublist.cons _ (List.Sublist.refl _)))) ?_
              rintro _ _ ⟨rfl, rfl⟩
              refine ps_en (en_keep (rs) (fun r hr => hr)) ?_
              rintro _ _ ⟨rfl, rfl⟩
              apply ps_end1 rfl Tryz.results165 rfl
              · exact ⟨rfl, rfl, rfl⟩
              · exact .mk .refl .refl
            · refine c_fieldAddr rfl rfl rfl rfl Tryz.underlying99 rfl Tryz.sizeOf3 rfl rfl ?_
              refine c_load1 (v := (.int .i64 p0_0)) rfl rfl rfl Tryz.isAgg3 rfl (ldS rfl rfl (.head _) (sub1 rfl)) ?_
              refine l_neqI (p := p0_0) (q := (3 : Int)) rfl rfl rfl rfl rfl rfl ?_
              refine c_move rfl rfl rfl rfl (v := (.bool (decide (p0_0 ≠ (3 : Int))))) rfl ?_
              refine can_splitL 37 (b := (decide (p0_0 ≠ (3 : Int)))) rfl h (fun hg11 h => ?_) (fun hg11 h => ?_)
              · refine c_fieldAddr rfl rfl rfl rfl Tryz.underlying99 rfl Tryz.sizeOf96 rfl rfl ?_
                refine c_load1 (v := (.slice Ap0_3 p0_3.length cp0_3)) rfl rfl rfl Tryz.isAgg96 rfl (ldS rfl rfl (.head _) (sub1 rfl)) ?_
                refine l_len (m := p0_3.length) rfl rfl rfl rfl Tryz.underlying96 rfl ?_
                refine c_gtr (p := ((p0_3.length : Nat) : Int)) (q := (0 : Int)) rfl rfl rfl rfl rfl rfl ?_
                refine c_pick rfl rfl rfl rfl rfl (by conv => lhs; whnf) ?_
                refine c_pick rfl rfl rfl rfl rfl (by conv => lhs; whnf) ?_
                refine can_nil ?_
                refine ps_then ?_
                refine cs_condL (b := (decide (((p0_3.length : Nat) : Int) > (0 : Int)))) rfl h (fun hc11 h => ?_) (fun hc11 h => ?_)
                · refine cs_seq ?_
                  refine cs_seq_region [0] rfl ?_
                  refine c_assign rfl rfl rfl rfl (v := (.bool false)) rfl ?_
                  refine can_nil ?_
                  refine ps_then ?_
                  refine cs_ret ?_
                  refine ps_then_ret ?_
                  obtain rfl := Option.some.inj h
                  refine ps_en (en_arr (sps' := sps) (Arr.sub (List.Sublist.cons _ (List.Sublist.refl _)))) ?_
                  rintro _ _ ⟨rfl, rfl⟩
                  refine ps_en (en_keep (rs) (fun r hr => hr)) ?_
                  rintro _ _ ⟨rfl, rfl⟩
                  apply ps_end1 rfl Tryz.results165 rfl
                  · exact ⟨rfl, rfl, rfl⟩
                  · exact .mk .refl .refl
                · refine cs_skip ?_
                  refine ps_then ?_
                  refine cs_seq ?_
                  refine cs_seq ?_
                  refine cs_seq_region [0] rfl ?_
                  refine c_assign rfl rfl rfl rfl (v := (.int .i64 (0 : Int))) rfl ?_
                  refine can_nil ?_
                  refine ps_then ?_
                  refine cs_block ?_
                  obtain ⟨o9, hl5, h⟩ := bndR h
                  refine cs_loopS [2, 3, 44, 45, 46, 47, 48, 49, 50, 51, 52, 53, 54, 55, 56, 57] (fun m L s r => ∃ (x9 : Bool) (x10 : Int), lf_ref03_Right_l4 K (lf_ref03_Right K k) p0_3 m x9 x10 = some o9 ∧ [(2, (.bool x9)), (3, (.int .i64 x10))] = L ∧ Bk g1 [(.int .i64 p0_0), (.int .u64 ((p0_1 : Nat) : Int)), (.slice Ap0_2 p0_2.length cp0_2), (.slice Ap0_3 p0_3.length cp0_3)] 99 :: sps = s ∧ rs = r) [(2, (.bool false)), (3, (.int .i64 (0 : Int)))] (⟨rfl, rfl, trivial⟩) (⟨false, (0 : Int), hl5, rfl, rfl, rfl⟩) ?_
                  rintro k5 f5 _ _ _ ⟨x9, x10, hl5, rfl, rfl, rfl⟩
                  rcases k5 with _ | k5
                  · exact absurd hl5 (by rw [lf_ref03_Right_l4.eq_1]; exact nofun)
                  rw [lf_ref03_Right_l4.eq_2] at hl5
                  refine cs_seq ?_
                  refine cs_seq ?_
                  refine cs_seq_region [0, 1, 2, 3, 4] rfl ?_
                  refine c_move rfl rfl rfl rfl (v := (.int .i64 x10)) rfl ?_
                  refine c_fieldAddr rfl rfl rfl rfl Tryz.underlying99 rfl Tryz.sizeOf96 rfl rfl ?_
                  refine c_load1 (v := (.slice Ap0_3 p0_3.length cp0_3)) rfl rfl rfl Tryz.isAgg96 rfl (ldS rfl rfl (.head _) (sub1 rfl)) ?_
                  refine l_len (m := p0_3.length) rfl rfl rfl rfl Tryz.underlying96 rfl ?_
                  refine c_lss (p := x10) (q := ((p0_3.length : Nat) : Int)) rfl rfl rfl rfl rfl rfl ?_
                  refine can_nil ?_
                  refine ps_then ?_
                  refine cs_condL (b := (decide (x10 < ((p0_3.length : Nat) : Int)))) rfl hl5 (fun hc12 hl5 => ?_) (fun hc12 hl5 => ?_)
                  · refine cs_skip ?_
                    refine ps_then ?_
                    refine cs_seq ?_
                    refine cs_block ?_
                    refine cs_seq ?_
                    refine cs_seq_region [0, 1, 2, 3, 4, 5, 6] rfl ?_
                    refine c_fieldAddr rfl rfl rfl rfl Tryz.underlying99 rfl Tryz.sizeOf96 rfl rfl ?_
                    refine c_load1 (v := (.slice Ap0_3 p0_3.length cp0_3)) rfl rfl rfl Tryz.isAgg96 rfl (ldS rfl rfl (.head _) (sub1 rfl)) ?_
                    refine c_move rfl rfl rfl rfl (v := (.int .i64 x10)) rfl ?_
                    obtain ⟨y9, hy9, hl5⟩ := bnd hl5
                    refine can_en (en_ptr hv_p0_3 (by have := getO_lt hy9; omega)) ?_
                    rintro _ _ ⟨rfl, rfl, g6, o10, rfl⟩
                    refine can_en (open_gN hv_p0_3 hy9) ?_
                    rintro _ _ ⟨A9, c9, A10, c10, rfl, rfl⟩
                    refine c_indexAddrS (p := x10) rfl rfl rfl rfl Tryz.underlying96 Tryz.sizeOf99 rfl rfl (by have := getO_lt hy9; omega) ?_
                    refine c_loadN (cs := [(.int .i64 y9.kind), (.int .u64 ((y9.num : Nat) : Int)), (.slice A9 y9.bytes.length c9), (.slice A10 y9.list.length c10)]) rfl rfl rfl Tryz.isAgg99 Tryz.sizeOf99 rfl (ldSC (off := o10 + (x10 : Int).toNat * 4) (k := 0) rfl rfl (.head _) (subN (m := 4) rfl)) rfl ?_
                    obtain ⟨y10, hy10, hl5⟩ := bnd hl5
                    refine c_call rfl rfl rfl rfl Tryz.call165 (ih y9.kind y9.num y9.bytes y9.list (.slice A9 y9.bytes.length c9) (.slice A10 y9.list.length c10) w0 _ _ (.tail _ (.head _)) (.tail _ (.tail _ (.head _))) hy10) rfl (fun _ _ _ _ => Or.inl rfl) ?_
                    rintro _ _ _ ⟨rfl, rfl, rfl⟩
                    refine c_not rfl rfl rfl rfl rfl ?_
                    refine can_nil ?_
                    refine ps_then ?_
                    refine cs_condL (b := (!y10)) rfl hl5 (fun hc13 hl5 => ?_) (fun hc13 hl5 => ?_)
                    · refine cs_seq ?_
                      refine cs_seq_region [0] rfl ?_
                      refine c_assign rfl rfl rfl rfl (v := (.bool false)) rfl ?_
                      refine can_nil ?_
                      refine ps_then ?_
                      refine cs_ret ?_
                      refine ps_block_ret ?_
                      refine ps_then_ret ?_
                      refine ps_then_ret ?_
                      refine ps_block_ret ?_
                      refine ps_then_ret ?_
                      obtain rfl := Option.some.inj hl5
                      replace h := kR_i h
                      obtain rfl := Option.some.inj h
                      refine ps_en (en_arr (sps' := sps) (Arr.sub (List.Sublist.cons _ (List.Sublist.refl _)))) ?_
                      rintro _ _ ⟨rfl, rfl⟩
                      refine ps_en (en_keep (rs) (fun r hr => (.tail _ (.tail _ (.tail _ hr))))) ?_
                      rintro _ _ ⟨rfl, rfl⟩
                      apply ps_end1 rfl Tryz.results165 rfl
                      · exact ⟨rfl, rfl, rfl⟩
                      · exact .mk .refl .refl
                    · refine cs_skip ?_
                      refine ps_block_normal ?_
                      refine ps_then ?_
                      refine cs_seq_region [0, 1, 2] rfl ?_
                      refine c_move rfl rfl rfl rfl (v := (.int .i64 x10)) rfl ?_
                      refine c_add (p := x10) (q := (1 : Int)) rfl rfl rfl rfl rfl rfl ?_
                      refine c_assign rfl rfl rfl rfl (v := (.int .i64 (IntKind.wrap .i64 (x10 + (1 : Int))))) rfl ?_
                      refine can_nil ?_
                      refine ps_en (en_keep (rs) (fun r hr => (.tail _ (.tail _ (.tail _ hr))))) ?_
                      rintro _ _ ⟨rfl, rfl⟩
                      refine ps_roundS [(2, (.bool x9)), (3, (.int .i64 (IntKind.wrap .i64 (x10 + (1 : Int)))))] ⟨rfl, rfl, trivial⟩ xA k5 (Nat.lt_succ_self _) (⟨x9, (IntKind.wrap .i64 (x10 + (1 : Int))), hl5, rfl, rfl, rfl⟩) (.mk .refl .refl)
                  · refine cs_exit ?_
                    refine ps_then_exit ?_
                    refine ps_then_exit ?_
                    obtain rfl := Option.some.inj hl5
                    replace h := kR_r h
                    replace h := un2_ h
                    obtain ⟨z9, rfl⟩ : ∃ z, z = x9 := ⟨_, rfl⟩
                    obtain ⟨z10, rfl⟩ : ∃ z, z = x10 := ⟨_, rfl⟩
                    refine ps_block_here ?_
                    refine ps_then ?_
                    refine cs_seq ?_
                    refine cs_seq_region [0] rfl ?_
                    refine c_assign rfl rfl rfl rfl (v := (.bool true)) rfl ?_
                    refine can_nil ?_
                    refine ps_then ?_
                    refine cs_ret ?_
                    obtain rfl := Option.some.inj h
                    refine ps_en (en_arr (sps' := sps) (Arr.sub (List.Sublist.cons _ (List.Sublist.refl _)))) ?_
                    rintro _ _ ⟨rfl, rfl⟩
                    refine ps_en (en_keep (rs) (fun r hr => hr)) ?_
                    rintro _ _ ⟨rfl, rfl⟩
                    apply ps_end1 rfl Tryz.results165 rfl
                    · exact ⟨rfl, rfl, rfl⟩
                    · exact .mk .refl .refl
              · refine can_skip rfl rfl rfl (Or.inl rfl) ?_
                refine can_skip rfl rfl rfl (Or.inl rfl) ?_
                refine can_skip rfl rfl rfl (Or.inl rfl) ?_
                refine can_skip rfl rfl rfl (Or.inl rfl) ?_
                refine c_pick rfl rfl rfl rfl rfl (by conv => lhs; whnf) ?_
                refine c_pick rfl rfl rfl rfl rfl (by conv => lhs; whnf) ?_
                refine can_nil ?_
                refine ps_then ?_
                refine cs_false rfl ?_
                refine cs_skip ?_
                refine ps_then ?_
                refine cs_seq ?_
                refine cs_seq ?_
                refine cs_seq_region [0] rfl ?_
                refine c_assign rfl rfl rfl rfl (v := (.int .i64 (0 : Int))) rfl ?_
                refine can_nil ?_
                refine ps_then ?_
                refine cs_block ?_
                obtain ⟨o11, hl6, h⟩ := bndR h
                refine cs_loopS [2, 3, 44, 45, 46, 47, 48, 49, 50, 51, 52, 53, 54, 55, 56, 57] (fun m L s r => ∃ (x11 : Bool) (x12 : Int), lf_ref03_Right_l5 K (lf_ref03_Right K k) p0_3 m x11 x12 = some o11 ∧ [(2, (.bool x11)), (3, (.int .i64 x12))] = L ∧ Bk g1 [(.int .i64 p0_0), (.int .u64 ((p0_1 : Nat) : Int)), (.slice Ap0_2 p0_2.length cp0_2), (.slice Ap0_3 p0_3.length cp0_3)] 99 :: sps = s ∧ rs = r) [(2, (.bool false)), (3, (.int .i64 (0 : Int)))] (⟨rfl, rfl, trivial⟩) (⟨false, (0 : Int), hl6, rfl, rfl, rfl⟩) ?_
                rintro k6 f6 _ _ _ ⟨x11, x12, hl6, rfl, rfl, rfl⟩
                rcases k6 with _ | k6
                · exact absurd hl6 (by rw [lf_ref03_Right_l5.eq_1]; exact nofun)
                rw [lf_ref03_Right_l5.eq_2] at hl6
                refine cs_seq ?_
                refine cs_seq ?_
                refine cs_seq_region [0, 1, 2, 3, 4] rfl ?_
                refine c_move rfl rfl rfl rfl (v := (.int .i64 x12)) rfl ?_
                refine c_fieldAddr rfl rfl rfl rfl Tryz.underlying99 rfl Tryz.sizeOf96 rfl rfl ?_
                refine c_load1 (v := (.slice Ap0_3 p0_3.length cp0_3)) rfl rfl rfl Tryz.isAgg96 rfl (ldS rfl rfl (.head _) (sub1 rfl)) ?_
                refine l_len (m := p0_3.length) rfl rfl rfl rfl Tryz.underlying96 rfl ?_
                refine c_lss (p := x12) (q := ((p0_3.length : Nat) : Int)) rfl rfl rfl rfl rfl rfl ?_
                refine can_nil ?_
                refine ps_then ?_
                refine cs_condL (b := (decide (x12 < ((p0_3.length : Nat) : Int)))) rfl hl6 (fun hc14 hl6 => ?_) (fun hc14 hl6 => ?_)
                · refine cs_skip ?_
                  refine ps_then ?_
                  refine cs_seq ?_
                  refine cs_block ?_
                  refine cs_seq ?_
                  refine cs_seq_region [0, 1, 2, 3, 4, 5, 6] rfl ?_
                  refine c_fieldAddr rfl rfl rfl rfl Tryz.underlying99 rfl Tryz.sizeOf96 rfl rfl ?_
                  refine c_load1 (v := (.slice Ap0_3 p0_3.length cp0_3)) rfl rfl rfl Tryz.isAgg96 rfl (ldS rfl rfl (.head _) (sub1 rfl)) ?_
                  refine c_move rfl rfl rfl rfl (v := (.int .i64 x12)) rfl ?_
                  obtain ⟨y11, hy11, hl6⟩ := bnd hl6
                  refine can_en (en_ptr hv_p0_3 (by have := getO_lt hy11; omega)) ?_
                  rintro _ _ ⟨rfl, rfl, g7, o12, rfl⟩
                  refine can_en (open_gN hv_p0_3 hy11) ?_
                  rintro _ _ ⟨A11, c11, A12, c12, rfl, rfl⟩
                  refine c_indexAddrS (p := x12) rfl rfl rfl rfl Tryz.underlying96 Tryz.sizeOf99 rfl rfl (by have := getO_lt hy11; omega) ?_
                  refine c_loadN (cs := [(.int .i64 y11.kind), (.int .u64 ((y11.num : Nat) : Int)), (.slice A11 y11.bytes.length c11), (.slice A12 y11.list.length c12)]) rfl rfl rfl Tryz.isAgg99 Tryz.sizeOf99 rfl (ldSC (off := o12 + (x12 : Int).toNat * 4) (k := 0) rfl rfl (.head _) (subN (m := 4) rfl)) rfl ?_
                  obtain ⟨y12, hy12, hl6⟩ := bnd hl6
                  refine c_call rfl rfl rfl rfl Tryz.call165 (ih y11.kind y11.num y11.bytes y11.list (.slice A11 y11.bytes.length c11) (.slice A12 y11.list.length c12) w0 _ _ (.tail _ (.head _)) (.tail _ (.tail _ (.head _))) hy12) rfl (fun _ _ _ _ => Or.inl rfl) ?_
                  rintro _ _ _ ⟨rfl, rfl, rfl⟩
                  refine c_not rfl rfl rfl rfl rfl ?_
                  refine can_nil ?_
                  refine ps_then ?_
                  refine cs_condL (b := (!y12)) rfl hl6 (fun hc15 hl6 => ?_) (fun hc15 hl6 => ?_)
                  · refine cs_seq ?_
                    refine cs_seq_region [0] rfl ?_
                    refine c_assign rfl rfl rfl rfl (v := (.bool false)) rfl ?_
                    refine can_nil ?_
                    refine ps_then ?_
                    refine cs_ret ?_
                    refine ps_block_ret ?_
                    refine ps_then_ret ?_
                    refine ps_then_ret ?_
                    refine ps_block_ret ?_
                    refine ps_then_ret ?_
                    obtain rfl := Option.some.inj hl6
                    replace h := kR_i h
                    obtain rfl := Option.some.inj h
                    refine ps_en (en_arr (sps' := sps) (Arr.sub (List.Sublist.cons _ (List.Sublist.refl _)))) ?_
                    rintro _ _ ⟨rfl, rfl⟩
                    refine ps_en (en_keep (rs) (fun r hr => (.tail _ (.tail _ (.tail _ hr))))) ?_
                    rintro _ _ ⟨rfl, rfl⟩
                    apply ps_end1 rfl Tryz.results165 rfl
                    · exact ⟨rfl, rfl, rfl⟩
                    · exact .mk .refl .refl
                  · refine cs_skip ?_
                    refine ps_block_normal ?_
                    refine ps_then ?_
                    refine cs_seq_region [0, 1, 2] rfl ?_
                    refine c_move rfl rfl rfl rfl (v := (.int .i64 x12)) rfl ?_
                    refine c_add (p := x12) (q := (1 : Int)) rfl rfl rfl rfl rfl rfl ?_
                    refine c_assign rfl rfl rfl rfl (v := (.int .i64 (IntKind.wrap .i64 (x12 + (1 : Int))))) rfl ?_
                    refine can_nil ?_
                    refine ps_en (en_keep (rs) (fun r hr => (.tail _ (.tail _ (.tail _ hr))))) ?_
                    rintro _ _ ⟨rfl, rfl⟩
                    refine ps_roundS [(2, (.bool x11)), (3, (.int .i64 (IntKind.wrap .i64 (x12 + (1 : Int)))))] ⟨rfl, rfl, trivial⟩ xA k6 (Nat.lt_succ_self _) (⟨x11, (IntKind.wrap .i64 (x12 + (1 : Int))), hl6, rfl, rfl, rfl⟩) (.mk .refl .refl)
                · refine cs_exit ?_
                  refine ps_then_exit ?_
                  refine ps_then_exit ?_
                  obtain rfl := Option.some.inj hl6
                  replace h := kR_r h
                  replace h := un2_ h
                  obtain ⟨z11, rfl⟩ : ∃ z, z = x11 := ⟨_, rfl⟩
                  obtain ⟨z12, rfl⟩ : ∃ z, z = x12 := ⟨_, rfl⟩
                  refine ps_block_here ?_
                  refine ps_then ?_
                  refine cs_seq ?_
                  refine cs_seq_region [0] rfl ?_
                  refine c_assign rfl rfl rfl rfl (v := (.bool true)) rfl ?_
                  refine can_nil ?_
                  refine ps_then ?_
                  refine cs_ret ?_
                  obtain rfl := Option.some.inj h
                  refine ps_en (en_arr (sps' := sps) (Arr.sub (List.Sublist.cons _ (List.Sublist.refl _)))) ?_
                  rintro _ _ ⟨rfl, rfl⟩
                  refine ps_en (en_keep (rs) (fun r hr => hr)) ?_
                  rintro _ _ ⟨rfl, rfl⟩
                  apply ps_end1 rfl Tryz.results165 rfl
                  · exact ⟨rfl, rfl, rfl⟩
                  · exact .mk .refl .refl
          · refine can_skip rfl rfl rfl (Or.inl rfl) ?_
            refine can_skip rfl rfl rfl (Or.inl rfl) ?_
            refine can_skip rfl rfl rfl (Or.inl rfl) ?_
            refine can_skip rfl rfl rfl (Or.inl rfl) ?_
            refine c_pick rfl rfl rfl rfl rfl (by conv => lhs; whnf) ?_
            refine c_pick rfl rfl rfl rfl rfl (by conv => lhs; whnf) ?_
            refine c_move rfl rfl rfl rfl (v := (.bool false)) rfl ?_
            refine c_fieldAddr rfl rfl rfl rfl Tryz.underlying99 rfl Tryz.sizeOf3 rfl rfl ?_
            refine c_load1 (v := (.int .i64 p0_0)) rfl rfl rfl Tryz.isAgg3 rfl (ldS rfl rfl (.head _) (sub1 rfl)) ?_
            refine l_neqI (p := p0_0) (q := (3 : Int)) rfl rfl rfl rfl rfl rfl ?_
            refine c_move rfl rfl rfl rfl (v := (.bool (decide (p0_0 ≠ (3 : Int))))) rfl ?_
            refine can_splitL 37 (b := (decide (p0_0 ≠ (3 : Int)))) rfl h (fun hg12 h => ?_) (fun hg12 h => ?_)
            · refine c_fieldAddr rfl rfl rfl rfl Tryz.underlying99 rfl Tryz.sizeOf96 rfl rfl ?_
              refine c_load1 (v := (.slice Ap0_3 p0_3.length cp0_3)) rfl rfl rfl Tryz.isAgg96 rfl (ldS rfl rfl (.head _) (sub1 rfl)) ?_
              refine l_len (m := p0_3.length) rfl rfl rfl rfl Tryz.underlying96 rfl ?_
              refine c_gtr (p := ((p0_3.length : Nat) : Int)) (q := (0 : Int)) rfl rfl rfl rfl rfl rfl ?_
              refine c_pick rfl rfl rfl rfl rfl (by conv => lhs; whnf) ?_
              refine c_pick rfl rfl rfl rfl rfl (by conv => lhs; whnf) ?_
              refine can_nil ?_
              refine ps_then ?_
              refine cs_condL (b := (decide (((p0_3.length : Nat) : Int) > (0 : Int)))) rfl h (fun hc16 h => ?_) (fun hc16 h => ?_)
              · refine cs_seq ?_
                refine cs_seq_region [0] rfl ?_
                refine c_assign rfl rfl rfl rfl (v := (.bool false)) rfl ?_
                refine can_nil ?_
                refine ps_then ?_
                refine cs_ret ?_
                refine ps_then_ret ?_
                obtain rfl := Option.some.inj h
                refine ps_en (en_arr (sps' := sps) (Arr.sub (List.Sublist.cons _ (List.Sublist.refl _)))) ?_
                rintro _ _ ⟨rfl, rfl⟩
                refine ps_en (en_keep (rs) (fun r hr => hr)) ?_
                rintro _ _ ⟨rfl, rfl⟩
                apply ps_end1 rfl Tryz.results165 rfl
                · exact ⟨rfl, rfl, rfl⟩
                · exact .mk .refl .refl
              · refine cs_skip ?_
                refine ps_then ?_
                refine cs_seq ?_
                refine cs_seq ?_
                refine cs_seq_region [0] rfl ?_
                refine c_assign rfl rfl rfl rfl (v := (.int .i64 (0 : Int))) rfl ?_
                refine can_nil ?_
                refine ps_then ?_
                refine cs_block ?_
                obtain ⟨o13, hl7, h⟩ := bndR h
                refine cs_loopS [2, 3, 44, 45, 46, 47, 48, 49, 50, 51, 52, 53, 54, 55, 56, 57] (fun m L s r => ∃ (x13 : Bool) (x14 : Int), lf_ref03_Right_l6 K (lf_ref03_Right K k) p0_3 m x13 x14 = some o13 ∧ [(2, (.bool x13)), (3, (.int .i64 x14))] = L ∧ Bk g1 [(.int .i64 p0_0), (.int .u64 ((p0_1 : Nat) : Int)), (.slice Ap0_2 p0_2.length cp0_2), (.slice Ap0_3 p0_3.length cp0_3)] 99 :: sps = s ∧ rs = r) [(2, (.bool false)), (3, (.int .i64 (0 : Int)))] (⟨rfl, rfl, trivial⟩) (⟨false, (0 : Int), hl7, rfl, rfl, rfl⟩) ?_
                rintro k7 f7 _ _ _ ⟨x13, x14, hl7, rfl, rfl, rfl⟩
                rcases k7 with _ | k7
                · exact absurd hl7 (by rw [lf_ref03_Right_l6.eq_1]; exact nofun)
                rw [lf_ref03_Right_l6.eq_2] at hl7
                refine cs_seq ?_
                refine cs_seq ?_
                refine cs_seq_region [0, 1, 2, 3, 4] rfl ?_
                refine c_move rfl rfl rfl rfl (v := (.int .i64 x14)) rfl ?_
                refine c_fieldAddr rfl rfl rfl rfl Tryz.underlying99 rfl Tryz.sizeOf96 rfl rfl ?_
                refine c_load1 (v := (.slice Ap0_3 p0_3.length cp0_3)) rfl rfl rfl Tryz.isAgg96 rfl (ldS rfl rfl (.head _) (sub1 rfl)) ?_
                refine l_len (m := p0_3.length) rfl rfl rfl rfl Tryz.underlying96 rfl ?_
                refine c_lss (p := x14) (q := ((p0_3.length : Nat) : Int)) rfl rfl rfl rfl rfl rfl ?_
                refine can_nil ?_
                refine ps_then ?_
                refine cs_condL (b := (decide (x14 < ((p0_3.length : Nat) : Int)))) rfl hl7 (fun hc17 hl7 => ?_) (fun hc17 hl7 => ?_)
                · refine cs_skip ?_
                  refine ps_then ?_
                  refine cs_seq ?_
                  refine cs_block ?_
                  refine cs_seq ?_
                  refine cs_seq_region [0, 1, 2, 3, 4, 5, 6] rfl ?_
                  refine c_fieldAddr rfl rfl rfl rfl Tryz.underlying99 rfl Tryz.sizeOf96 rfl rfl ?_
                  refine c_load1 (v := (.slice Ap0_3 p0_3.length cp0_3)) rfl rfl rfl Tryz.isAgg96 rfl (ldS rfl rfl (.head _) (sub1 rfl)) ?_
                  refine c_move rfl rfl rfl rfl (v := (.int .i64 x14)) rfl ?_
                  obtain ⟨y13, hy13, hl7⟩ := bnd hl7
                  refine can_en (en_ptr hv_p0_3 (by have := getO_lt hy13; omega)) ?_
                  rintro _ _ ⟨rfl, rfl, g8, o14, rfl⟩
                  refine can_en (open_gN hv_p0_3 hy13) ?_
                  rintro _ _ ⟨A13, c13, A14, c14, rfl, rfl⟩
                  refine c_indexAddrS (p := x14) rfl rfl rfl rfl Tryz.underlying96 Tryz.sizeOf99 rfl rfl (by have := getO_lt hy13; omega) ?_
                  refine c_loadN (cs := [(.int .i64 y13.kind), (.int .u64 ((y13.num : Nat) : Int)), (.slice A13 y13.bytes.length c13), (.slice A14 y13.list.length c14)]) rfl rfl rfl Tryz.isAgg99 Tryz.sizeOf99 rfl (ldSC (off := o14 + (x14 : Int).toNat * 4) (k := 0) rfl rfl (.head _) (subN (m := 4) rfl)) rfl ?_
                  obtain ⟨y14, hy14, hl7⟩ := bnd hl7
                  refine c_call rfl rfl rfl rfl Tryz.call165 (ih y13.kind y13.num y13.bytes y13.list (.slice A13 y13.bytes.length c13) (.slice A14 y13.list.length c14) w0 _ _ (.tail _ (.head _)) (.tail _ (.tail _ (.head _))) hy14) rfl (fun _ _ _ _ => Or.inl rfl) ?_
                  rintro _ _ _ ⟨rfl, rfl, rfl⟩
                  refine c_not rfl rfl rfl rfl rfl ?_
                  refine can_nil ?_
                  refine ps_then ?_
                  refine cs_condL (b := (!y14)) rfl hl7 (fun hc18 hl7 => ?_) (fun hc18 hl7 => ?_)
                  · refine cs_seq ?_
                    refine cs_seq_region [0] rfl ?_
                    refine c_assign rfl rfl rfl rfl (v := (.bool false)) rfl ?_
                    refine can_nil ?_
                    refine ps_then ?_
                    refine cs_ret ?_
                    refine ps_block_ret ?_
                    refine ps_then_ret ?_
                    refine ps_then_ret ?_
                    refine ps_block_ret ?_
                    refine ps_then_ret ?_
                    obtain rfl := Option.some.inj hl7
                    replace h := kR_i h
                    obtain rfl := Option.some.inj h
                    refine ps_en (en_arr (sps' := sps) (Arr.sub (List.Sublist.cons _ (List.Sublist.refl _)))) ?_
                    rintro _ _ ⟨rfl, rfl⟩
                    refine ps_en (en_keep (rs) (fun r hr => (.tail _ (.tail _ (.tail _ hr))))) ?_
                    rintro _ _ ⟨rfl, rfl⟩
                    apply ps_end1 rfl Tryz.results165 rfl
                    · exact ⟨rfl, rfl, rfl⟩
                    · exact .mk .refl .refl
                  · refine cs_skip ?_
                    refine ps_block_normal ?_
                    refine ps_then ?_
                    refine cs_seq_region [0, 1, 2] rfl ?_
                    refine c_move rfl rfl rfl rfl (v := (.int .i64 x14)) rfl ?_
                    refine c_add (p := x14) (q := (1 : Int)) rfl rfl rfl rfl rfl rfl ?_
                    refine c_assign rfl rfl rfl rfl (v := (.int .i64 (IntKind.wrap .i64 (x14 + (1 : Int))))) rfl ?_
                    refine can_nil ?_
                    refine ps_en (en_keep (rs) (fun r hr => (.tail _ (.tail _ (.tail _ hr))))) ?_
                    rintro _ _ ⟨rfl, rfl⟩
                    refine ps_roundS [(2, (.bool x13)), (3, (.int .i64 (IntKind.wrap .i64 (x14 + (1 : Int)))))] ⟨rfl, rfl, trivial⟩ xA k7 (Nat.lt_succ_self _) (⟨x13, (IntKind.wrap .i64 (x14 + (1 : Int))), hl7, rfl, rfl, rfl⟩) (.mk .refl .refl)
                · refine cs_exit ?_
                  refine ps_then_exit ?_
                  refine ps_then_exit ?_
                  obtain rfl := Option.some.inj hl7
                  replace h := kR_r h
                  replace h := un2_ h
                  obtain ⟨z13, rfl⟩ : ∃ z, z = x13 := ⟨_, rfl⟩
                  obtain ⟨z14, rfl⟩ : ∃ z, z = x14 := ⟨_, rfl⟩
                  refine ps_block_here ?_
                  refine ps_then ?_
                  refine cs_seq ?_
                  refine cs_seq_region [0] rfl ?_
                  refine c_assign rfl rfl rfl rfl (v := (.bool true)) rfl ?_
                  refine can_nil ?_
                  refine ps_then ?_
                  refine cs_ret ?_
                  obtain rfl := Option.some.inj h
                  refine ps_en (en_arr (sps' := sps) (Arr.sub (List.Sublist.cons _ (List.Sublist.refl _)))) ?_
                  rintro _ _ ⟨rfl, rfl⟩
                  refine ps_en (en_keep (rs) (fun r hr => hr)) ?_
                  rintro _ _ ⟨rfl, rfl⟩
                  apply ps_end1 rfl Tryz.results165 rfl
                  · exact ⟨rfl, rfl, rfl⟩
                  · exact .mk .refl .refl
            · refine can_skip rfl rfl rfl (Or.inl rfl) ?_
              refine can_skip rfl rfl rfl (Or.inl rfl) ?_
              refine can_skip rfl rfl rfl (Or.inl rfl) ?_
              refine can_skip rfl rfl rfl (Or.inl rfl) ?_
              refine c_pick rfl rfl rfl rfl rfl (by conv => lhs; whnf) ?_
              refine c_pick rfl rfl rfl rfl rfl (by conv => lhs; whnf) ?_
              refine can_nil ?_
              refine ps_then ?_
              refine cs_false rfl ?_
              refine cs_skip ?_
              refine ps_then ?_
              refine cs_seq ?_
              refine cs_seq ?_
              refine cs_seq_region [0] rfl ?_
              refine c_assign rfl rfl rfl rfl (v := (.int .i64 (0 : Int))) rfl ?_
              refine can_nil ?_
              refine ps_then ?_
              refine cs_block ?_
              obtain ⟨o15, hl8, h⟩ := bndR h
              refine cs_loopS [2, 3, 44, 45, 46, 47, 48, 49, 50, 51, 52, 53, 54, 55, 56, 57] (fun m L s r => ∃ (x15 : Bool) (x16 : Int), lf_ref03_Right_l7 K (lf_ref03_Right K k) p0_3 m x15 x16 = some o15 ∧ [(2, (.bool x15)), (3, (.int .i64 x16))] = L ∧ Bk g1 [(.int .i64 p0_0), (.int .u64 ((p0_1 : Nat) : Int)), (.slice Ap0_2 p0_2.length cp0_2), (.slice Ap0_3 p0_3.length cp0_3)] 99 :: sps = s ∧ rs = r) [(2, (.bool false)), (3, (.int .i64 (0 : Int)))] (⟨rfl, rfl, trivial⟩) (⟨false, (0 : Int), hl8, rfl, rfl, rfl⟩) ?_
              rintro k8 f8 _ _ _ ⟨x15, x16, hl8, rfl, rfl, rfl⟩
              rcases k8 with _ | k8
              · exact absurd hl8 (by rw [lf_ref03_Right_l7.eq_1]; exact nofun)
              rw [lf_ref03_Right_l7.eq_2] at hl8
              refine cs_seq ?_
              refine cs_seq ?_
              refine cs_seq_region [0, 1, 2, 3, 4] rfl ?_
              refine c_move rfl rfl rfl rfl (v := (.int .i64 x16)) rfl ?_
              refine c_fieldAddr rfl rfl rfl rfl Tryz.underlying99 rfl Tryz.sizeOf96 rfl rfl ?_
              refine c_load1 (v := (.slice Ap0_3 p0_3.length cp0_3)) rfl rfl rfl Tryz.isAgg96 rfl (ldS rfl rfl (.head _) (sub1 rfl)) ?_
              refine l_len (m := p0_3.length) rfl rfl rfl rfl Tryz.underlying96 rfl ?_
              refine c_lss (p := x16) (q := ((p0_3.length : Nat) : Int)) rfl rfl rfl rfl rfl rfl ?_
              refine can_nil ?_
              refine ps_then ?_
              refine cs_condL (b := (decide (x16 < ((p0_3.length : Nat) : Int)))) rfl hl8 (fun hc19 hl8 => ?_) (fun hc19 hl8 => ?_)
              · refine cs_skip ?_
                refine ps_then ?_
                refine cs_seq ?_
                refine cs_block ?_
                refine cs_seq ?_
                refine cs_seq_region [0, 1, 2, 3, 4, 5, 6] rfl ?_
                refine c_fieldAddr rfl rfl rfl rfl Tryz.underlying99 rfl Tryz.sizeOf96 rfl rfl ?_
                refine c_load1 (v := (.slice Ap0_3 p0_3.length cp0_3)) rfl rfl rfl Tryz.isAgg96 rfl (ldS rfl rfl (.head _) (sub1 rfl)) ?_
                refine c_move rfl rfl rfl rfl (v := (.int .i64 x16)) rfl ?_
                obtain ⟨y15, hy15, hl8⟩ := bnd hl8
                refine can_en (en_ptr hv_p0_3 (by have := getO_lt hy15; omega)) ?_
                rintro _ _ ⟨rfl, rfl, g9, o16, rfl⟩
                refine can_en (open_gN hv_p0_3 hy15) ?_
                rintro _ _ ⟨A15, c15, A16, c16, rfl, rfl⟩
                refine c_indexAddrS (p := x16) rfl rfl rfl rfl Tryz.underlying96 Tryz.sizeOf99 rfl rfl (by have := getO_lt hy15; omega) ?_
                refine c_loadN (cs := [(.int .i64 y15.kind), (.int .u64 ((y15.num : Nat) : Int)), (.slice A15 y15.bytes.length c15), (.slice A16 y15.list.length c16)]) rfl rfl rfl Tryz.isAgg99 Tryz.sizeOf99 rfl (ldSC (off := o16 + (x16 : Int).toNat * 4) (k := 0) rfl rfl (.head _) (subN (m := 4) rfl)) rfl ?_
                obtain ⟨y16, hy16, hl8⟩ := bnd hl8
                refine c_call rfl rfl rfl rfl Tryz.call165 (ih y15.kind y15.num y15.bytes y15.list (.slice A15 y15.bytes.length c15) (.slice A16 y15.list.length c16) w0 _ _ (.tail _ (.head _)) (.tail _ (.tail _ (.head _))) hy16) rfl (fun _ _ _ _ => Or.inl rfl) ?_
                rintro _ _ _ ⟨rfl, rfl, rfl⟩
                refine c_not rfl rfl rfl rfl rfl ?_
                refine can_nil ?_
                refine ps_then ?_
                refine cs_condL (b := (!y16)) rfl hl8 (fun hc20 hl8 => ?_) (fun hc20 hl8 => ?_)
                · refine cs_seq ?_
                  refine cs_seq_region [0] rfl ?_
                  refine c_assign rfl rfl rfl rfl (v := (.bool false)) rfl ?_
                  refine can_nil ?_
                  refine ps_then ?_
                  refine cs_ret ?_
                  refine ps_block_ret ?_
                  refine ps_then_ret ?_
                  refine ps_then_ret ?_
                  refine ps_block_ret ?_
                  refine ps_then_ret ?_
                  obtain rfl := Option.some.inj hl8
                  replace h := kR_i h
                  obtain rfl := Option.some.inj h
                  refine ps_en (en_arr (sps' := sps) (Arr.sub (List.Sublist.cons _ (List.Sublist.refl _)))) ?_
                  rintro _ _ ⟨rfl, rfl⟩
                  refine ps_en (en_keep (rs) (fun r hr => (.tail _ (.tail _ (.tail _ hr))))) ?_
                  rintro _ _ ⟨rfl, rfl⟩
                  apply ps_end1 rfl Tryz.results165 rfl
                  · exact ⟨rfl, rfl, rfl⟩
                  · exact .mk .refl .refl
                · refine cs_skip ?_
                  refine ps_block_normal ?_
                  refine ps_then ?_
                  refine cs_seq_region [0, 1, 2] rfl ?_
                  refine c_move rfl rfl rfl rfl (v := (.int .i64 x16)) rfl ?_
                  refine c_add (p := x16) (q := (1 : Int)) rfl rfl rfl rfl rfl rfl ?_
                  refine c_assign rfl rfl rfl rfl (v := (.int .i64 (IntKind.wrap .i64 (x16 + (1 : Int))))) rfl ?_
                  refine can_nil ?_
                  refine ps_en (en_keep (rs) (fun r hr => (.tail _ (.tail _ (.tail _ hr))))) ?_
                  rintro _ _ ⟨rfl, rfl⟩
                  refine ps_roundS [(2, (.bool x15)), (3, (.int .i64 (IntKind.wrap .i64 (x16 + (1 : Int)))))] ⟨rfl, rfl, trivial⟩ xA k8 (Nat.lt_succ_self _) (⟨x15, (IntKind.wrap .i64 (x16 + (1 : Int))), hl8, rfl, rfl, rfl⟩) (.mk .refl .refl)
              · refine cs_exit ?_
                refine ps_then_exit ?_
                refine ps_then_exit ?_
                obtain rfl := Option.some.inj hl8
                replace h := kR_r h
                replace h := un2_ h
                obtain ⟨z15, rfl⟩ : ∃ z, z = x15 := ⟨_, rfl⟩
                obtain ⟨z16, rfl⟩ : ∃ z, z = x16 := ⟨_, rfl⟩
                refine ps_block_here ?_
                refine ps_then ?_
                refine cs_seq ?_
                refine cs_seq_region [0] rfl ?_
                refine c_assign rfl rfl rfl rfl (v := (.bool true)) rfl ?_
                refine can_nil ?_
                refine ps_then ?_
                refine cs_ret ?_
                obtain rfl := Option.some.inj h
                refine ps_en (en_arr (sps' := sps) (Arr.sub (List.Sublist.cons _ (List.Sublist.refl _)))) ?_
                rintro _ _ ⟨rfl, rfl⟩
                refine ps_en (en_keep (rs) (fun r hr => hr)) ?_
                rintro _ _ ⟨rfl, rfl⟩
                apply ps_end1 rfl Tryz.results165 rfl
                · exact ⟨rfl, rfl, rfl⟩
                · exact .mk .refl .refl
def lf_ref03_all_l0 (K : Nat) (self : Int → Nat → (List Nat) → (List GNode) → Int → Option ((List GNode) × (List Int))) (p0_3 : (List GNode)) (p1 : Int) : Nat → (List GNode) → (List Int) → Int → Option ((List GNode) × (List Int) × Int)
  | 0, _, _, _ => none
  | k + 1, x1, x2, x3 => (bif (decide (x3 < ((p0_3.length : Nat) : Int))) then ((getO p0_3 x3).bind fun y1 => ((self y1.kind y1.num y1.bytes y1.list (IntKind.wrap .i64 (p1 + (1 : Int)))).bind (fun qy2 => un2 qy2 (fun y2 => fun y3 => ((appO x1 y2).bind fun y4 => ((appO x2 y3).bind fun y5 => (lf_ref03_all_l0 K self p0_3 p1 k y4 y5 (IntKind.wrap .i64 (x3 + (1 : Int)))))))))) else (some (x1, x2, x3)))
def lf_ref03_all_b (K : Nat) (self : Int → Nat → (List Nat) → (List GNode) → Int → Option ((List GNode) × (List Int))) (p0_0 : Int) (p0_1 : Nat) (p0_2 : (List Nat)) (p0_3 : (List GNode)) (p1 : Int) : Option ((List GNode) × (List Int)) := ((lf_ref03_all_l0 K self p0_3 p1 K ([(GNode.mk p0_0 p0_1 p0_2 p0_3)] : List GNode) ([p1] : List Int) (0 : Int)).bind (fun qz1 => un2 qz1 (fun z1 => fun qz2 => un2 qz2 (fun z2 => fun z3 => (some (z1, z2))))))
def lf_ref03_all (K : Nat) : Nat → Int → Nat → (List Nat) → (List GNode) → Int → Option ((List GNode) × (List Int))
  | 0, _, _, _, _, _ => none
  | k + 1, p0_0, p0_1, p0_2, p0_3, p1 => lf_ref03_all_b K (lf_ref03_all K k) p0_0 p0_1 p0_2 p0_3 p1
theorem lf_ref03_all_ok (K : Nat) : ∀ (k : Nat) (p0_0 : Int) (p0_1 : Nat) (p0_2 : (List Nat)) (p0_3 : (List GNode)) (p1 : Int) (vp0_2 : Value) (vp0_3 : Value) (w0 : World) (sps : List Sp) (rs : List Fa) (hv_p0_2 : Rd (un .u8) vp0_2 p0_2 ∈ rs) (hv_p0_3 : Rd gN vp0_3 p0_3 ∈ rs) {r0 : (List GNode)} {r1 : (List Int)} (h : lf_ref03_all K k p0_0 p0_1 p0_2 p0_3 p1 = some (r0, r1)), FnOk Tryz.prog 166 #[.agg #[.int .i64 p0_0, .int .u64 ((p0_1 : Nat) : Int), vp0_2, vp0_3], .int .i64 p1] w0 sps rs (fun v s q => ∃ (qr0 : Value) (qr1 : Value), v = .tuple #[qr0, qr1] ∧ Row gN 99 qr0 r0 :: Row (sn .i64) 3 qr1 r1 :: sps = s ∧ rs = q) := by
  intro k
  induction k with
  | zero => intros; rename_i h; exact absurd h (by rw [lf_ref03_all.eq_1]; exact nofun)
  | succ k ih =>
    intro p0_0 p0_1 p0_2 p0_3 p1 vp0_2 vp0_3 w0 sps rs hv_p0_2 hv_p0_3 r0 r1 h
    rw [lf_ref03_all.eq_2] at h
    unfold lf_ref03_all_b at h
    refine fn_en (en_shape hv_p0_2) ?_
    rintro _ _ ⟨rfl, rfl, Ap0_2, cp0_2, rfl, -, -, -⟩
    refine fn_en (en_shape hv_p0_3) ?_
    rintro _ _ ⟨rfl, rfl, Ap0_3, cp0_3, rfl, -, -, -⟩
    refine fn_enter Tryz.func166 rfl Tryz.ntmps166 rfl ?_
    refine cs_seq ?_
    refine cs_seq_region [0, 1, 2] rfl ?_
    refine c_box (cs := [(.int .i64 p0_0), (.int .u64 ((p0_1 : Nat) : Int)), (.slice Ap0_2 p0_2.length cp0_2), (.slice Ap0_3 p0_3.length cp0_3)]) rfl rfl rfl rfl rfl (fun _ => Or.inl rfl) (fun g1 => ?_)
    refine c_assign rfl rfl rfl rfl (v := (.slice none 0 0)) rfl ?_
    refine c_assign rfl rfl rfl rfl (v := (.slice none 0 0)) rfl ?_
    refine can_nil ?_
    refine ps_then ?_
    refine cs_seq ?_
    refine cs_seq_region [0, 1, 2, 3, 4, 5] rfl ?_
    refine c_loadN (cs := [(.int .i64 p0_0), (.int .u64 ((p0_1 : Nat) : Int)), (.slice Ap0_2 p0_2.length cp0_2), (.slice Ap0_3 p0_3.length cp0_3)]) rfl rfl rfl Tryz.isAgg99 Tryz.sizeOf99 rfl (ldS rfl rfl (.head _) (subN (m := 4) rfl)) rfl ?_
    refine c_lit (cs := [(.int .i64 p0_0), (.int .u64 ((p0_1 : Nat) : Int)), (.slice Ap0_2 p0_2.length cp0_2), (.slice Ap0_3 p0_3.length cp0_3)]) rfl rfl rfl rfl Tryz.underlying96 Tryz.sizeOf99 Tryz.zeroValue99 rfl rfl rfl rfl rfl (fun _ => Or.inl rfl) (fun g2 => ?_)
    refine can_en (en_litRow (m := 1) (dr := gN) (xs := ([(GNode.mk p0_0 p0_1 p0_2 p0_3)] : List GNode)) Rem.here (fun hh hr => (Reps.nil gN _).snoc (x := (GNode.mk p0_0 p0_1 p0_2 p0_3)) (c := [(.int .i64 p0_0), (.int .u64 ((p0_1 : Nat) : Int)), (.slice Ap0_2 p0_2.length cp0_2), (.slice Ap0_3 p0_3.length cp0_3)]) (gN_mk (hr _ hv_p0_2) (hr _ hv_p0_3))) rfl rfl) ?_
    rintro _ _ ⟨rfl, rfl⟩
    refine c_move rfl rfl rfl rfl (v := (.int .i64 p1)) rfl ?_
    refine c_lit (cs := [(.int .i64 p1)]) rfl rfl rfl rfl Tryz.underlying240 Tryz.sizeOf3 Tryz.zeroValue3 rfl rfl rfl rfl rfl (fun _ => Or.inl rfl) (fun g3 => ?_)
    refine can_en (en_litRow (m := 1) (dr := (sn .i64)) (xs := ([p1] : List Int)) Rem.here (fun hh hr => (Reps.nil (sn .i64) _).snoc (x := p1) (c := [(.int .i64 p1)]) ⟨rfl, trivial⟩) rfl rfl) ?_
    rintro _ _ ⟨rfl, rfl⟩
    refine c_assign rfl rfl rfl rfl (v := (.slice (some ⟨g2, 0, none⟩) 1 1)) rfl ?_
    refine c_assign rfl rfl rfl rfl (v := (.slice (some ⟨g3, 0, none⟩) 1 1)) rfl ?_
    refine can_nil ?_
    refine ps_then ?_
    refine cs_seq ?_
    refine cs_seq ?_
    refine cs_seq_region [0] rfl ?_
    refine c_assign rfl rfl rfl rfl (v := (.int .i64 (0 : Int))) rfl ?_
    refine can_nil ?_
    refine ps_then ?_
    refine cs_block ?_
    obtain ⟨o1, hl1, h⟩ := bnd h
    refine cs_loopS [6, 7, 8, 9, 10, 15, 16, 17, 18, 19, 20, 21, 22, 23, 24, 25, 26, 27, 28, 29, 30, 31, 32, 33, 34, 35, 36, 37, 38] (fun m L s r => ∃ (x1 : (List GNode)) (x2 : (List Int)) (x3 : Int) (A1 : Option Addr) (m1 : Nat) (c1 : Nat) (A2 : Option Addr) (m2 : Nat) (c2 : Nat), lf_ref03_all_l0 K (lf_ref03_all K k) p0_3 p1 m x1 x2 x3 = some o1 ∧ [(6, (.slice A1 m1 c1)), (7, (.slice A2 m2 c2)), (8, (.int .i64 x3))] = L ∧ Row (sn .i64) 3 (.slice A2 m2 c2) x2 :: Row gN 99 (.slice A1 m1 c1) x1 :: Bk g1 [(.int .i64 p0_0), (.int .u64 ((p0_1 : Nat) : Int)), (.slice Ap0_2 p0_2.length cp0_2), (.slice Ap0_3 p0_3.length cp0_3)] 99 :: sps = s ∧ rs = r) [(6, (.slice (some ⟨g2, 0, none⟩) 1 1)), (7, (.slice (some ⟨g3, 0, none⟩) 1 1)), (8, (.int .i64 (0 : Int)))] (⟨rfl, rfl, rfl, trivial⟩) (⟨([(GNode.mk p0_0 p0_1 p0_2 p0_3)] : List GNode), ([p1] : List Int), (0 : Int), _, _, _, _, _, _, hl1, rfl, rfl, rfl⟩) ?_
    rintro k1 f1 _ _ _ ⟨x1, x2, x3, A1, m1, c1, A2, m2, c2, hl1, rfl, rfl, rfl⟩
    rcases k1 with _ | k1
    · exact absurd hl1 (by rw [lf_ref03_all_l0.eq_1]; exact nofun)
    rw [lf_ref03_all_l0.eq_2] at hl1
    refine cs_en (en_rowLen (.tail _ (.head _))) ?_
    rintro _ _ ⟨rfl, rfl, rfl⟩
    refine cs_en (en_rowLen (.head _)) ?_
    rintro _ _ ⟨rfl, rfl, rfl⟩
    refine cs_seq ?_
    refine cs_seq ?_
    refine cs_seq_region [0, 1, 2, 3, 4] rfl ?_
    refine c_move rfl rfl rfl rfl (v := (.int .i64 x3)) rfl ?_
    refine c_fieldAddr rfl rfl rfl rfl Tryz.underlying99 rfl Tryz.sizeOf96 rfl rfl ?_
    refine c_load1 (v := (.slice Ap0_3 p0_3.length cp0_3)) rfl rfl rfl Tryz.isAgg96 rfl (ldS rfl rfl (.tail _ (.tail _ (.head _))) (sub1 rfl)) ?_
    refine l_len (m := p0_3.length) rfl rfl rfl rfl Tryz.underlying96 rfl ?_
    refine c_lss (p := x3) (q := ((p0_3.length : Nat) : Int)) rfl rfl rfl rfl rfl rfl ?_
    refine can_nil ?_
    refine ps_then ?_
    refine cs_condL (b := (decide (x3 < ((p0_3.length : Nat) : Int)))) rfl hl1 (fun hc1 hl1 => ?_) (fun hc1 hl1 => ?_)
    · refine cs_skip ?_
      refine ps_then ?_
      refine cs_seq ?_
      refine cs_block ?_
      refine cs_seq ?_
      refine cs_seq_region [0, 1, 2, 3, 4, 5, 6, 7, 8, 9, 10, 11, 12] rfl ?_
      refine c_fieldAddr rfl rfl rfl rfl Tryz.underlying99 rfl Tryz.sizeOf96 rfl rfl ?_
      refine c_load1 (v := (.slice Ap0_3 p0_3.length cp0_3)) rfl rfl rfl Tryz.isAgg96 rfl (ldS rfl rfl (.tail _ (.tail _ (.head _))) (sub1 rfl)) ?_
      refine c_move rfl rfl rfl rfl (v := (.int .i64 x3)) rfl ?_
      obtain ⟨y1, hy1, hl1⟩ := bnd hl1
      refine can_en (en_ptr hv_p0_3 (by have := getO_lt hy1; omega)) ?_
      rintro _ _ ⟨rfl, rfl, g4, o2, rfl⟩
      refine can_en (open_gN hv_p0_3 hy1) ?_
      rintro _ _ ⟨A3, c3, A4, c4, rfl, rfl⟩
      refine c_indexAddrS (p := x3) rfl rfl rfl rfl Tryz.underlying96 Tryz.sizeOf99 rfl rfl (by have := getO_lt hy1; omega) ?_
      refine c_loadN (cs := [(.int .i64 y1.kind), (.int .u64 ((y1.num : Nat) : Int)), (.slice A3 y1.bytes.length c3), (.slice A4 y1.list.length c4)]) rfl rfl rfl Tryz.isAgg99 Tryz.sizeOf99 rfl (ldSC (off := o2 + (x3 : Int).toNat * 4) (k := 0) rfl rfl (.head _) (subN (m := 4) rfl)) rfl ?_
      refine c_move rfl rfl rfl rfl (v := (.int .i64 p1)) rfl ?_
      refine c_add (p := p1) (q := (1 : Int)) rfl rfl rfl rfl rfl rfl ?_
      obtain ⟨⟨y2, y3⟩, hy2, hl1⟩ := bnd hl1
      replace hl1 := un2_ hl1
      refine c_call rfl rfl rfl rfl Tryz.call166 (ih y1.kind y1.num y1.bytes y1.list (IntKind.wrap .i64 (p1 + (1 : Int))) (.slice A3 y1.bytes.length c3) (.slice A4 y1.list.length c4) w0 _ _ (.tail _ (.head _)) (.tail _ (.tail _ (.head _))) hy2) rfl (fun _ _ _ _ => Or.inl rfl) ?_
      rintro _ _ _ ⟨v1, v2, rfl, rfl, rfl⟩
      refine can_en (en_rowShape (xs := y2) (.head _)) ?_
      rintro _ _ ⟨rfl, rfl, A5, c5, rfl, -, -, -⟩
      refine can_en (en_rowShape (xs := y3) (.tail _ (.head _))) ?_
      rintro _ _ ⟨rfl, rfl, A6, c6, rfl, -, -, -⟩
      refine c_move rfl rfl rfl rfl (v := (.tuple #[(.slice A5 y2.length c5), (.slice A6 y3.length c6)])) rfl ?_
      refine c_extract rfl rfl rfl rfl rfl rfl ?_
      refine c_extract rfl rfl rfl rfl rfl rfl ?_
      refine c_assign rfl rfl rfl rfl (v := (.slice A5 y2.length c5)) rfl ?_
      refine c_assign rfl rfl rfl rfl (v := (.slice A6 y3.length c6)) rfl ?_
      refine can_nil ?_
      refine ps_then ?_
      refine cs_seq ?_
      refine cs_seq_region [0, 1, 2, 3] rfl ?_
      refine c_move rfl rfl rfl rfl (v := (.slice A1 x1.length c1)) rfl ?_
      refine c_move rfl rfl rfl rfl (v := (.slice A5 y2.length c5)) rfl ?_
      refine can_en (en_give Rem.here) ?_
      rintro _ _ ⟨rfl, rfl⟩
      obtain ⟨y4, hy3, hl1⟩ := bnd hl1
      refine l_append (dr := gN) (xs := x1) (ys := y2) rfl rfl rfl rfl sty_96 rfl rfl rfl (Foc.there (Foc.there Foc.here)) (.head _) hy3 (fun _ => Or.inl rfl) (fun v3 => ?_)
      simp only [List.nil_append, List.cons_append]
      refine can_en (en_rowShape (xs := y4) (.tail _ (.tail _ (.head _)))) ?_
      rintro _ _ ⟨rfl, rfl, A7, c7, rfl, -, -, -⟩
      refine c_assign rfl rfl rfl rfl (v := (.slice A7 y4.length c7)) rfl ?_
      refine can_nil ?_
      refine ps_then ?_
      refine cs_seq_region [0, 1, 2, 3] rfl ?_
      refine c_move rfl rfl rfl rfl (v := (.slice A2 x2.length c2)) rfl ?_
      refine c_move rfl rfl rfl rfl (v := (.slice A6 y3.length c6)) rfl ?_
      refine can_en (en_give Rem.here) ?_
      rintro _ _ ⟨rfl, rfl⟩
      obtain ⟨y5, hy4, hl1⟩ := bnd hl1
      refine l_append (dr := (sn .i64)) (xs := x2) (ys := y3) rfl rfl rfl rfl sty_240 rfl rfl rfl Foc.here (.head _) hy4 (fun _ => Or.inl rfl) (fun v4 => ?_)
      refine can_en (en_rowShape (xs := y5) (.head _)) ?_
      rintro _ _ ⟨rfl, rfl, A8, c8, rfl, -, -, -⟩
      refine c_assign rfl rfl rfl rfl (v := (.slice A8 y5.length c8)) rfl ?_
      refine can_nil ?_
      refine ps_block_normal ?_
      refine ps_then ?_
      refine cs_seq_region [0, 1, 2] rfl ?_
      refine c_move rfl rfl rfl rfl (v := (.int .i64 x3)) rfl ?_
      refine c_add (p := x3) (q := (1 : Int)) rfl rfl rfl rfl rfl rfl ?_
      refine c_assign rfl rfl rfl rfl (v := (.int .i64 (IntKind.wrap .i64 (x3 + (1 : Int))))) rfl ?_
      refine can_nil ?_
      refine ps_en (en_keep (rs) (fun r hr => (.tail _ (.tail _ (.tail _ (.tail _ (.tail _ hr))))))) ?_
      rintro _ _ ⟨rfl, rfl⟩
      refine ps_roundS [(6, (.slice A7 y4.length c7)), (7, (.slice A8 y5.length c8)), (8, (.int .i64 (IntKind.wrap .i64 (x3 + (1 : Int)))))] ⟨rfl, rfl, rfl, trivial⟩ xA k1 (Nat.lt_succ_self _) (⟨y4, y5, (IntKind.wrap .i64 (x3 + (1 : Int))), _, _, _, _, _, _, hl1, rfl, rfl, rfl⟩) (.mk .refl .refl)
    · refine cs_exit ?_
      refine ps_then_exit ?_
      refine ps_then_exit ?_
      obtain rfl := Option.some.inj hl1
      replace h := un2_ h
      replace h := un2_ h
      obtain ⟨z1, rfl⟩ : ∃ z, z = x1 := ⟨_, rfl⟩
      obtain ⟨z2, rfl⟩ : ∃ z, z = x2 := ⟨_, rfl⟩
      obtain ⟨z3, rfl⟩ : ∃ z, z = x3 := ⟨_, rfl⟩
      refine ps_block_here ?_
      refine ps_then ?_
      refine cs_seq ?_
      refine cs_seq_region [0, 1, 2, 3] rfl ?_
      refine c_move rfl rfl rfl rfl (v := (.slice A1 z1.length c1)) rfl ?_
      refine c_move rfl rfl rfl rfl (v := (.slice A2 z2.length c2)) rfl ?_
      refine c_assign rfl rfl rfl rfl (v := (.slice A1 z1.length c1)) rfl ?_
      refine c_assign rfl rfl rfl rfl (v := (.slice A2 z2.length c2)) rfl ?_
      refine can_nil ?_
      refine ps_then ?_
      refine cs_ret ?_
      have hz0 := Option.some.inj h
      obtain ⟨rfl, hz1⟩ := prod2 hz0
      obtain rfl := hz1
      refine ps_en (en_arr (sps' := Row gN 99 (.slice A1 z1.length c1) z1 :: Row (sn .i64) 3 (.slice A2 z2.length c2) z2 :: sps) (Arr.cons (Rem.there Rem.here) (Arr.cons Rem.here (Arr.sub (List.Sublist.cons _ (List.Sublist.refl _)))))) ?_
      rintro _ _ ⟨rfl, rfl⟩
      refine ps_en (en_keep (rs) (fun r hr => hr)) ?_
      rintro _ _ ⟨rfl, rfl⟩
      apply ps_end2 rfl Tryz.results166 rfl rfl
      · exact ⟨_, _, rfl, rfl, rfl⟩
      · exact .mk .refl .refl
def lf_ref03_bytes_l0 (K : Nat) (self : Int → Nat → (List Nat) → (List GNode) → Option (List Nat)) (p0_3 : (List GNode)) : Nat → (List Nat) → Int → Option ((List Nat) × Int)
  | 0, _, _ => none
  | k + 1, x1, x2 => (bif (decide (x2 < ((p0_3.length : Nat) : Int))) then ((getO p0_3 x2).bind fun y8 => ((self y8.kind y8.num y8.bytes y8.list).bind (fun y9 => ((appO x1 y9).bind fun y10 => (lf_ref03_bytes_l0 K self p0_3 k y10 (IntKind.wrap .i64 (x2 + (1 : Int)))))))) else (some (x1, x2)))
def lf_ref03_bytes_b (K : Nat) (self : Int → Nat → (List Nat) → (List GNode) → Option (List Nat)) (p0_0 : Int) (p0_1 : Nat) (p0_2 : (List Nat)) (p0_3 : (List GNode)) : Option (List Nat) := (bif (decide (p0_0 = (1 : Int))) then ((lf_ref03_Count K p0_1).bind (fun y1 => ((appO ([(toU .u8 p0_0)] : List Nat) y1).bind fun y2 => (some y2)))) else (bif (decide (p0_0 = (2 : Int))) then ((lf_ref03_Count K (toU .u64 ((p0_2.length : Nat) : Int))).bind (fun y3 => ((appO ([(toU .u8 p0_0)] : List Nat) y3).bind fun y4 => ((appO y4 p0_2).bind fun y5 => (some y5))))) else ((lf_ref03_Count K (toU .u64 ((p0_3.length : Nat) : Int))).bind (fun y6 => ((appO ([(toU .u8 p0_0)] : List Nat) y6).bind fun y7 => ((lf_ref03_bytes_l0 K self p0_3 K y7 (0 : Int)).bind (fun qz1 => un2 qz1 (fun z1 => fun z2 => (some z1)))))))))
def lf_ref03_bytes (K : Nat) : Nat → Int → Nat → (List Nat) → (List GNode) → Option (List Nat)
  | 0, _, _, _, _ => none
  | k + 1, p0_0, p0_1, p0_2, p0_3 => lf_ref03_bytes_b K (lf_ref03_bytes K k) p0_0 p0_1 p0_2 p0_3
theorem lf_ref03_bytes_ok (K : Nat) : ∀ (k : Nat) (p0_0 : Int) (p0_1 : Nat) (p0_2 : (List Nat)) (p0_3 : (List GNode)) (vp0_2 : Value) (vp0_3 : Value) (w0 : World) (sps : List Sp) (rs : List Fa) (hv_p0_2 : Rd (un .u8) vp0_2 p0_2 ∈ rs) (hv_p0_3 : Rd gN vp0_3 p0_3 ∈ rs) {r0 : (List Nat)} (h : lf_ref03_bytes K k p0_0 p0_1 p0_2 p0_3 = some r0), FnOk Tryz.prog 168 #[.agg #[.int .i64 p0_0, .int .u64 ((p0_1 : Nat) : Int), vp0_2, vp0_3]] w0 sps rs (fun v s q => ∃ (qr0 : Value), v = qr0 ∧ Row (un .u8) 5 qr0 r0 :: sps = s ∧ rs = q) := by
  intro k
  induction k with
  | zero => intros; rename_i h; exact absurd h (by rw [lf_ref03_bytes.eq_1]; exact nofun)
  | succ k ih =>
    intro p0_0 p0_1 p0_2 p0_3 vp0_2 vp0_3 w0 sps rs hv_p0_2 hv_p0_3 r0 h
    rw [lf_ref03_bytes.eq_2] at h
    unfold lf_ref03_bytes_b at h
    refine fn_en (en_shape hv_p0_2) ?_
    rintro _ _ ⟨rfl, rfl, Ap0_2, cp0_2, rfl, -, -, -⟩
    refine fn_en (en_shape hv_p0_3) ?_
    rintro _ _ ⟨rfl, rfl, Ap0_3, cp0_3, rfl, -, -, -⟩
    refine fn_enter Tryz.func168 rfl Tryz.ntmps168 rfl ?_
    refine cs_seq ?_
    refine cs_seq_region [0, 1] rfl ?_
    refine c_box (cs := [(.int .i64 p0_0), (.int .u64 ((p0_1 : Nat) : Int)), (.slice Ap0_2 p0_2.length cp0_2), (.slice Ap0_3 p0_3.length cp0_3)]) rfl rfl rfl rfl rfl (fun _ => Or.inl rfl) (fun g1 => ?_)
    refine c_assign rfl rfl rfl rfl (v := (.slice none 0 0)) rfl ?_
    refine can_nil ?_
    refine ps_then ?_
    refine cs_seq ?_
    refine cs_seq_region [0, 1, 2, 3, 4] rfl ?_
    refine c_fieldAddr rfl rfl rfl rfl Tryz.underlying99 rfl Tryz.sizeOf3 rfl rfl ?_
    refine c_load1 (v := (.int .i64 p0_0)) rfl rfl rfl Tryz.isAgg3 rfl (ldS rfl rfl (.head _) (sub1 rfl)) ?_
    refine l_convU (p := p0_0) rfl rfl rfl rfl Tryz.underlying3 Tryz.underlying5 rfl rfl ?_
    refine c_lit (cs := [(.int .u8 (((toU .u8 p0_0) : Nat) : Int))]) rfl rfl rfl rfl Tryz.underlying22 Tryz.sizeOf5 Tryz.zeroValue5 rfl rfl rfl rfl rfl (fun _ => Or.inl rfl) (fun g2 => ?_)
    refine can_en (en_litRow (m := 1) (dr := (un .u8)) (xs := ([(toU .u8 p0_0)] : List Nat)) Rem.here (fun hh hr => un_reps _) rfl rfl) ?_
    rintro _ _ ⟨rfl, rfl⟩
    refine c_assign rfl rfl rfl rfl (v := (.slice (some ⟨g2, 0, none⟩) 1 1)) rfl ?_
    refine can_nil ?_
    refine ps_then ?_
    refine cs_seq ?_
    refine cs_seq ?_
    refine cs_seq_region [0, 1] rfl ?_
    refine c_fieldAddr rfl rfl rfl rfl Tryz.underlying99 rfl Tryz.sizeOf3 rfl rfl ?_
    refine c_load1 (v := (.int .i64 p0_0)) rfl rfl rfl Tryz.isAgg3 rfl (ldS rfl rfl (.tail _ (.head _)) (sub1 rfl)) ?_
    refine can_nil ?_
    refine ps_then ?_
    refine cs_block ?_
    refine cs_seq ?_
    refine cs_seq_region [0, 1] rfl ?_
    refine l_eqlI (p := p0_0) (q := (1 : Int)) rfl rfl rfl rfl rfl rfl ?_
    refine c_assign rfl rfl rfl rfl (v := (.bool (decide (p0_0 = (1 : Int))))) rfl ?_
    refine can_nil ?_
    refine ps_then ?_
    refine cs_condL (b := (decide (p0_0 = (1 : Int)))) rfl h (fun hc1 h => ?_) (fun hc1 h => ?_)
    · refine cs_seq ?_
      refine cs_seq_region [0, 1, 2, 3, 4, 5] rfl ?_
      refine c_move rfl rfl rfl rfl (v := (.slice (some ⟨g2, 0, none⟩) 1 1)) rfl ?_
      refine c_fieldAddr rfl rfl rfl rfl Tryz.underlying99 rfl Tryz.sizeOf97 rfl rfl ?_
      refine c_load1 (v := (.int .u64 ((p0_1 : Nat) : Int))) rfl rfl rfl Tryz.isAgg97 rfl (ldS rfl rfl (.tail _ (.head _)) (sub1 rfl)) ?_
      obtain ⟨y1, hy1, h⟩ := bnd h
      refine c_call rfl rfl rfl rfl Tryz.call227 (lf_ref03_Count_ok K p0_1  w0 _ _  hy1) rfl (fun _ _ _ _ => Or.inl rfl) ?_
      rintro _ _ _ ⟨v1, rfl, rfl, rfl⟩
      refine can_en (en_rowShape (xs := y1) (.head _)) ?_
      rintro _ _ ⟨rfl, rfl, A1, c1, rfl, -, -, -⟩
      refine can_en (en_give Rem.here) ?_
      rintro _ _ ⟨rfl, rfl⟩
      obtain ⟨y2, hy2, h⟩ := bnd h
      refine l_append (dr := (un .u8)) (xs := ([(toU .u8 p0_0)] : List Nat)) (ys := y1) rfl rfl rfl rfl sty_22 rfl rfl rfl Foc.here (.head _) hy2 (fun _ => Or.inl rfl) (fun v2 => ?_)
      refine can_en (en_rowShape (xs := y2) (.head _)) ?_
      rintro _ _ ⟨rfl, rfl, A2, c2, rfl, -, -, -⟩
      refine c_assign rfl rfl rfl rfl (v := (.slice A2 y2.length c2)) rfl ?_
      refine can_nil ?_
      refine ps_then ?_
      refine cs_ret ?_
      refine ps_block_ret ?_
      refine ps_then_ret ?_
      obtain rfl := Option.some.inj h
      refine ps_en (en_arr (sps' := Row (un .u8) 5 (.slice A2 y2.length c2) y2 :: sps) (Arr.cons Rem.here (Arr.sub (List.Sublist.cons _ (List.Sublist.refl _))))) ?_
      rintro _ _ ⟨rfl, rfl⟩
      refine ps_en (en_keep (rs) (fun r hr => (.tail _ hr))) ?_
      rintro _ _ ⟨rfl, rfl⟩
      apply ps_end1 rfl Tryz.results168 rfl
      · exact ⟨_, rfl, rfl, rfl⟩
      · exact .mk .refl .refl
    · refine cs_seq ?_
      refine cs_seq_region [0, 1] rfl ?_
      refine l_eqlI (p := p0_0) (q := (2 : Int)) rfl rfl rfl rfl rfl rfl ?_
      refine c_assign rfl rfl rfl rfl (v := (.bool (decide (p0_0 = (2 : Int))))) rfl ?_
      refine can_nil ?_
      refine ps_then ?_
      refine cs_condL (b := (decide (p0_0 = (2 : Int)))) rfl h (fun hc2 h => ?_) (fun hc2 h => ?_)
      · refine cs_seq ?_
        refine cs_seq_region [0, 1, 2, 3, 4, 5, 6, 7] rfl ?_
        refine c_move rfl rfl rfl rfl (v := (.slice (some ⟨g2, 0, none⟩) 1 1)) rfl ?_
        refine c_fieldAddr rfl rfl rfl rfl Tryz.underlying99 rfl Tryz.sizeOf22 rfl rfl ?_
        refine c_load1 (v := (.slice Ap0_2 p0_2.length cp0_2)) rfl rfl rfl Tryz.isAgg22 rfl (ldS rfl rfl (.tail _ (.head _)) (sub1 rfl)) ?_
        refine l_len (m := p0_2.length) rfl rfl rfl rfl Tryz.underlying22 rfl ?_
        refine l_convU (p := ((p0_2.length : Nat) : Int)) rfl rfl rfl rfl Tryz.underlying3 Tryz.underlying97 rfl rfl ?_
        obtain ⟨y3, hy3, h⟩ := bnd h
        refine c_call rfl rfl rfl rfl Tryz.call227 (lf_ref03_Count_ok K (toU .u64 ((p0_2.length : Nat) : Int))  w0 _ _  hy3) rfl (fun _ _ _ _ => Or.inl rfl) ?_
        rintro _ _ _ ⟨v3, rfl, rfl, rfl⟩
        refine can_en (en_rowShape (xs := y3) (.head _)) ?_
        rintro _ _ ⟨rfl, rfl, A3, c3, rfl, -, -, -⟩
        refine can_en (en_give Rem.here) ?_
        rintro _ _ ⟨rfl, rfl⟩
        obtain ⟨y4, hy4, h⟩ := bnd h
        refine l_append (dr := (un .u8)) (xs := ([(toU .u8 p0_0)] : List Nat)) (ys := y3) rfl rfl rfl rfl sty_22 rfl rfl rfl Foc.here (.head _) hy4 (fun _ => Or.inl rfl) (fun v4 => ?_)
        refine can_en (en_rowShape (xs := y4) (.head _)) ?_
        rintro _ _ ⟨rfl, rfl, A4, c4, rfl, -, -, -⟩
        refine c_assign rfl rfl rfl rfl (v := (.slice A4 y4.length c4)) rfl ?_
        refine can_nil ?_
        refine ps_then ?_
        refine cs_seq ?_
        refine cs_seq_region [0, 1, 2, 3, 4] rfl ?_
        refine c_move rfl rfl rfl rfl (v := (.slice A4 y4.length c4)) rfl ?_
        refine c_fieldAddr rfl rfl rfl rfl Tryz.underlying99 rfl Tryz.sizeOf22 rfl rfl ?_
        refine c_load1 (v := (.slice Ap0_2 p0_2.length cp0_2)) rfl rfl rfl Tryz.isAgg22 rfl (ldS rfl rfl (.tail _ (.head _)) (sub1 rfl)) ?_
        obtain ⟨y5, hy5, h⟩ := bnd h
        refine l_append (dr := (un .u8)) (xs := y4) (ys := p0_2) rfl rfl rfl rfl sty_22 rfl rfl rfl Foc.here (.tail _ hv_p0_2) hy5 (fun _ => Or.inl rfl) (fun v5 => ?_)
        refine can_en (en_rowShape (xs := y5) (.head _)) ?_
        rintro _ _ ⟨rfl, rfl, A5, c5, rfl, -, -, -⟩
        refine c_assign rfl rfl rfl rfl (v := (.slice A5 y5.length c5)) rfl ?_
        refine can_nil ?_
        refine ps_then ?_
        refine cs_ret ?_
        refine ps_block_ret ?_
        refine ps_then_ret ?_
        obtain rfl := Option.some.inj h
        refine ps_en (en_arr (sps' := Row (un .u8) 5 (.slice A5 y5.length c5) y5 :: sps) (Arr.cons Rem.here (Arr.sub (List.Sublist.cons _ (List.Sublist.refl _))))) ?_
        rintro _ _ ⟨rfl, rfl⟩
        refine ps_en (en_keep (rs) (fun r hr => (.tail _ hr))) ?_
        rintro _ _ ⟨rfl, rfl⟩
        apply ps_end1 rfl Tryz.results168 rfl
        · exact ⟨_, rfl, rfl, rfl⟩
        · exact .mk .refl .refl
      · refine cs_skip ?_
        refine ps_block_normal ?_
        refine ps_then ?_
        refine cs_seq ?_
        refine cs_seq_region [0, 1, 2, 3, 4, 5, 6, 7] rfl ?_
        refine c_move rfl rfl rfl rfl (v := (.slice (some ⟨g2, 0, none⟩) 1 1)) rfl ?_
        refine c_fieldAddr rfl rfl rfl rfl Tryz.underlying99 rfl Tryz.sizeOf96 rfl rfl ?_
        refine c_load1 (v := (.slice Ap0_3 p0_3.length cp0_3)) rfl rfl rfl Tryz.isAgg96 rfl (ldS rfl rfl (.tail _ (.head _)) (sub1 rfl)) ?_
        refine l_len (m := p0_3.length) rfl rfl rfl rfl Tryz.underlying96 rfl ?_
        refine l_convU (p := ((p0_3.length : Nat) : Int)) rfl rfl rfl rfl Tryz.underlying3 Tryz.underlying97 rfl rfl ?_
        obtain ⟨y6, hy6, h⟩ := bnd h
        refine c_call rfl rfl rfl rfl Tryz.call227 (lf_ref03_Count_ok K (toU .u64 ((p0_3.length : Nat) : Int))  w0 _ _  hy6) rfl (fun _ _ _ _ => Or.inl rfl) ?_
        rintro _ _ _ ⟨v6, rfl, rfl, rfl⟩
        refine can_en (en_rowShape (xs := y6) (.head _)) ?_
        rintro _ _ ⟨rfl, rfl, A6, c6, rfl, -, -, -⟩
        refine can_en (en_give Rem.here) ?_
        rintro _ _ ⟨rfl, rfl⟩
        obtain ⟨y7, hy7, h⟩ := bnd h
        refine l_append (dr := (un .u8)) (xs := ([(toU .u8 p0_0)] : List Nat)) (ys := y6) rfl rfl rfl rfl sty_22 rfl rfl rfl Foc.here (.head _) hy7 (fun _ => Or.inl rfl) (fun v7 => ?_)
        refine can_en (en_rowShape (xs := y7) (.head _)) ?_
        rintro _ _ ⟨rfl, rfl, A7, c7, rfl, -, -, -⟩
        refine c_assign rfl rfl rfl rfl (v := (.slice A7 y7.length c7)) rfl ?_
        refine can_nil ?_
        refine ps_then ?_
        refine cs_seq ?_
        refine cs_seq ?_
        refine cs_seq_region [0] rfl ?_
        refine c_assign rfl rfl rfl rfl (v := (.int .i64 (0 : Int))) rfl ?_
        refine can_nil ?_
        refine ps_then ?_
        refine cs_block ?_
        obtain ⟨o1, hl1, h⟩ := bnd h
        refine cs_loopS [3, 4, 38, 39, 40, 41, 42, 43, 44, 45, 46, 47, 48, 49, 50, 51, 52] (fun m L s r => ∃ (x1 : (List Nat)) (x2 : Int) (A8 : Option Addr) (m1 : Nat) (c8 : Nat), lf_ref03_bytes_l0 K (lf_ref03_bytes K k) p0_3 m x1 x2 = some o1 ∧ [(3, (.slice A8 m1 c8)), (4, (.int .i64 x2))] = L ∧ Row (un .u8) 5 (.slice A8 m1 c8) x1 :: Bk g1 [(.int .i64 p0_0), (.int .u64 ((p0_1 : Nat) : Int)), (.slice Ap0_2 p0_2.length cp0_2), (.slice Ap0_3 p0_3.length cp0_3)] 99 :: sps = s ∧ Rd (un .u8) (.slice A6 y6.length c6) y6 :: rs = r) [(3, (.slice A7 y7.length c7)), (4, (.int .i64 (0 : Int)))] (⟨rfl, rfl, trivial⟩) (⟨y7, (0 : Int), _, _, _, hl1, rfl, rfl, rfl⟩) ?_
        rintro k1 f1 _ _ _ ⟨x1, x2, A8, m1, c8, hl1, rfl, rfl, rfl⟩
        rcases k1 with _ | k1
        · exact absurd hl1 (by rw [lf_ref03_bytes_l0.eq_1]; exact nofun)
        rw [lf_ref03_bytes_l0.eq_2] at hl1
        refine cs_en (en_rowLen (.head _)) ?_
        rintro _ _ ⟨rfl, rfl, rfl⟩
        refine cs_seq ?_
        refine cs_seq ?_
        refine cs_seq_region [0, 1, 2, 3, 4] rfl ?_
        refine c_move rfl rfl rfl rfl (v := (.int .i64 x2)) rfl ?_
        refine c_fieldAddr rfl rfl rfl rfl Tryz.underlying99 rfl Tryz.sizeOf96 rfl rfl ?_
        refine c_load1 (v := (.slice Ap0_3 p0_3.length cp0_3)) rfl rfl rfl Tryz.isAgg96 rfl (ldS rfl rfl (.tail _ (.head _)) (sub1 rfl)) ?_
        refine l_len (m := p0_3.length) rfl rfl rfl rfl Tryz.underlying96 rfl ?_
        refine c_lss (p := x2) (q := ((p0_3.length : Nat) : Int)) rfl rfl rfl rfl rfl rfl ?_
        refine can_nil ?_
        refine ps_then ?_
        refine cs_condL (b := (decide (x2 < ((p0_3.length : Nat) : Int)))) rfl hl1 (fun hc3 hl1 => ?_) (fun hc3 hl1 => ?_)
        · refine cs_skip ?_
          refine ps_then ?_
          refine cs_seq ?_
          refine cs_block ?_
          refine cs_seq_region [0, 1, 2, 3, 4, 5, 6, 7, 8] rfl ?_
          refine c_move rfl rfl rfl rfl (v := (.slice A8 x1.length c8)) rfl ?_
          refine c_fieldAddr rfl rfl rfl rfl Tryz.underlying99 rfl Tryz.sizeOf96 rfl rfl ?_
          refine c_load1 (v := (.slice Ap0_3 p0_3.length cp0_3)) rfl rfl rfl Tryz.isAgg96 rfl (ldS rfl rfl (.tail _ (.head _)) (sub1 rfl)) ?_
          refine c_move rfl rfl rfl rfl (v := (.int .i64 x2)) rfl ?_
          obtain ⟨y8, hy8, hl1⟩ := bnd hl1
          refine can_en (en_ptr (.tail _ hv_p0_3) (by have := getO_lt hy8; omega)) ?_
          rintro _ _ ⟨rfl, rfl, g3, o2, rfl⟩
          refine can_en (open_gN (.tail _ hv_p0_3) hy8) ?_
          rintro _ _ ⟨A9, c9, A10, c10, rfl, rfl⟩
          refine c_indexAddrS (p := x2) rfl rfl rfl rfl Tryz.underlying96 Tryz.sizeOf99 rfl rfl (by have := getO_lt hy8; omega) ?_
          refine c_loadN (cs := [(.int .i64 y8.kind), (.int .u64 ((y8.num : Nat) : Int)), (.slice A9 y8.bytes.length c9), (.slice A10 y8.list.length c10)]) rfl rfl rfl Tryz.isAgg99 Tryz.sizeOf99 rfl (ldSC (off := o2 + (x2 : Int).toNat * 4) (k := 0) rfl rfl (.head _) (subN (m := 4) rfl)) rfl ?_
          obtain ⟨y9, hy9, hl1⟩ := bnd hl1
          refine c_call rfl rfl rfl rfl Tryz.call168 (ih y8.kind y8.num y8.bytes y8.list (.slice A9 y8.bytes.length c9) (.slice A10 y8.list.length c10) w0 _ _ (.tail _ (.head _)) (.tail _ (.tail _ (.head _))) hy9) rfl (fun _ _ _ _ => Or.inl rfl) ?_
          rintro _ _ _ ⟨v8, rfl, rfl, rfl⟩
          refine can_en (en_rowShape (xs := y9) (.head _)) ?_
          rintro _ _ ⟨rfl, rfl, A11, c11, rfl, -, -, -⟩
          refine can_en (en_give Rem.here) ?_
          rintro _ _ ⟨rfl, rfl⟩
          obtain ⟨y10, hy10, hl1⟩ := bnd hl1
          refine l_append (dr := (un .u8)) (xs := x1) (ys := y9) rfl rfl rfl rfl sty_22 rfl rfl rfl Foc.here (.head _) hy10 (fun _ => Or.inl rfl) (fun v9 => ?_)
          refine can_en (en_rowShape (xs := y10) (.head _)) ?_
          rintro _ _ ⟨rfl, rfl, A12, c12, rfl, -, -, -⟩
          refine c_assign rfl rfl rfl rfl (v := (.slice A12 y10.length c12)) rfl ?_
          refine can_nil ?_
          refine ps_block_normal ?_
          refine ps_then ?_
          refine cs_seq_region [0, 1, 2] rfl ?_
          refine c_move rfl rfl rfl rfl (v := (.int .i64 x2)) rfl ?_
          refine c_add (p := x2) (q := (1 : Int)) rfl rfl rfl rfl rfl rfl ?_
          refine c_assign rfl rfl rfl rfl (v := (.int .i64 (IntKind.wrap .i64 (x2 + (1 : Int))))) rfl ?_
          refine can_nil ?_
          refine ps_en (en_keep (Rd (un .u8) (.slice A6 y6.length c6) y6 :: rs) (List.forall_mem_cons.2 ⟨(.tail _ (.tail _ (.tail _ (.tail _ (.head _))))), fun r hr => (.tail _ (.tail _ (.tail _ (.tail _ (.tail _ hr)))))⟩)) ?_
          rintro _ _ ⟨rfl, rfl⟩
          refine ps_roundS [(3, (.slice A12 y10.length c12)), (4, (.int .i64 (IntKind.wrap .i64 (x2 + (1 : Int)))))] ⟨rfl, rfl, trivial⟩ xA k1 (Nat.lt_succ_self _) (⟨y10, (IntKind.wrap .i64 (x2 + (1 : Int))), _, _, _, hl1, rfl, rfl, rfl⟩) (.mk .refl .refl)
        · refine cs_exit ?_
          refine ps_then_exit ?_
          refine ps_then_exit ?_
          obtain rfl := Option.some.inj hl1
          replace h := un2_ h
          obtain ⟨z1, rfl⟩ : ∃ z, z = x1 := ⟨_, rfl⟩
          obtain ⟨z2, rfl⟩ : ∃ z, z = x2 := ⟨_, rfl⟩
          refine ps_block_here ?_
          refine ps_then ?_
          refine cs_seq ?_
          refine cs_seq_region [0, 1] rfl ?_
          refine c_move rfl rfl rfl rfl (v := (.slice A8 z1.length c8)) rfl ?_
          refine c_assign rfl rfl rfl rfl (v := (.slice A8 z1.length c8)) rfl ?_
          refine can_nil ?_
          refine ps_then ?_
          refine cs_ret ?_
          obtain rfl := Option.some.inj h
          refine ps_en (en_arr (sps' := Row (un .u8) 5 (.slice A8 z1.length c8) z1 :: sps) (Arr.cons Rem.here (Arr.sub (List.Sublist.cons _ (List.Sublist.refl _))))) ?_
          rintro _ _ ⟨rfl, rfl⟩
          refine ps_en (en_keep (rs) (fun r hr => (.tail _ hr))) ?_
          rintro _ _ ⟨rfl, rfl⟩
          apply ps_end1 rfl Tryz.results168 rfl
          · exact ⟨_, rfl, rfl, rfl⟩
          · exact .mk .refl .refl
def lf_ref03_zero (K : Nat) (p0 : Int) : Option Int := (bif (decide (p0 < (0 : Int))) then (some (0 : Int)) else (some p0))
theorem lf_ref03_zero_ok (K : Nat) (p0 : Int)  (w0 : World) (sps : List Sp) (rs : List Fa)  {r0 : Int} (h : lf_ref03_zero K p0 = some r0) : FnOk Tryz.prog 167 #[.int .i64 p0] w0 sps rs (fun v s q => v = .int .i64 r0 ∧ sps = s ∧ rs = q) := by
  unfold lf_ref03_zero at h
  refine fn_enter Tryz.func167 rfl Tryz.ntmps167 rfl ?_
  refine cs_seq ?_
  refine cs_seq_region [0] rfl ?_
  refine c_assign rfl rfl rfl rfl (v := (.int .i64 (0 : Int))) rfl ?_
  refine can_nil ?_
  refine ps_then ?_
  refine cs_seq ?_
  refine cs_seq ?_
  refine cs_seq_region [0, 1] rfl ?_
  refine c_move rfl rfl rfl rfl (v := (.int .i64 p0)) rfl ?_
  refine c_lss (p := p0) (q := (0 : Int)) rfl rfl rfl rfl rfl rfl ?_
  refine can_nil ?_
  refine ps_then ?_
  refine cs_condL (b := (decide (p0 < (0 : Int)))) rfl h (fun hc1 h => ?_) (fun hc1 h => ?_)
  · refine cs_seq ?_
    refine cs_seq_region [0] rfl ?_
    refine c_assign rfl rfl rfl rfl (v := (.int .i64 (0 : Int))) rfl ?_
    refine can_nil ?_
    refine ps_then ?_
    refine cs_ret ?_
    refine ps_then_ret ?_
    obtain rfl := Option.some.inj h
    refine ps_en (en_keep (rs) (fun r hr => hr)) ?_
    rintro _ _ ⟨rfl, rfl⟩
    apply ps_end1 rfl Tryz.results167 rfl
    · exact ⟨rfl, rfl, rfl⟩
    · exact .mk .refl .refl
  · refine cs_skip ?_
    refine ps_then ?_
    refine cs_seq ?_
    refine cs_seq_region [0, 1] rfl ?_
    refine c_move rfl rfl rfl rfl (v := (.int .i64 p0)) rfl ?_
    refine c_assign rfl rfl rfl rfl (v := (.int .i64 p0)) rfl ?_
    refine can_nil ?_
    refine ps_then ?_
    refine cs_ret ?_
    obtain rfl := Option.some.inj h
    refine ps_en (en_keep (rs) (fun r hr => hr)) ?_
    rintro _ _ ⟨rfl, rfl⟩
    apply ps_end1 rfl Tryz.results167 rfl
    · exact ⟨rfl, rfl, rfl⟩
    · exact .mk .refl .refl
def lf_ref03_Write_l0 (K : Nat) (p1_1 : Int) (p1_2 : Int) (p1_3 : Int) (y2 : (List GNode)) (y3 : (List Int)) : Nat → (List Nat) → Int → Int → Option (((List Nat) × Int) ⊕ ((List Nat) × Int × Int))
  | 0, _, _, _ => none
  | k + 1, x1, x2, x3 => (bif (decide (x3 < ((y2.length : Nat) : Int))) then ((getO y3 x3).bind fun y4 => ((lf_ref03_zero K p1_1).bind (fun y5 => (bif (decide (y4 > y5)) then (some (Sum.inl (([] : List Nat), (23 : Int)))) else ((lf_ref03_zero K p1_2).bind (fun y6 => (bif (decide (x3 ≥ y6)) then (some (Sum.inl (([] : List Nat), (24 : Int)))) else ((getO y2 x3).bind fun y7 => ((lf_ref03_zero K p1_3).bind (fun y8 => (bif (decide (((y7.bytes.length : Nat) : Int) > y8)) then (some (Sum.inl (([] : List Nat), (2 : Int)))) else (lf_ref03_Write_l0 K p1_1 p1_2 p1_3 y2 y3 k x1 x2 (IntKind.wrap .i64 (x3 + (1 : Int))))))))))))))) else (some (Sum.inr (x1, x2, x3))))
def lf_ref03_Write (K : Nat) (p0_0 : Int) (p0_1 : Nat) (p0_2 : (List Nat)) (p0_3 : (List GNode)) (p1_0 : Int) (p1_1 : Int) (p1_2 : Int) (p1_3 : Int) : Option ((List Nat) × Int) := ((lf_ref03_Right K K p0_0 p0_1 p0_2 p0_3).bind (fun y1 => (bif (!y1) then (some (([] : List Nat), (21 : Int))) else ((lf_ref03_all K K p0_0 p0_1 p0_2 p0_3 (1 : Int)).bind (fun qy2 => un2 qy2 (fun y2 => fun y3 => (bindR (lf_ref03_Write_l0 K p1_1 p1_2 p1_3 y2 y3 K ([] : List Nat) (0 : Int) (0 : Int)) id (fun qz1 => un2 qz1 (fun z1 => fun qz2 => un2 qz2 (fun z2 => fun z3 => ((lf_ref03_bytes K K p0_0 p0_1 p0_2 p0_3).bind (fun y9 => ((lf_ref03_zero K p1_0).bind (fun y10 => (bif (decide (((y9.length : Nat) : Int) > y10)) then (some (([] : List Nat), (2 : Int))) else (some (y9, (0 : Int))))))))))))))))))
theorem lf_ref03_Write_ok (K : Nat) (p0_0 : Int) (p0_1 : Nat) (p0_2 : (List Nat)) (p0_3 : (List GNode)) (p1_0 : Int) (p1_1 : Int) (p1_2 : Int) (p1_3 : Int) (vp0_2 : Value) (vp0_3 : Value) (w0 : World) (sps : List Sp) (rs : List Fa) (hv_p0_2 : Rd (un .u8) vp0_2 p0_2 ∈ rs) (hv_p0_3 : Rd gN vp0_3 p0_3 ∈ rs) {r0 : (List Nat)} {r1 : Int} (h : lf_ref03_Write K p0_0 p0_1 p0_2 p0_3 p1_0 p1_1 p1_2 p1_3 = some (r0, r1)) : FnOk Tryz.prog 98 #[.agg #[.int .i64 p0_0, .int .u64 ((p0_1 : Nat) : Int), vp0_2, vp0_3], .agg #[.int .i64 p1_0, .int .i64 p1_1, .int .i64 p1_2, .int .i64 p1_3]] w0 sps rs (fun v s q => ∃ (qr0 : Value), v = .tuple #[qr0, .int .i64 r1] ∧ Row (un .u8) 5 qr0 r0 :: sps = s ∧ rs = q) := by
  unfold lf_ref03_Write at h
  refine fn_en (en_shape hv_p0_2) ?_
  rintro _ _ ⟨rfl, rfl, Ap0_2, cp0_2, rfl, -, -, -⟩
  refine fn_en (en_shape hv_p0_3) ?_
  rintro _ _ ⟨rfl, rfl, Ap0_3, cp0_3, rfl, -, -, -⟩
  refine fn_enter Tryz.func98 rfl Tryz.ntmps98 rfl ?_
  refine cs_seq ?_
  refine cs_seq_region [0, 1, 2, 3] rfl ?_
  refine c_box (cs := [(.int .i64 p0_0), (.int .u64 ((p0_1 : Nat) : Int)), (.slice Ap0_2 p0_2.length cp0_2), (.slice Ap0_3 p0_3.length cp0_3)]) rfl rfl rfl rfl rfl (fun _ => Or.inl rfl) (fun g1 => ?_)
  refine c_box (cs := [(.int .i64 p1_0), (.int .i64 p1_1), (.int .i64 p1_2), (.int .i64 p1_3)]) rfl rfl rfl rfl rfl (fun _ => Or.inl rfl) (fun g2 => ?_)
  refine c_assign rfl rfl rfl rfl (v := (.slice none 0 0)) rfl ?_
  refine c_assign rfl rfl rfl rfl (v := (.int .i64 (0 : Int))) rfl ?_
  refine can_nil ?_
  refine ps_then ?_
  refine cs_seq ?_
  refine cs_seq ?_
  refine cs_seq_region [0, 1, 2] rfl ?_
  refine c_loadN (cs := [(.int .i64 p0_0), (.int .u64 ((p0_1 : Nat) : Int)), (.slice Ap0_2 p0_2.length cp0_2), (.slice Ap0_3 p0_3.length cp0_3)]) rfl rfl rfl Tryz.isAgg99 Tryz.sizeOf99 rfl (ldS rfl rfl (.tail _ (.head _)) (subN (m := 4) rfl)) rfl ?_
  obtain ⟨y1, hy1, h⟩ := bnd h
  refine c_call rfl rfl rfl rfl Tryz.call165 (lf_ref03_Right_ok K K p0_0 p0_1 p0_2 p0_3 (.slice Ap0_2 p0_2.length cp0_2) (.slice Ap0_3 p0_3.length cp0_3) w0 _ _ hv_p0_2 hv_p0_3 hy1) rfl (fun _ _ _ _ => Or.inl rfl) ?_
  rintro _ _ _ ⟨rfl, rfl, rfl⟩
  refine c_not rfl rfl rfl rfl rfl ?_
  refine can_nil ?_
  refine ps_then ?_
  refine cs_condL (b := (!y1)) rfl h (fun hc1 h => ?_) (fun hc1 h => ?_)
  · refine cs_seq ?_
    refine cs_seq_region [0, 1] rfl ?_
    refine c_assign rfl rfl rfl rfl (v := (.slice none 0 0)) rfl ?_
    refine c_assign rfl rfl rfl rfl (v := (.int .i64 (21 : Int))) rfl ?_
    refine can_nil ?_
    refine ps_then ?_
    refine cs_ret ?_
    refine ps_then_ret ?_
    refine ps_en (en_nilRow (un .u8) 5) ?_
    rintro _ _ ⟨rfl, rfl⟩
    have hz0 := Option.some.inj h
    obtain ⟨rfl, hz1⟩ := prod2 hz0
    obtain rfl := hz1
    refine ps_en (en_arr (sps' := Row (un .u8) 5 (.slice none 0 0) ([] : List Nat) :: sps) (Arr.cons Rem.here (Arr.sub (List.Sublist.cons _ (List.Sublist.cons _ (List.Sublist.refl _)))))) ?_
    rintro _ _ ⟨rfl, rfl⟩
    refine ps_en (en_keep (rs) (fun r hr => hr)) ?_
    rintro _ _ ⟨rfl, rfl⟩
    apply ps_end2 rfl Tryz.results98 rfl rfl
    · exact ⟨_, rfl, rfl, rfl⟩
    · exact .mk .refl .refl
  · refine cs_skip ?_
    refine ps_then ?_
    refine cs_seq ?_
    refine cs_seq_region [0, 1, 2, 3, 4, 5, 6] rfl ?_
    refine c_loadN (cs := [(.int .i64 p0_0), (.int .u64 ((p0_1 : Nat) : Int)), (.slice Ap0_2 p0_2.length cp0_2), (.slice Ap0_3 p0_3.length cp0_3)]) rfl rfl rfl Tryz.isAgg99 Tryz.sizeOf99 rfl (ldS rfl rfl (.tail _ (.head _)) (subN (m := 4) rfl)) rfl ?_
    obtain ⟨⟨y2, y3⟩, hy2, h⟩ := bnd h
    replace h := un2_ h
    refine c_call rfl rfl rfl rfl Tryz.call166 (lf_ref03_all_ok K K p0_0 p0_1 p0_2 p0_3 (1 : Int) (.slice Ap0_2 p0_2.length cp0_2) (.slice Ap0_3 p0_3.length cp0_3) w0 _ _ hv_p0_2 hv_p0_3 hy2) rfl (fun _ _ _ _ => Or.inl rfl) ?_
    rintro _ _ _ ⟨v1, v2, rfl, rfl, rfl⟩
    refine can_en (en_rowShape (xs := y2) (.head _)) ?_
    rintro _ _ ⟨rfl, rfl, A1, c1, rfl, -, -, -⟩
    refine can_en (en_rowShape (xs := y3) (.tail _ (.head _))) ?_
    rintro _ _ ⟨rfl, rfl, A2, c2, rfl, -, -, -⟩
    refine c_move rfl rfl rfl rfl (v := (.tuple #[(.slice A1 y2.length c1), (.slice A2 y3.length c2)])) rfl ?_
    refine c_extract rfl rfl rfl rfl rfl rfl ?_
    refine c_extract rfl rfl rfl rfl rfl rfl ?_
    refine c_assign rfl rfl rfl rfl (v := (.slice A1 y2.length c1)) rfl ?_
    refine c_assign rfl rfl rfl rfl (v := (.slice A2 y3.length c2)) rfl ?_
    refine can_nil ?_
    refine ps_then ?_
    refine cs_seq ?_
    refine cs_seq ?_
    refine cs_seq_region [0] rfl ?_
    refine c_assign rfl rfl rfl rfl (v := (.int .i64 (0 : Int))) rfl ?_
    refine can_nil ?_
    refine ps_then ?_
    refine cs_block ?_
    refine cs_en (en_give Rem.here) ?_
    rintro _ _ ⟨rfl, rfl⟩
    refine cs_en (en_nilRow (un .u8) 5) ?_
    rintro _ _ ⟨rfl, rfl⟩
    obtain ⟨o1, hl1, h⟩ := bndR h
    refine cs_loopS [4, 5, 8, 18, 19, 20, 21, 22, 23, 24, 25, 26, 27, 28, 29, 30, 31, 32, 33, 34, 35, 36, 37, 38, 39, 40, 41, 42, 43, 44, 45, 46] (fun m L s r => ∃ (x1 : (List Nat)) (x2 : Int) (x3 : Int) (A3 : Option Addr) (m1 : Nat) (c3 : Nat), lf_ref03_Write_l0 K p1_1 p1_2 p1_3 y2 y3 m x1 x2 x3 = some o1 ∧ [(4, (.slice A3 m1 c3)), (5, (.int .i64 x2)), (8, (.int .i64 x3))] = L ∧ Row (un .u8) 5 (.slice A3 m1 c3) x1 :: Row (sn .i64) 3 (.slice A2 y3.length c2) y3 :: Bk g2 [(.int .i64 p1_0), (.int .i64 p1_1), (.int .i64 p1_2), (.int .i64 p1_3)] 168 :: Bk g1 [(.int .i64 p0_0), (.int .u64 ((p0_1 : Nat) : Int)), (.slice Ap0_2 p0_2.length cp0_2), (.slice Ap0_3 p0_3.length cp0_3)] 99 :: sps = s ∧ Rd gN (.slice A1 y2.length c1) y2 :: rs = r) [(4, (.slice none 0 0)), (5, (.int .i64 (0 : Int))), (8, (.int .i64 (0 : Int)))] (⟨rfl, rfl, rfl, trivial⟩) (⟨([] : List Nat), (0 : Int), (0 : Int), _, _, _, hl1, rfl, rfl, rfl⟩) ?_
    rintro k1 f1 _ _ _ ⟨x1, x2, x3, A3, m1, c3, hl1, rfl, rfl, rfl⟩
    rcases k1 with _ | k1
    · exact absurd hl1 (by rw [lf_ref03_Write_l0.eq_1]; exact nofun)
    rw [lf_ref03_Write_l0.eq_2] at hl1
    refine cs_en (en_rowLen (.head _)) ?_
    rintro _ _ ⟨rfl, rfl, rfl⟩
    refine cs_seq ?_
    refine cs_seq ?_
    refine cs_seq_region [0, 1, 2, 3] rfl ?_
    refine c_move rfl rfl rfl rfl (v := (.int .i64 x3)) rfl ?_
    refine c_move rfl rfl rfl rfl (v := (.slice A1 y2.length c1)) rfl ?_
    refine l_len (m := y2.length) rfl rfl rfl rfl Tryz.underlying96 rfl ?_
    refine c_lss (p := x3) (q := ((y2.length : Nat) : Int)) rfl rfl rfl rfl rfl rfl ?_
    refine can_nil ?_
    refine ps_then ?_
    refine cs_condL (b := (decide (x3 < ((y2.length : Nat) : Int)))) rfl hl1 (fun hc2 hl1 => ?_) (fun hc2 hl1 => ?_)
    · refine cs_skip ?_
      refine ps_then ?_
      refine cs_seq ?_
      refine cs_block ?_
      refine cs_seq ?_
      refine cs_seq ?_
      refine cs_draw_region_at ([Row (sn .i64) 3 (.slice A2 y3.length c2) y3, Bk g2 [(.int .i64 p1_0), (.int .i64 p1_1), (.int .i64 p1_2), (.int .i64 p1_3)] 168, Bk g1 [(.int .i64 p0_0), (.int .u64 ((p0_1 : Nat) : Int)), (.slice Ap0_2 p0_2.length cp0_2), (.slice Ap0_3 p0_3.length cp0_3)] 99]) [0, 0, 0, 1, 0, 1, 2, 0] [false, false, false, false, false, false, true, false] [0, 1, 2, 3, 4, 5, 6, 7] (by kernel_rfl) (by kernel_rfl) (by kernel_rfl) (by kernel_rfl) (by repeat (first | with_reducible refine qok_then ?_ | with_reducible refine qok_block ?_ | exact qok_body | exact qok_bodyN)) ?_
      refine c_move rfl rfl rfl rfl (v := (.slice A2 y3.length c2)) rfl ?_
      refine c_move rfl rfl rfl rfl (v := (.int .i64 x3)) rfl ?_
      obtain ⟨y4, hy3, hl1⟩ := bnd hl1
      refine can_en (en_rowPtr (v := .bool true) (.tail _ (.head _)) (by have := getO_lt hy3; omega)) ?_
      rintro _ _ ⟨rfl, rfl, g3, rfl⟩
      refine c_indexAddrS (p := x3) rfl rfl rfl rfl Tryz.underlying240 Tryz.sizeOf3 rfl rfl (by have := getO_lt hy3; omega) ?_
      refine c_load1 rfl rfl rfl Tryz.isAgg3 rfl (ldWD rfl rfl xE (plain_sn _) xM hy3) ?_
      refine c_fieldAddr rfl rfl rfl rfl Tryz.underlying168 rfl Tryz.sizeOf3 rfl rfl ?_
      refine c_load1 (v := (.int .i64 p1_1)) rfl rfl rfl Tryz.isAgg3 rfl (ldD rfl rfl xE xM (sub1 rfl)) ?_
      obtain ⟨y5, hy4, hl1⟩ := bnd hl1
      refine c_call rfl rfl rfl rfl Tryz.call167 (lf_ref03_zero_ok K p1_1  w0 _ _  hy4) rfl (by rintro v s r ⟨rfl, rfl, rfl⟩; exact Or.inr xE) ?_
      rintro _ _ _ ⟨rfl, rfl, rfl⟩
      refine can_forget rfl ?_
      refine c_gtr (p := y4) (q := y5) rfl rfl rfl rfl rfl rfl ?_
      refine can_nil ?_
      refine ps_then ?_
      refine cs_condL (b := (decide (y4 > y5))) rfl hl1 (fun hc3 hl1 => ?_) (fun hc3 hl1 => ?_)
      · refine cs_seq ?_
        refine cs_seq_region [0, 1] rfl ?_
        refine c_assign rfl rfl rfl rfl (v := (.slice none 0 0)) rfl ?_
        refine c_assign rfl rfl rfl rfl (v := (.int .i64 (23 : Int))) rfl ?_
        refine can_nil ?_
        refine ps_then ?_
        refine cs_ret ?_
        refine ps_then_ret ?_
        refine ps_block_ret ?_
        refine ps_then_ret ?_
        refine ps_then_ret ?_
        refine ps_block_ret ?_
        refine ps_then_ret ?_
        refine ps_en (en_nilRow (un .u8) 5) ?_
        rintro _ _ ⟨rfl, rfl⟩
        obtain rfl := Option.some.inj hl1
        replace h := kR_i h
        have hz0 := Option.some.inj h
        obtain ⟨rfl, hz1⟩ := prod2 hz0
        obtain rfl := hz1
        refine ps_en (en_arr (sps' := Row (un .u8) 5 (.slice none 0 0) ([] : List Nat) :: sps) (Arr.cons Rem.here (Arr.sub (List.Sublist.cons _ (List.Sublist.cons _ (List.Sublist.cons _ (List.Sublist.cons _ (List.Sublist.refl _)))))))) ?_
        rintro _ _ ⟨rfl, rfl⟩
        refine ps_en (en_keep (rs) (fun r hr => (.tail _ hr))) ?_
        rintro _ _ ⟨rfl, rfl⟩
        apply ps_end2 rfl Tryz.results98 rfl rfl
        · exact ⟨_, rfl, rfl, rfl⟩
        · exact .mk .refl .refl
      · refine cs_skip ?_
        refine ps_then ?_
        refine cs_seq ?_
        refine cs_seq ?_
        refine cs_seq_region [0, 1, 2, 3, 4] rfl ?_
        refine c_move rfl rfl rfl rfl (v := (.int .i64 x3)) rfl ?_
        refine c_fieldAddr rfl rfl rfl rfl Tryz.underlying168 rfl Tryz.sizeOf3 rfl rfl ?_
        refine c_load1 (v := (.int .i64 p1_2)) rfl rfl rfl Tryz.isAgg3 rfl (ldS rfl rfl (.tail _ (.tail _ (.head _))) (sub1 rfl)) ?_
        obtain ⟨y6, hy5, hl1⟩ := bnd hl1
        refine c_call rfl rfl rfl rfl Tryz.call167 (lf_ref03_zero_ok K p1_2  w0 _ _  hy5) rfl (fun _ _ _ _ => Or.inl rfl) ?_
        rintro _ _ _ ⟨rfl, rfl, rfl⟩
        refine c_geq (p := x3) (q := y6) rfl rfl rfl rfl rfl rfl ?_
        refine can_nil ?_
        refine ps_then ?_
        refine cs_condL (b := (decide (x3 ≥ y6))) rfl hl1 (fun hc4 hl1 => ?_) (fun hc4 hl1 => ?_)
        · refine cs_seq ?_
          refine cs_seq_region [0, 1] rfl ?_
          refine c_assign rfl rfl rfl rfl (v := (.slice none 0 0)) rfl ?_
          refine c_assign rfl rfl rfl rfl (v := (.int .i64 (24 : Int))) rfl ?_
          refine can_nil ?_
          refine ps_then ?_
          refine cs_ret ?_
          refine ps_then_ret ?_
          refine ps_block_ret ?_
          refine ps_then_ret ?_
          refine ps_then_ret ?_
          refine ps_block_ret ?_
          refine ps_then_ret ?_
          refine ps_en (en_nilRow (un .u8) 5) ?_
          rintro _ _ ⟨rfl, rfl⟩
          obtain rfl := Option.some.inj hl1
          replace h := kR_i h
          have hz0 := Option.some.inj h
          obtain ⟨rfl, hz1⟩ := prod2 hz0
          obtain rfl := hz1
          refine ps_en (en_arr (sps' := Row (un .u8) 5 (.slice none 0 0) ([] : List Nat) :: sps) (Arr.cons Rem.here (Arr.sub (List.Sublist.cons _ (List.Sublist.cons _ (List.Sublist.cons _ (List.Sublist.cons _ (List.Sublist.refl _)))))))) ?_
          rintro _ _ ⟨rfl, rfl⟩
          refine ps_en (en_keep (rs) (fun r hr => (.tail _ hr))) ?_
          rintro _ _ ⟨rfl, rfl⟩
          apply ps_end2 rfl Tryz.results98 rfl rfl
          · exact ⟨_, rfl, rfl, rfl⟩
          · exact .mk .refl .refl
        · refine cs_skip ?_
          refine ps_then ?_
          refine cs_seq ?_
          obtain ⟨y7, hy6, hl1⟩ := bnd hl1
          refine cs_en (en_ptr (.head _) (by have := getO_lt hy6; omega)) ?_
          rintro _ _ ⟨rfl, rfl, g4, o3, rfl⟩
          refine cs_en (open_gN (.head _) hy6) ?_
          rintro _ _ ⟨A4, c4, A5, c5, rfl, rfl⟩
          refine cs_draw_region_at ([Bk g2 [(.int .i64 p1_0), (.int .i64 p1_1), (.int .i64 p1_2), (.int .i64 p1_3)] 168, Bk g1 [(.int .i64 p0_0), (.int .u64 ((p0_1 : Nat) : Int)), (.slice Ap0_2 p0_2.length cp0_2), (.slice Ap0_3 p0_3.length cp0_3)] 99]) [0, 0, 0, 0, 1, 0, 0, 1, 2, 0] [false, false, false, false, false, false, false, false, true, false] [0, 1, 2, 3, 4, 5, 6, 7, 8, 9] (by kernel_rfl) (by kernel_rfl) (by kernel_rfl) (by kernel_rfl) (by repeat (first | with_reducible refine qok_then ?_ | with_reducible refine qok_block ?_ | exact qok_body | exact qok_bodyN)) ?_
          refine c_move rfl rfl rfl rfl (v := (.slice (some ⟨g4, o3, none⟩) y2.length c1)) rfl ?_
          refine c_move rfl rfl rfl rfl (v := (.int .i64 x3)) rfl ?_
          refine c_indexAddrS (p := x3) rfl rfl rfl rfl Tryz.underlying96 Tryz.sizeOf99 rfl rfl (by have := getO_lt hy6; omega) ?_
          refine c_fieldAddr rfl rfl rfl rfl Tryz.underlying99 rfl Tryz.sizeOf22 rfl rfl ?_
          refine c_load1 (v := (.slice A4 y7.bytes.length c4)) rfl rfl rfl Tryz.isAgg22 rfl (ldDC (off := o3 + (x3 : Int).toNat * 4) (k := 2) rfl rfl xE xM (sub1 rfl)) ?_
          refine l_len (m := y7.bytes.length) rfl rfl rfl rfl Tryz.underlying22 rfl ?_
          refine c_fieldAddr rfl rfl rfl rfl Tryz.underlying168 rfl Tryz.sizeOf3 rfl rfl ?_
          refine c_load1 (v := (.int .i64 p1_3)) rfl rfl rfl Tryz.isAgg3 rfl (ldD rfl rfl xE xM (sub1 rfl)) ?_
          obtain ⟨y8, hy7, hl1⟩ := bnd hl1
          refine c_call rfl rfl rfl rfl Tryz.call167 (lf_ref03_zero_ok K p1_3  w0 _ _  hy7) rfl (by rintro v s r ⟨rfl, rfl, rfl⟩; exact Or.inr xE) ?_
          rintro _ _ _ ⟨rfl, rfl, rfl⟩
          refine can_forget rfl ?_
          refine c_gtr (p := ((y7.bytes.length : Nat) : Int)) (q := y8) rfl rfl rfl rfl rfl rfl ?_
          refine can_nil ?_
          refine ps_then ?_
          refine cs_condL (b := (decide (((y7.bytes.length : Nat) : Int) > y8))) rfl hl1 (fun hc5 hl1 => ?_) (fun hc5 hl1 => ?_)
          · refine cs_seq ?_
            refine cs_seq_region [0, 1] rfl ?_
            refine c_assign rfl rfl rfl rfl (v := (.slice none 0 0)) rfl ?_
            refine c_assign rfl rfl rfl rfl (v := (.int .i64 (2 : Int))) rfl ?_
            refine can_nil ?_
            refine ps_then ?_
            refine cs_ret ?_
            refine ps_block_ret ?_
            refine ps_then_ret ?_
            refine ps_then_ret ?_
            refine ps_block_ret ?_
            refine ps_then_ret ?_
            refine ps_en (en_nilRow (un .u8) 5) ?_
            rintro _ _ ⟨rfl, rfl⟩
            obtain rfl := Option.some.inj hl1
            replace h := kR_i h
            have hz0 := Option.some.inj h
            obtain ⟨rfl, hz1⟩ := prod2 hz0
            obtain rfl := hz1
            refine ps_en (en_arr (sps' := Row (un .u8) 5 (.slice none 0 0) ([] : List Nat) :: sps) (Arr.cons Rem.here (Arr.sub (List.Sublist.cons _ (List.Sublist.cons _ (List.Sublist.cons _ (List.Sublist.cons _ (List.Sublist.refl _)))))))) ?_
            rintro _ _ ⟨rfl, rfl⟩
            refine ps_en (en_keep (rs) (fun r hr => (.tail _ (.tail _ (.tail _ (.tail _ hr)))))) ?_
            rintro _ _ ⟨rfl, rfl⟩
            apply ps_end2 rfl Tryz.results98 rfl rfl
            · exact ⟨_, rfl, rfl, rfl⟩
            · exact .mk .refl .refl
          · refine cs_skip ?_
            refine ps_block_normal ?_
            refine ps_then ?_
            refine cs_seq_region [0, 1, 2] rfl ?_
            refine c_move rfl rfl rfl rfl (v := (.int .i64 x3)) rfl ?_
            refine c_add (p := x3) (q := (1 : Int)) rfl rfl rfl rfl rfl rfl ?_
            refine c_assign rfl rfl rfl rfl (v := (.int .i64 (IntKind.wrap .i64 (x3 + (1 : Int))))) rfl ?_
            refine can_nil ?_
            refine ps_en (en_keep (Rd gN (.slice (some ⟨g4, o3, none⟩) y2.length c1) y2 :: rs) (List.forall_mem_cons.2 ⟨(.tail _ (.tail _ (.tail _ (.head _)))), fun r hr => (.tail _ (.tail _ (.tail _ (.tail _ hr))))⟩)) ?_
            rintro _ _ ⟨rfl, rfl⟩
            refine ps_roundS [(4, (.slice A3 x1.length c3)), (5, (.int .i64 x2)), (8, (.int .i64 (IntKind.wrap .i64 (x3 + (1 : Int)))))] ⟨rfl, rfl, rfl, trivial⟩ xA k1 (Nat.lt_succ_self _) (⟨x1, x2, (IntKind.wrap .i64 (x3 + (1 : Int))), _, _, _, hl1, rfl, rfl, rfl⟩) (.mk .refl .refl)
    · refine cs_exit ?_
      refine ps_then_exit ?_
      refine ps_then_exit ?_
      obtain rfl := Option.some.inj hl1
      replace h := kR_r h
      replace h := un2_ h
      replace h := un2_ h
      obtain ⟨z1, rfl⟩ : ∃ z, z = x1 := ⟨_, rfl⟩
      obtain ⟨z2, rfl⟩ : ∃ z, z = x2 := ⟨_, rfl⟩
      obtain ⟨z3, rfl⟩ : ∃ z, z = x3 := ⟨_, rfl⟩
      refine ps_block_here ?_
      refine ps_then ?_
      refine cs_seq ?_
      refine cs_seq_region [0, 1, 2] rfl ?_
      refine c_loadN (cs := [(.int .i64 p0_0), (.int .u64 ((p0_1 : Nat) : Int)), (.slice Ap0_2 p0_2.length cp0_2), (.slice Ap0_3 p0_3.length cp0_3)]) rfl rfl rfl Tryz.isAgg99 Tryz.sizeOf99 rfl (ldS rfl rfl (.tail _ (.tail _ (.tail _ (.head _)))) (subN (m := 4) rfl)) rfl ?_
      obtain ⟨y9, hy8, h⟩ := bnd h
      refine c_call rfl rfl rfl rfl Tryz.call168 (lf_ref03_bytes_ok K K p0_0 p0_1 p0_2 p0_3 (.slice Ap0_2 p0_2.length cp0_2) (.slice Ap0_3 p0_3.length cp0_3) w0 _ _ (.tail _ hv_p0_2) (.tail _ hv_p0_3) hy8) rfl (fun _ _ _ _ => Or.inl rfl) ?_
      rintro _ _ _ ⟨v3, rfl, rfl, rfl⟩
      refine can_en (en_rowShape (xs := y9) (.head _)) ?_
      rintro _ _ ⟨rfl, rfl, A6, c6, rfl, -, -, -⟩
      refine c_assign rfl rfl rfl rfl (v := (.slice A6 y9.length c6)) rfl ?_
      refine can_nil ?_
      refine ps_then ?_
      refine cs_seq ?_
      refine cs_seq ?_
      refine cs_seq_region [0, 1, 2, 3, 4, 5] rfl ?_
      refine c_move rfl rfl rfl rfl (v := (.slice A6 y9.length c6)) rfl ?_
      refine l_len (m := y9.length) rfl rfl rfl rfl Tryz.underlying22 rfl ?_
      refine c_fieldAddr rfl rfl rfl rfl Tryz.underlying168 rfl Tryz.sizeOf3 rfl rfl ?_
      refine c_load1 (v := (.int .i64 p1_0)) rfl rfl rfl Tryz.isAgg3 rfl (ldS rfl rfl (.tail _ (.tail _ (.tail _ (.head _)))) (sub1 rfl)) ?_
      obtain ⟨y10, hy9, h⟩ := bnd h
      refine c_call rfl rfl rfl rfl Tryz.call167 (lf_ref03_zero_ok K p1_0  w0 _ _  hy9) rfl (fun _ _ _ _ => Or.inl rfl) ?_
      rintro _ _ _ ⟨rfl, rfl, rfl⟩
      refine c_gtr (p := ((y9.length : Nat) : Int)) (q := y10) rfl rfl rfl rfl rfl rfl ?_
      refine can_nil ?_
      refine ps_then ?_
      refine cs_condL (b := (decide (((y9.length : Nat) : Int) > y10))) rfl h (fun hc6 h => ?_) (fun hc6 h => ?_)
      · refine cs_seq ?_
        refine cs_seq_region [0, 1] rfl ?_
        refine c_assign rfl rfl rfl rfl (v := (.slice none 0 0)) rfl ?_
        refine c_assign rfl rfl rfl rfl (v := (.int .i64 (2 : Int))) rfl ?_
        refine can_nil ?_
        refine ps_then ?_
        refine cs_ret ?_
        refine ps_then_ret ?_
        refine ps_en (en_nilRow (un .u8) 5) ?_
        rintro _ _ ⟨rfl, rfl⟩
        have hz0 := Option.some.inj h
        obtain ⟨rfl, hz1⟩ := prod2 hz0
        obtain rfl := hz1
        refine ps_en (en_arr (sps' := Row (un .u8) 5 (.slice none 0 0) ([] : List Nat) :: sps) (Arr.cons Rem.here (Arr.sub (List.Sublist.cons _ (List.Sublist.cons _ (List.Sublist.cons _ (List.Sublist.cons _ (List.Sublist.cons _ (List.Sublist.refl _))))))))) ?_
        rintro _ _ ⟨rfl, rfl⟩
        refine ps_en (en_keep (rs) (fun r hr => (.tail _ hr))) ?_
        rintro _ _ ⟨rfl, rfl⟩
        apply ps_end2 rfl Tryz.results98 rfl rfl
        · exact ⟨_, rfl, rfl, rfl⟩
        · exact .mk .refl .refl
      · refine cs_skip ?_
        refine ps_then ?_
        refine cs_seq ?_
        refine cs_seq_region [0, 1, 2] rfl ?_
        refine c_move rfl rfl rfl rfl (v := (.slice A6 y9.length c6)) rfl ?_
        refine c_assign rfl rfl rfl rfl (v := (.slice A6 y9.length c6)) rfl ?_
        refine c_assign rfl rfl rfl rfl (v := (.int .i64 (0 : Int))) rfl ?_
        refine can_nil ?_
        refine ps_then ?_
        refine cs_ret ?_
        have hz0 := Option.some.inj h
        obtain ⟨rfl, hz1⟩ := prod2 hz0
        obtain rfl := hz1
        refine ps_en (en_arr (sps' := Row (un .u8) 5 (.slice A6 y9.length c6) y9 :: sps) (Arr.cons Rem.here (Arr.sub (List.Sublist.cons _ (List.Sublist.cons _ (List.Sublist.cons _ (List.Sublist.cons _ (List.Sublist.refl _)))))))) ?_
        rintro _ _ ⟨rfl, rfl⟩
        refine ps_en (en_keep (rs) (fun r hr => (.tail _ hr))) ?_
        rintro _ _ ⟨rfl, rfl⟩
        apply ps_end2 rfl Tryz.results98 rfl rfl
        · exact ⟨_, rfl, rfl, rfl⟩
        · exact .mk .refl .refl
def lf_ref03_Bytes (K : Nat) (p0 : (List Nat)) : Option (Int × Nat × (List Nat) × (List GNode)) := (some ((2 : Int), 0, p0, ([] : List GNode)))
theorem lf_ref03_Bytes_ok (K : Nat) (p0 : (List Nat)) (vp0 : Value) (w0 : World) (sps : List Sp) (rs : List Fa) (hv_p0 : Rd (un .u8) vp0 p0 ∈ rs) {r0 : Int} {r1 : Nat} {r2 : (List Nat)} {r3 : (List GNode)} (h : lf_ref03_Bytes K p0 = some (r0, r1, r2, r3)) : FnOk Tryz.prog 97 #[vp0] w0 sps rs (fun v s q => ∃ (qr2 : Value) (qr3 : Value), v = .agg #[.int .i64 r0, .int .u64 ((r1 : Nat) : Int), qr2, qr3] ∧ Row gN 99 qr3 r3 :: sps = s ∧ Rd (un .u8) qr2 r2 :: rs = q) := by
  unfold lf_ref03_Bytes at h
  refine fn_en (en_shape hv_p0) ?_
  rintro _ _ ⟨rfl, rfl, Ap0, cp0, rfl, -, -, -⟩
  refine fn_enter Tryz.func97 rfl Tryz.ntmps97 rfl ?_
  refine cs_seq ?_
  refine cs_seq_region [0] rfl ?_
  refine c_alloc (cs := [(.int .i64 (0 : Int)), (.int .u64 ((0 : Nat) : Int)), (.slice none 0 0), (.slice none 0 0)]) rfl rfl rfl rfl Tryz.zeroValue99 rfl (fun _ => Or.inl rfl) (fun g1 => ?_)
  refine can_nil ?_
  refine ps_then ?_
  refine cs_seq ?_
  refine cs_seq_region [0, 1, 2] rfl ?_
  refine c_move rfl rfl rfl rfl (v := (.slice Ap0 p0.length cp0)) rfl ?_
  refine c_buildS (cs := [(.int .i64 (2 : Int)), (.int .u64 ((0 : Nat) : Int)), (.slice Ap0 p0.length cp0), (.slice none 0 0)]) rfl rfl rfl rfl Tryz.underlying99 Tryz.zeroValue99 (by intro w; simp [Tryz.sizeOf3, Tryz.sizeOf22, Tryz.sizeOf96, Tryz.sizeOf97]; rfl) rfl rfl ?_
  refine c_storeN (cs := [(.int .i64 (2 : Int)), (.int .u64 ((0 : Nat) : Int)), (.slice Ap0 p0.length cp0), (.slice none 0 0)]) rfl rfl rfl Tryz.sizeOf99 rfl rfl Foc.here rfl rfl (by exact Nat.le_of_ble_eq_true rfl) rfl rfl (Or.inl rfl) ?_
  refine can_nil ?_
  refine ps_then ?_
  refine cs_ret ?_
  refine ps_en (en_nilRow gN 99) ?_
  rintro _ _ ⟨rfl, rfl⟩
  have hz0 := Option.some.inj h
  obtain ⟨rfl, hz1⟩ := prod2 hz0
  obtain ⟨rfl, hz2⟩ := prod2 hz1
  obtain ⟨rfl, hz3⟩ := prod2 hz2
  obtain rfl := hz3
  refine ps_en (en_arr (sps' := Bk g1 [(.int .i64 (2 : Int)), (.int .u64 ((0 : Nat) : Int)), (.slice Ap0 p0.length cp0), (.slice none 0 0)] 99 :: Row gN 99 (.slice none 0 0) ([] : List GNode) :: sps) (Arr.cons (Rem.there Rem.here) (Arr.cons Rem.here Arr.refl))) ?_
  rintro _ _ ⟨rfl, rfl⟩
  refine ps_en (en_keep (Rd (un .u8) (.slice Ap0 p0.length cp0) p0 :: rs) (List.forall_mem_cons.2 ⟨hv_p0, fun r hr => hr⟩)) ?_
  rintro _ _ ⟨rfl, rfl⟩
  apply ps_res1 rfl Tryz.results97 (res_cellN Tryz.isAgg99 Tryz.sizeOf99 rfl (.head _) rfl)
  · exact ⟨_, _, rfl, rfl, rfl⟩
  · exact .mk (.cons .refl) .refl
def lf_ref03_List (K : Nat) (p0 : (List GNode)) : Option (Int × Nat × (List Nat) × (List GNode)) := (some ((3 : Int), 0, ([] : List Nat), p0))
theorem lf_ref03_List_ok (K : Nat) (p0 : (List GNode)) (vp0 : Value) (w0 : World) (sps : List Sp) (rs : List Fa) (hv_p0 : Rd gN vp0 p0 ∈ rs) {r0 : Int} {r1 : Nat} {r2 : (List Nat)} {r3 : (List GNode)} (h : lf_ref03_List K p0 = some (r0, r1, r2, r3)) : FnOk Tryz.prog 99 #[vp0] w0 sps rs (fun v s q => ∃ (qr2 : Value) (qr3 : Value), v = .agg #[.int .i64 r0, .int .u64 ((r1 : Nat) : Int), qr2, qr3] ∧ Row (un .u8) 5 qr2 r2 :: sps = s ∧ Rd gN qr3 r3 :: rs = q) := by
  unfold lf_ref03_List at h
  refine fn_en (en_shape hv_p0) ?_
  rintro _ _ ⟨rfl, rfl, Ap0, cp0, rfl, -, -, -⟩
  refine fn_enter Tryz.func99 rfl Tryz.ntmps99 rfl ?_
  refine cs_seq ?_
  refine cs_seq_region [0] rfl ?_
  refine c_alloc (cs := [(.int .i64 (0 : Int)), (.int .u64 ((0 : Nat) : Int)), (.slice none 0 0), (.slice none 0 0)]) rfl rfl rfl rfl Tryz.zeroValue99 rfl (fun _ => Or.inl rfl) (fun g1 => ?_)
  refine can_nil ?_
  refine ps_then ?_
  refine cs_seq ?_
  refine cs_seq_region [0, 1, 2] rfl ?_
  refine c_move rfl rfl rfl rfl (v := (.slice Ap0 p0.length cp0)) rfl ?_
  refine c_buildS (cs := [(.int .i64 (3 : Int)), (.int .u64 ((0 : Nat) : Int)), (.slice none 0 0), (.slice Ap0 p0.length cp0)]) rfl rfl rfl rfl Tryz.underlying99 Tryz.zeroValue99 (by intro w; simp [Tryz.sizeOf3, Tryz.sizeOf22, Tryz.sizeOf96, Tryz.sizeOf97]; rfl) rfl rfl ?_
  refine c_storeN (cs := [(.int .i64 (3 : Int)), (.int .u64 ((0 : Nat) : Int)), (.slice none 0 0), (.slice Ap0 p0.length cp0)]) rfl rfl rfl Tryz.sizeOf99 rfl rfl Foc.here rfl rfl (by exact Nat.le_of_ble_eq_true rfl) rfl rfl (Or.inl rfl) ?_
  refine can_nil ?_
  refine ps_then ?_
  refine cs_ret ?_
  refine ps_en (en_nilRow (un .u8) 5) ?_
  rintro _ _ ⟨rfl, rfl⟩
  have hz0 := Option.some.inj h
  obtain ⟨rfl, hz1⟩ := prod2 hz0
  obtain ⟨rfl, hz2⟩ := prod2 hz1
  obtain ⟨rfl, hz3⟩ := prod2 hz2
  obtain rfl := hz3
  refine ps_en (en_arr (sps' := Bk g1 [(.int .i64 (3 : Int)), (.int .u64 ((0 : Nat) : Int)), (.slice none 0 0), (.slice Ap0 p0.length cp0)] 99 :: Row (un .u8) 5 (.slice none 0 0) ([] : List Nat) :: sps) (Arr.cons (Rem.there Rem.here) (Arr.cons Rem.here Arr.refl))) ?_
  rintro _ _ ⟨rfl, rfl⟩
  refine ps_en (en_keep (Rd gN (.slice Ap0 p0.length cp0) p0 :: rs) (List.forall_mem_cons.2 ⟨hv_p0, fun r hr => hr⟩)) ?_
  rintro _ _ ⟨rfl, rfl⟩
  apply ps_res1 rfl Tryz.results99 (res_cellN Tryz.isAgg99 Tryz.sizeOf99 rfl (.head _) rfl)
  · exact ⟨_, _, rfl, rfl, rfl⟩
  · exact .mk (.cons .refl) .refl
def lf_ref15_Sent_l0 (K : Nat) (p1 : (List (List Nat))) : Nat → (List GNode) → Int → Option ((List GNode) × Int)
  | 0, _, _ => none
  | k + 1, x1, x2 => (bif (decide (x2 < ((p1.length : Nat) : Int))) then ((getO p1 x2).bind fun y1 => ((lf_ref03_Bytes K y1).bind (fun qy2 => un2 qy2 (fun y2 => fun qy3 => un2 qy3 (fun y3 => fun qy4 => un2 qy4 (fun y4 => fun y5 => ((appO x1 ([(GNode.mk y2 y3 y4 y5)] : List GNode)).bind fun y6 => (lf_ref15_Sent_l0 K p1 k y6 (IntKind.wrap .i64 (x2 + (1 : Int))))))))))) else (some (x1, x2)))
def lf_ref15_Sent (K : Nat) (p0 : (List Nat)) (p1 : (List (List Nat))) : Option (List Nat) := ((lf_ref15_Sent_l0 K p1 K ([] : List GNode) (0 : Int)).bind (fun qz1 => un2 qz1 (fun z1 => fun z2 => ((lf_ref03_Bytes K p0).bind (fun qy7 => un2 qy7 (fun y7 => fun qy8 => un2 qy8 (fun y8 => fun qy9 => un2 qy9 (fun y9 => fun y10 => ((lf_ref03_List K z1).bind (fun qy11 => un2 qy11 (fun y11 => fun qy12 => un2 qy12 (fun y12 => fun qy13 => un2 qy13 (fun y13 => fun y14 => ((lf_ref03_List K ([(GNode.mk y7 y8 y9 y10), (GNode.mk y11 y12 y13 y14)] : List GNode)).bind (fun qy15 => un2 qy15 (fun y15 => fun qy16 => un2 qy16 (fun y16 => fun qy17 => un2 qy17 (fun y17 => fun y18 => ((lf_ref03_Whole K ).bind (fun qy19 => un2 qy19 (fun y19 => fun qy20 => un2 qy20 (fun y20 => fun qy21 => un2 qy21 (fun y21 => fun y22 => ((lf_ref03_Write K y15 y16 y17 y18 y19 y20 y21 y22).bind (fun qy23 => un2 qy23 (fun y23 => fun y24 => (some y23)))))))))))))))))))))))))))
theorem lf_ref15_Sent_ok (K : Nat) (p0 : (List Nat)) (p1 : (List (List Nat))) (vp0 : Value) (vp1 : Value) (w0 : World) (sps : List Sp) (rs : List Fa) (hv_p0 : Rd (un .u8) vp0 p0 ∈ rs) (hv_p1 : Rd (Rep.slice (un .u8)) vp1 p1 ∈ rs) {r0 : (List Nat)} (h : lf_ref15_Sent K p0 p1 = some r0) : FnOk Tryz.prog 45 #[vp0, vp1] w0 sps rs (fun v s q => ∃ (qr0 : Value), v = qr0 ∧ Row (un .u8) 5 qr0 r0 :: sps = s ∧ rs = q) := by
  unfold lf_ref15_Sent at h
  refine fn_en (en_shape hv_p0) ?_
  rintro _ _ ⟨rfl, rfl, Ap0, cp0, rfl, -, -, -⟩
  refine fn_en (en_shape hv_p1) ?_
  rintro _ _ ⟨rfl, rfl, Ap1, cp1, rfl, -, -, -⟩
  refine fn_enter Tryz.func45 rfl Tryz.ntmps45 rfl ?_
  refine cs_seq ?_
  refine cs_seq_region [0] rfl ?_
  refine c_assign rfl rfl rfl rfl (v := (.slice none 0 0)) rfl ?_
  refine can_nil ?_
  refine ps_then ?_
  refine cs_seq ?_
  refine cs_seq_region [0] rfl ?_
  refine c_assign rfl rfl rfl rfl (v := (.slice none 0 0)) rfl ?_
  refine can_nil ?_
  refine ps_then ?_
  refine cs_seq ?_
  refine cs_seq ?_
  refine cs_seq_region [0] rfl ?_
  refine c_assign rfl rfl rfl rfl (v := (.int .i64 (0 : Int))) rfl ?_
  refine can_nil ?_
  refine ps_then ?_
  refine cs_block ?_
  refine cs_en (en_nilRow gN 99) ?_
  rintro _ _ ⟨rfl, rfl⟩
  obtain ⟨o1, hl1, h⟩ := bnd h
  refine cs_loopS [5, 6, 9, 10, 11, 12, 13, 14, 15, 16, 17, 18, 19, 20, 21, 22] (fun m L s r => ∃ (x1 : (List GNode)) (x2 : Int) (A1 : Option Addr) (m1 : Nat) (c1 : Nat), lf_ref15_Sent_l0 K p1 m x1 x2 = some o1 ∧ [(5, (.slice A1 m1 c1)), (6, (.int .i64 x2))] = L ∧ Row gN 99 (.slice A1 m1 c1) x1 :: sps = s ∧ rs = r) [(5, (.slice none 0 0)), (6, (.int .i64 (0 : Int)))] (⟨rfl, rfl, trivial⟩) (⟨([] : List GNode), (0 : Int), _, _, _, hl1, rfl, rfl, rfl⟩) ?_
  rintro k1 f1 _ _ _ ⟨x1, x2, A1, m1, c1, hl1, rfl, rfl, rfl⟩
  rcases k1 with _ | k1
  · exact absurd hl1 (by rw [lf_ref15_Sent_l0.eq_1]; exact nofun)
  rw [lf_ref15_Sent_l0.eq_2] at hl1
  refine cs_en (en_rowLen (.head _)) ?_
  rintro _ _ ⟨rfl, rfl, rfl⟩
  refine cs_seq ?_
  refine cs_seq ?_
  refine cs_seq_region [0, 1, 2, 3] rfl ?_
  refine c_move rfl rfl rfl rfl (v := (.int .i64 x2)) rfl ?_
  refine c_move rfl rfl rfl rfl (v := (.slice Ap1 p1.length cp1)) rfl ?_
  refine l_len (m := p1.length) rfl rfl rfl rfl Tryz.underlying25 rfl ?_
  refine c_lss (p := x2) (q := ((p1.length : Nat) : Int)) rfl rfl rfl rfl rfl rfl ?_
  refine can_nil ?_
  refine ps_then ?_
  refine cs_condL (b := (decide (x2 < ((p1.length : Nat) : Int)))) rfl hl1 (fun hc1 hl1 => ?_) (fun hc1 hl1 => ?_)
  · refine cs_skip ?_
    refine ps_then ?_
    refine cs_seq ?_
    refine cs_block ?_
    refine cs_seq_region [0, 1, 2, 3, 4, 5, 6, 7, 8] rfl ?_
    refine c_move rfl rfl rfl rfl (v := (.slice A1 x1.length c1)) rfl ?_
    refine c_move rfl rfl rfl rfl (v := (.slice Ap1 p1.length cp1)) rfl ?_
    refine c_move rfl rfl rfl rfl (v := (.int .i64 x2)) rfl ?_
    obtain ⟨y1, hy1, hl1⟩ := bnd hl1
    refine can_en (en_ptr hv_p1 (by have := getO_lt hy1; omega)) ?_
    rintro _ _ ⟨rfl, rfl, g1, o2, rfl⟩
    refine can_en (open_Rep_slice_un_u8 hv_p1 hy1) ?_
    rintro _ _ ⟨A2, c2, rfl, rfl⟩
    refine c_indexAddrS (p := x2) rfl rfl rfl rfl Tryz.underlying25 Tryz.sizeOf22 rfl rfl (by have := getO_lt hy1; omega) ?_
    refine c_load1 (v := (.slice A2 y1.length c2)) rfl rfl rfl Tryz.isAgg22 rfl (ldSC (off := o2 + (x2 : Int).toNat * 1) (k := 0) rfl rfl (.head _) (sub1 rfl)) ?_
    obtain ⟨⟨y2, y3, y4, y5⟩, hy2, hl1⟩ := bnd hl1
    replace hl1 := un2_ hl1
    replace hl1 := un2_ hl1
    replace hl1 := un2_ hl1
    refine c_call rfl rfl rfl rfl Tryz.call97 (lf_ref03_Bytes_ok K y1 (.slice A2 y1.length c2) w0 _ _ (.tail _ (.head _)) hy2) rfl (fun _ _ _ _ => Or.inl rfl) ?_
    rintro _ _ _ ⟨v1, v2, rfl, rfl, rfl⟩
    refine can_en (en_shape (xs := y4) (.head _)) ?_
    rintro _ _ ⟨rfl, rfl, A3, c3, rfl, -, -, -⟩
    refine can_en (en_rowShape (xs := y5) (.head _)) ?_
    rintro _ _ ⟨rfl, rfl, A4, c4, rfl, -, -, -⟩
    refine can_en (en_give Rem.here) ?_
    rintro _ _ ⟨rfl, rfl⟩
    refine c_lit (cs := [(.int .i64 y2), (.int .u64 ((y3 : Nat) : Int)), (.slice A3 y4.length c3), (.slice A4 y5.length c4)]) rfl rfl rfl rfl Tryz.underlying96 Tryz.sizeOf99 Tryz.zeroValue99 rfl rfl rfl rfl rfl (fun _ => Or.inl rfl) (fun g2 => ?_)
    obtain ⟨y6, hy3, hl1⟩ := bnd hl1
    refine l_append1 (dr := gN) (xs := x1) (ys := [(GNode.mk y2 y3 y4 y5)]) rfl rfl rfl rfl sty_96 rfl rfl rfl Rem.here Foc.here rfl (fun hh hr => (Reps.nil gN _).snoc (x := (GNode.mk y2 y3 y4 y5)) (c := [(.int .i64 y2), (.int .u64 ((y3 : Nat) : Int)), (.slice A3 y4.length c3), (.slice A4 y5.length c4)]) (gN_mk (hr _ (.tail _ (.head _))) (hr _ (.head _)))) hy3 (fun _ => Or.inl rfl) (fun v3 => ?_)
    refine can_en (en_rowShape (xs := y6) (.head _)) ?_
    rintro _ _ ⟨rfl, rfl, A5, c5, rfl, -, -, -⟩
    refine c_assign rfl rfl rfl rfl (v := (.slice A5 y6.length c5)) rfl ?_
    refine can_nil ?_
    refine ps_block_normal ?_
    refine ps_then ?_
    refine cs_seq_region [0, 1, 2] rfl ?_
    refine c_move rfl rfl rfl rfl (v := (.int .i64 x2)) rfl ?_
    refine c_add (p := x2) (q := (1 : Int)) rfl rfl rfl rfl rfl rfl ?_
    refine c_assign rfl rfl rfl rfl (v := (.int .i64 (IntKind.wrap .i64 (x2 + (1 : Int))))) rfl ?_
    refine can_nil ?_
    refine ps_en (en_keep (rs) (fun r hr => (.tail _ (.tail _ (.tail _ (.tail _ hr)))))) ?_
    rintro _ _ ⟨rfl, rfl⟩
    refine ps_roundS [(5, (.slice A5 y6.length c5)), (6, (.int .i64 (IntKind.wrap .i64 (x2 + (1 : Int)))))] ⟨rfl, rfl, trivial⟩ xA k1 (Nat.lt_succ_self _) (⟨y6, (IntKind.wrap .i64 (x2 + (1 : Int))), _, _, _, hl1, rfl, rfl, rfl⟩) (.mk .refl .refl)
  · refine cs_exit ?_
    refine ps_then_exit ?_
    refine ps_then_exit ?_
    obtain rfl := Option.some.inj hl1
    replace h := un2_ h
    obtain ⟨z1, rfl⟩ : ∃ z, z = x1 := ⟨_, rfl⟩
    obtain ⟨z2, rfl⟩ : ∃ z, z = x2 := ⟨_, rfl⟩
    refine ps_block_here ?_
    refine ps_then ?_
    refine cs_seq ?_
    refine cs_seq_region [0, 1, 2, 3, 4, 5, 6, 7, 8, 9, 10, 11, 12] rfl ?_
    refine c_move rfl rfl rfl rfl (v := (.slice Ap0 p0.length cp0)) rfl ?_
    obtain ⟨⟨y7, y8, y9, y10⟩, hy4, h⟩ := bnd h
    replace h := un2_ h
    replace h := un2_ h
    replace h := un2_ h
    refine c_call rfl rfl rfl rfl Tryz.call97 (lf_ref03_Bytes_ok K p0 (.slice Ap0 p0.length cp0) w0 _ _ hv_p0 hy4) rfl (fun _ _ _ _ => Or.inl rfl) ?_
    rintro _ _ _ ⟨v4, v5, rfl, rfl, rfl⟩
    refine can_en (en_shape (xs := y9) (.head _)) ?_
    rintro _ _ ⟨rfl, rfl, A6, c6, rfl, -, -, -⟩
    refine can_en (en_rowShape (xs := y10) (.head _)) ?_
    rintro _ _ ⟨rfl, rfl, A7, c7, rfl, -, -, -⟩
    refine c_move rfl rfl rfl rfl (v := (.slice A1 z1.length c1)) rfl ?_
    refine can_en (en_give (Rem.there Rem.here)) ?_
    rintro _ _ ⟨rfl, rfl⟩
    obtain ⟨⟨y11, y12, y13, y14⟩, hy5, h⟩ := bnd h
    replace h := un2_ h
    replace h := un2_ h
    replace h := un2_ h
    refine c_call rfl rfl rfl rfl Tryz.call99 (lf_ref03_List_ok K z1 (.slice A1 z1.length c1) w0 _ _ (.head _) hy5) rfl (fun _ _ _ _ => Or.inl rfl) ?_
    rintro _ _ _ ⟨v6, v7, rfl, rfl, rfl⟩
    refine can_en (en_rowShape (xs := y13) (.head _)) ?_
    rintro _ _ ⟨rfl, rfl, A8, c8, rfl, -, -, -⟩
    refine can_en (en_shape (xs := y14) (.head _)) ?_
    rintro _ _ ⟨rfl, rfl, A9, c9, rfl, -, -, -⟩
    refine can_en (en_give (Rem.there Rem.here)) ?_
    rintro _ _ ⟨rfl, rfl⟩
    refine can_en (en_give Rem.here) ?_
    rintro _ _ ⟨rfl, rfl⟩
    refine c_lit (cs := [(.int .i64 y7), (.int .u64 ((y8 : Nat) : Int)), (.slice A6 y9.length c6), (.slice A7 y10.length c7), (.int .i64 y11), (.int .u64 ((y12 : Nat) : Int)), (.slice A8 y13.length c8), (.slice A9 y14.length c9)]) rfl rfl rfl rfl Tryz.underlying96 Tryz.sizeOf99 Tryz.zeroValue99 rfl rfl rfl rfl rfl (fun _ => Or.inl rfl) (fun g3 => ?_)
    refine can_en (en_litRow (m := 2) (dr := gN) (xs := ([(GNode.mk y7 y8 y9 y10), (GNode.mk y11 y12 y13 y14)] : List GNode)) Rem.here (fun hh hr => ((Reps.nil gN _).snoc (x := (GNode.mk y7 y8 y9 y10)) (c := [(.int .i64 y7), (.int .u64 ((y8 : Nat) : Int)), (.slice A6 y9.length c6), (.slice A7 y10.length c7)]) (gN_mk (hr _ (.tail _ (.tail _ (.tail _ (.tail _ (.head _)))))) (hr _ (.tail _ (.head _))))).snoc (x := (GNode.mk y11 y12 y13 y14)) (c := [(.int .i64 y11), (.int .u64 ((y12 : Nat) : Int)), (.slice A8 y13.length c8), (.slice A9 y14.length c9)]) (gN_mk (hr _ (.head _)) (hr _ (.tail _ (.tail _ (.head _)))))) rfl rfl) ?_
    rintro _ _ ⟨rfl, rfl⟩
    refine can_en (en_give Rem.here) ?_
    rintro _ _ ⟨rfl, rfl⟩
    obtain ⟨⟨y15, y16, y17, y18⟩, hy6, h⟩ := bnd h
    replace h := un2_ h
    replace h := un2_ h
    replace h := un2_ h
    refine c_call rfl rfl rfl rfl Tryz.call99 (lf_ref03_List_ok K ([(GNode.mk y7 y8 y9 y10), (GNode.mk y11 y12 y13 y14)] : List GNode) (.slice (some ⟨g3, 0, none⟩) 2 2) w0 _ _ (.head _) hy6) rfl (fun _ _ _ _ => Or.inl rfl) ?_
    rintro _ _ _ ⟨v8, v9, rfl, rfl, rfl⟩
    refine can_en (en_rowShape (xs := y17) (.head _)) ?_
    rintro _ _ ⟨rfl, rfl, A10, c10, rfl, -, -, -⟩
    refine can_en (en_shape (xs := y18) (.head _)) ?_
    rintro _ _ ⟨rfl, rfl, A11, c11, rfl, -, -, -⟩
    obtain ⟨⟨y19, y20, y21, y22⟩, hy7, h⟩ := bnd h
    replace h := un2_ h
    replace h := un2_ h
    replace h := un2_ h
    refine c_call rfl rfl rfl rfl Tryz.call100 (lf_ref03_Whole_ok K   w0 _ _  hy7) rfl (fun _ _ _ _ => Or.inl rfl) ?_
    rintro _ _ _ ⟨rfl, rfl, rfl⟩
    refine can_en (en_give Rem.here) ?_
    rintro _ _ ⟨rfl, rfl⟩
    obtain ⟨⟨y23, y24⟩, hy8, h⟩ := bnd h
    replace h := un2_ h
    refine c_call rfl rfl rfl rfl Tryz.call98 (lf_ref03_Write_ok K y15 y16 y17 y18 y19 y20 y21 y22 (.slice A10 y17.length c10) (.slice A11 y18.length c11) w0 _ _ (.head _) (.tail _ (.head _)) hy8) rfl (fun _ _ _ _ => Or.inl rfl) ?_
    rintro _ _ _ ⟨v10, rfl, rfl, rfl⟩
    refine can_en (en_rowShape (xs := y23) (.head _)) ?_
    rintro _ _ ⟨rfl, rfl, A12, c12, rfl, -, -, -⟩
    refine c_move rfl rfl rfl rfl (v := (.tuple #[(.slice A12 y23.length c12), (.int .i64 y24)])) rfl ?_
    refine c_extract rfl rfl rfl rfl rfl rfl ?_
    refine c_extract rfl rfl rfl rfl rfl rfl ?_
    refine c_assign rfl rfl rfl rfl (v := (.slice A12 y23.length c12)) rfl ?_
    refine c_assign rfl rfl rfl rfl (v := (.int .i64 y24)) rfl ?_
    refine can_nil ?_
    refine ps_then ?_
    refine cs_seq ?_
    refine cs_seq_region [0, 1] rfl ?_
    refine c_move rfl rfl rfl rfl (v := (.slice A12 y23.length c12)) rfl ?_
    refine c_assign rfl rfl rfl rfl (v := (.slice A12 y23.length c12)) rfl ?_
    refine can_nil ?_
    refine ps_then ?_
    refine cs_ret ?_
    obtain rfl := Option.some.inj h
    refine ps_en (en_keep (rs) (fun r hr => (.tail _ (.tail _ (.tail _ (.tail _ (.tail _ (.tail _ (.tail _ (.tail _ hr)))))))))) ?_
    rintro _ _ ⟨rfl, rfl⟩
    apply ps_end1 rfl Tryz.results45 rfl
    · exact ⟨_, rfl, rfl, rfl⟩
    · exact .mk .refl .refl
def lf_ref16_Chunk (K : Nat) (p0_0 : (List Nat)) (p0_1 : (List Nat)) (p0_2 : (List Nat)) (p0_3 : (List Nat)) (p0_4 : Int) (p1 : Int) : Option ((List Nat) × Int) := ((lf_ref06_Cut K p0_3 p0_4).bind (fun qy1 => un2 qy1 (fun y1 => fun y2 => (bif (decide (y2 ≠ (0 : Int))) then (some (([] : List Nat), (1 : Int))) else (bif (decide (p1 < (0 : Int))) then (some (([] : List Nat), (1 : Int))) else (bif (decide (p1 ≥ ((y1.length : Nat) : Int))) then (some (([] : List Nat), (1 : Int))) else ((lf_ref06_Leaves K p0_3 p0_4).bind (fun qy3 => un2 qy3 (fun y3 => fun y4 => ((lf_ref06_Prove K y3 p1).bind (fun qy5 => un2 qy5 (fun y5 => fun y6 => ((getO y1 p1).bind fun y7 => ((lf_ref15_Sent K y7 y5).bind (fun y8 => (some (y8, (0 : Int))))))))))))))))))
theorem lf_ref16_Chunk_ok (K : Nat) (p0_0 : (List Nat)) (p0_1 : (List Nat)) (p0_2 : (List Nat)) (p0_3 : (List Nat)) (p0_4 : Int) (p1 : Int) (vp0_0 : Value) (vp0_1 : Value) (vp0_2 : Value) (vp0_3 : Value) (w0 : World) (sps : List Sp) (rs : List Fa) (hv_p0_0 : Rd (un .u8) vp0_0 p0_0 ∈ rs) (hv_p0_1 : Rd (un .u8) vp0_1 p0_1 ∈ rs) (hv_p0_2 : Rd (un .u8) vp0_2 p0_2 ∈ rs) (hv_p0_3 : Rd (un .u8) vp0_3 p0_3 ∈ rs) {r0 : (List Nat)} {r1 : Int} (h : lf_ref16_Chunk K p0_0 p0_1 p0_2 p0_3 p0_4 p1 = some (r0, r1)) : FnOk Tryz.prog 13 #[.agg #[vp0_0, vp0_1, vp0_2, vp0_3, .int .i64 p0_4], .int .i64 p1] w0 sps rs (fun v s q => ∃ (qr0 : Value), v = .tuple #[qr0, .int .i64 r1] ∧ Row (un .u8) 5 qr0 r0 :: sps = s ∧ rs = q) := by
  unfold lf_ref16_Chunk at h
  refine fn_en (en_shape hv_p0_0) ?_
  rintro _ _ ⟨rfl, rfl, Ap0_0, cp0_0, rfl, -, -, -⟩
  refine fn_en (en_shape hv_p0_1) ?_
  rintro _ _ ⟨rfl, rfl, Ap0_1, cp0_1, rfl, -, -, -⟩
  refine fn_en (en_shape hv_p0_2) ?_
  rintro _ _ ⟨rfl, rfl, Ap0_2, cp0_2, rfl, -, -, -⟩
  refine fn_en (en_shape hv_p0_3) ?_
  rintro _ _ ⟨rfl, rfl, Ap0_3, cp0_3, rfl, -, -, -⟩
  refine fn_enter Tryz.func13 rfl Tryz.ntmps13 rfl ?_
  refine cs_seq ?_
  refine cs_seq_region [0, 1, 2] rfl ?_
  refine c_box (cs := [(.slice Ap0_0 p0_0.length cp0_0), (.slice Ap0_1 p0_1.length cp0_1), (.slice Ap0_2 p0_2.length cp0_2), (.slice Ap0_3 p0_3.length cp0_3), (.int .i64 p0_4)]) rfl rfl rfl rfl rfl (fun _ => Or.inl rfl) (fun g1 => ?_)
  refine c_assign rfl rfl rfl rfl (v := (.slice none 0 0)) rfl ?_
  refine c_assign rfl rfl rfl rfl (v := (.int .i64 (0 : Int))) rfl ?_
  refine can_nil ?_
  refine ps_then ?_
  refine cs_seq ?_
  refine cs_seq_region [0, 1, 2, 3, 4, 5, 6, 7, 8, 9] rfl ?_
  refine c_fieldAddr rfl rfl rfl rfl Tryz.underlying24 rfl Tryz.sizeOf22 rfl rfl ?_
  refine c_load1 (v := (.slice Ap0_3 p0_3.length cp0_3)) rfl rfl rfl Tryz.isAgg22 rfl (ldS rfl rfl (.head _) (sub1 rfl)) ?_
  refine c_fieldAddr rfl rfl rfl rfl Tryz.underlying24 rfl Tryz.sizeOf2 rfl rfl ?_
  refine c_load1 (v := (.int .i64 p0_4)) rfl rfl rfl Tryz.isAgg2 rfl (ldS rfl rfl (.head _) (sub1 rfl)) ?_
  obtain ⟨⟨y1, y2⟩, hy1, h⟩ := bnd h
  replace h := un2_ h
  refine c_call rfl rfl rfl rfl Tryz.call42 (lf_ref06_Cut_ok K p0_3 p0_4 (.slice Ap0_3 p0_3.length cp0_3) w0 _ _ hv_p0_3 hy1) rfl (fun _ _ _ _ => Or.inl rfl) ?_
  rintro _ _ _ ⟨v1, rfl, rfl, rfl⟩
  refine can_en (en_rowShape (xs := y1) (.head _)) ?_
  rintro _ _ ⟨rfl, rfl, A1, c1, rfl, -, -, -⟩
  refine c_move rfl rfl rfl rfl (v := (.tuple #[(.slice A1 y1.length c1), (.int .i64 y2)])) rfl ?_
  refine c_extract rfl rfl rfl rfl rfl rfl ?_
  refine c_extract rfl rfl rfl rfl rfl rfl ?_
  refine c_assign rfl rfl rfl rfl (v := (.slice A1 y1.length c1)) rfl ?_
  refine c_assign rfl rfl rfl rfl (v := (.int .i64 y2)) rfl ?_
  refine can_nil ?_
  refine ps_then ?_
  refine cs_seq ?_
  refine cs_seq ?_
  refine cs_seq_region [0, 1, 2, 3, 4, 5, 6, 7, 8, 9, 10, 11] rfl ?_
  refine c_move rfl rfl rfl rfl (v := (.int .i64 y2)) rfl ?_
  refine l_neqI (p := y2) (q := (0 : Int)) rfl rfl rfl rfl rfl rfl ?_
  refine c_move rfl rfl rfl rfl (v := (.bool (decide (y2 ≠ (0 : Int))))) rfl ?_
  refine can_splitL 22 (b := (decide (y2 ≠ (0 : Int)))) rfl h (fun hg1 h => ?_) (fun hg1 h => ?_)
  · refine can_skip rfl rfl rfl (Or.inl rfl) ?_
    refine can_skip rfl rfl rfl (Or.inl rfl) ?_
    refine c_pick rfl rfl rfl rfl rfl (by conv => lhs; whnf) ?_
    refine c_move rfl rfl rfl rfl (v := (.bool true)) rfl ?_
    refine can_skip rfl rfl rfl (Or.inl rfl) ?_
    refine can_skip rfl rfl rfl (Or.inl rfl) ?_
    refine can_skip rfl rfl rfl (Or.inl rfl) ?_
    refine can_skip rfl rfl rfl (Or.inl rfl) ?_
    refine c_pick rfl rfl rfl rfl rfl (by conv => lhs; whnf) ?_
    refine can_nil ?_
    refine ps_then ?_
    refine cs_true rfl ?_
    refine cs_seq ?_
    refine cs_seq_region [0, 1] rfl ?_
    refine c_assign rfl rfl rfl rfl (v := (.slice none 0 0)) rfl ?_
    refine c_assign rfl rfl rfl rfl (v := (.int .i64 (1 : Int))) rfl ?_
    refine can_nil ?_
    refine ps_then ?_
    refine cs_ret ?_
    refine ps_then_ret ?_
    refine ps_en (en_nilRow (un .u8) 5) ?_
    rintro _ _ ⟨rfl, rfl⟩
    have hz0 := Option.some.inj h
    obtain ⟨rfl, hz1⟩ := prod2 hz0
    obtain rfl := hz1
    refine ps_en (en_arr (sps' := Row (un .u8) 5 (.slice none 0 0) ([] : List Nat) :: sps) (Arr.cons Rem.here (Arr.sub (List.Sublist.cons _ (List.Sublist.cons _ (List.Sublist.refl _)))))) ?_
    rintro _ _ ⟨rfl, rfl⟩
    refine ps_en (en_keep (rs) (fun r hr => hr)) ?_
    rintro _ _ ⟨rfl, rfl⟩
    apply ps_end2 rfl Tryz.results13 rfl rfl
    · exact ⟨_, rfl, rfl, rfl⟩
    · exact .mk .refl .refl
  · refine c_move rfl rfl rfl rfl (v := (.int .i64 p1)) rfl ?_
    refine c_lss (p := p1) (q := (0 : Int)) rfl rfl rfl rfl rfl rfl ?_
    refine c_pick rfl rfl rfl rfl rfl (by conv => lhs; whnf) ?_
    refine c_move rfl rfl rfl rfl (v := (.bool (decide (p1 < (0 : Int))))) rfl ?_
    refine can_splitL 26 (b := (decide (p1 < (0 : Int)))) rfl h (fun hg2 h => ?_) (fun hg2 h => ?_)
    · refine can_skip rfl rfl rfl (Or.inl rfl) ?_
      refine can_skip rfl rfl rfl (Or.inl rfl) ?_
      refine can_skip rfl rfl rfl (Or.inl rfl) ?_
      refine can_skip rfl rfl rfl (Or.inl rfl) ?_
      refine c_pick rfl rfl rfl rfl rfl (by conv => lhs; whnf) ?_
      refine can_nil ?_
      refine ps_then ?_
      refine cs_true rfl ?_
      refine cs_seq ?_
      refine cs_seq_region [0, 1] rfl ?_
      refine c_assign rfl rfl rfl rfl (v := (.slice none 0 0)) rfl ?_
      refine c_assign rfl rfl rfl rfl (v := (.int .i64 (1 : Int))) rfl ?_
      refine can_nil ?_
      refine ps_then ?_
      refine cs_ret ?_
      refine ps_then_ret ?_
      refine ps_en (en_nilRow (un .u8) 5) ?_
      rintro _ _ ⟨rfl, rfl⟩
      have hz0 := Option.some.inj h
      obtain ⟨rfl, hz1⟩ := prod2 hz0
      obtain rfl := hz1
      refine ps_en (en_arr (sps' := Row (un .u8) 5 (.slice none 0 0) ([] : List Nat) :: sps) (Arr.cons Rem.here (Arr.sub (List.Sublist.cons _ (List.Sublist.cons _ (List.Sublist.refl _)))))) ?_
      rintro _ _ ⟨rfl, rfl⟩
      refine ps_en (en_keep (rs) (fun r hr => hr)) ?_
      rintro _ _ ⟨rfl, rfl⟩
      apply ps_end2 rfl Tryz.results13 rfl rfl
      · exact ⟨_, rfl, rfl, rfl⟩
      · exact .mk .refl .refl
    · refine c_move rfl rfl rfl rfl (v := (.int .i64 p1)) rfl ?_
      refine c_move rfl rfl rfl rfl (v := (.slice A1 y1.length c1)) rfl ?_
      refine l_len (m := y1.length) rfl rfl rfl rfl Tryz.underlying25 rfl ?_
      refine c_geq (p := p1) (q := ((y1.length : Nat) : Int)) rfl rfl rfl rfl rfl rfl ?_
      refine c_pick rfl rfl rfl rfl rfl (by conv => lhs; whnf) ?_
      refine can_nil ?_
      refine ps_then ?_
      refine cs_condL (b := (decide (p1 ≥ ((y1.length : Nat) : Int)))) rfl h (fun hc1 h => ?_) (fun hc1 h => ?_)
      · refine cs_seq ?_
        refine cs_seq_region [0, 1] rfl ?_
        refine c_assign rfl rfl rfl rfl (v := (.slice none 0 0)) rfl ?_
        refine c_assign rfl rfl rfl rfl (v := (.int .i64 (1 : Int))) rfl ?_
        refine can_nil ?_
        refine ps_then ?_
        refine cs_ret ?_
        refine ps_then_ret ?_
        refine ps_en (en_nilRow (un .u8) 5) ?_
        rintro _ _ ⟨rfl, rfl⟩
        have hz0 := Option.some.inj h
        obtain ⟨rfl, hz1⟩ := prod2 hz0
        obtain rfl := hz1
        refine ps_en (en_arr (sps' := Row (un .u8) 5 (.slice none 0 0) ([] : List Nat) :: sps) (Arr.cons Rem.here (Arr.sub (List.Sublist.cons _ (List.Sublist.cons _ (List.Sublist.refl _)))))) ?_
        rintro _ _ ⟨rfl, rfl⟩
        refine ps_en (en_keep (rs) (fun r hr => hr)) ?_
        rintro _ _ ⟨rfl, rfl⟩
        apply ps_end2 rfl Tryz.results13 rfl rfl
        · exact ⟨_, rfl, rfl, rfl⟩
        · exact .mk .refl .refl
      · refine cs_skip ?_
        refine ps_then ?_
        refine cs_seq ?_
        refine cs_seq_region [0, 1, 2, 3, 4, 5, 6, 7, 8, 9] rfl ?_
        refine c_fieldAddr rfl rfl rfl rfl Tryz.underlying24 rfl Tryz.sizeOf22 rfl rfl ?_
        refine c_load1 (v := (.slice Ap0_3 p0_3.length cp0_3)) rfl rfl rfl Tryz.isAgg22 rfl (ldS rfl rfl (.tail _ (.head _)) (sub1 rfl)) ?_
        refine c_fieldAddr rfl rfl rfl rfl Tryz.underlying24 rfl Tryz.sizeOf2 rfl rfl ?_
        refine c_load1 (v := (.int .i64 p0_4)) rfl rfl rfl Tryz.isAgg2 rfl (ldS rfl rfl (.tail _ (.head _)) (sub1 rfl)) ?_
        obtain ⟨⟨y3, y4⟩, hy2, h⟩ := bnd h
        replace h := un2_ h
        refine c_call rfl rfl rfl rfl Tryz.call43 (lf_ref06_Leaves_ok K p0_3 p0_4 (.slice Ap0_3 p0_3.length cp0_3) w0 _ _ hv_p0_3 hy2) rfl (fun _ _ _ _ => Or.inl rfl) ?_
        rintro _ _ _ ⟨v2, rfl, rfl, rfl⟩
        refine can_en (en_rowShape (xs := y3) (.head _)) ?_
        rintro _ _ ⟨rfl, rfl, A2, c2, rfl, -, -, -⟩
        refine c_move rfl rfl rfl rfl (v := (.tuple #[(.slice A2 y3.length c2), (.int .i64 y4)])) rfl ?_
        refine c_extract rfl rfl rfl rfl rfl rfl ?_
        refine c_extract rfl rfl rfl rfl rfl rfl ?_
        refine c_assign rfl rfl rfl rfl (v := (.slice A2 y3.length c2)) rfl ?_
        refine c_assign rfl rfl rfl rfl (v := (.int .i64 y4)) rfl ?_
        refine can_nil ?_
        refine ps_then ?_
        refine cs_seq ?_
        refine cs_seq_region [0, 1, 2, 3, 4, 5, 6, 7] rfl ?_
        refine c_move rfl rfl rfl rfl (v := (.slice A2 y3.length c2)) rfl ?_
        refine c_move rfl rfl rfl rfl (v := (.int .i64 p1)) rfl ?_
        refine can_en (en_give Rem.here) ?_
        rintro _ _ ⟨rfl, rfl⟩
        obtain ⟨⟨y5, y6⟩, hy3, h⟩ := bnd h
        replace h := un2_ h
        refine c_call rfl rfl rfl rfl Tryz.call44 (lf_ref06_Prove_ok K y3 p1 (.slice A2 y3.length c2) w0 _ _ (.head _) hy3) rfl (fun _ _ _ _ => Or.inl rfl) ?_
        rintro _ _ _ ⟨v3, rfl, rfl, rfl⟩
        refine can_en (en_rowShape (xs := y5) (.head _)) ?_
        rintro _ _ ⟨rfl, rfl, A3, c3, rfl, -, -, -⟩
        refine c_move rfl rfl rfl rfl (v := (.tuple #[(.slice A3 y5.length c3), (.int .i64 y6)])) rfl ?_
        refine c_extract rfl rfl rfl rfl rfl rfl ?_
        refine c_extract rfl rfl rfl rfl rfl rfl ?_
        refine c_assign rfl rfl rfl rfl (v := (.slice A3 y5.length c3)) rfl ?_
        refine c_assign rfl rfl rfl rfl (v := (.int .i64 y6)) rfl ?_
        refine can_nil ?_
        refine ps_then ?_
        refine cs_seq ?_
        refine cs_seq_region [0, 1, 2, 3, 4, 5, 6, 7] rfl ?_
        refine c_move rfl rfl rfl rfl (v := (.slice A1 y1.length c1)) rfl ?_
        refine c_move rfl rfl rfl rfl (v := (.int .i64 p1)) rfl ?_
        obtain ⟨y7, hy4, h⟩ := bnd h
        refine can_en (en_give (Rem.there Rem.here)) ?_
        rintro _ _ ⟨rfl, rfl⟩
        refine can_en (en_ptr (.head _) (by have := getO_lt hy4; omega)) ?_
        rintro _ _ ⟨rfl, rfl, g2, o1, rfl⟩
        refine can_en (open_Rep_slice_un_u8 (.head _) hy4) ?_
        rintro _ _ ⟨A4, c4, rfl, rfl⟩
        refine c_indexAddrS (p := p1) rfl rfl rfl rfl Tryz.underlying25 Tryz.sizeOf22 rfl rfl (by have := getO_lt hy4; omega) ?_
        refine c_load1 (v := (.slice A4 y7.length c4)) rfl rfl rfl Tryz.isAgg22 rfl (ldSC (off := o1 + (p1 : Int).toNat * 1) (k := 0) rfl rfl (.head _) (sub1 rfl)) ?_
        refine c_move rfl rfl rfl rfl (v := (.slice A3 y5.length c3)) rfl ?_
        refine can_en (en_give Rem.here) ?_
        rintro _ _ ⟨rfl, rfl⟩
        obtain ⟨y8, hy5, h⟩ := bnd h
        refine c_call rfl rfl rfl rfl Tryz.call45 (lf_ref15_Sent_ok K y7 y5 (.slice A4 y7.length c4) (.slice A3 y5.length c3) w0 _ _ (.tail _ (.tail _ (.head _))) (.head _) hy5) rfl (fun _ _ _ _ => Or.inl rfl) ?_
        rintro _ _ _ ⟨v4, rfl, rfl, rfl⟩
        refine can_en (en_rowShape (xs := y8) (.head _)) ?_
        rintro _ _ ⟨rfl, rfl, A5, c5, rfl, -, -, -⟩
        refine c_assign rfl rfl rfl rfl (v := (.slice A5 y8.length c5)) rfl ?_
        refine c_assign rfl rfl rfl rfl (v := (.int .i64 (0 : Int))) rfl ?_
        refine can_nil ?_
        refine ps_then ?_
        refine cs_ret ?_
        have hz0 := Option.some.inj h
        obtain ⟨rfl, hz1⟩ := prod2 hz0
        obtain rfl := hz1
        refine ps_en (en_arr (sps' := Row (un .u8) 5 (.slice A5 y8.length c5) y8 :: sps) (Arr.cons Rem.here (Arr.sub (List.Sublist.cons _ (List.Sublist.refl _))))) ?_
        rintro _ _ ⟨rfl, rfl⟩
        refine ps_en (en_keep (rs) (fun r hr => (.tail _ (.tail _ (.tail _ (.tail _ (.tail _ hr))))))) ?_
        rintro _ _ ⟨rfl, rfl⟩
        apply ps_end2 rfl Tryz.results13 rfl rfl
        · exact ⟨_, rfl, rfl, rfl⟩
        · exact .mk .refl .refl
def lf_ref16_Answer (K : Nat) (p0_0 : (List Nat)) (p0_1 : (List Nat)) (p0_2 : (List Nat)) (p0_3 : (List Nat)) (p0_4 : Int) (p1 : (List (List Nat))) (p2_0 : Int) (p2_1 : Int) (p2_2 : Int) : Option ((List Nat) × Int) := (bif (decide (p2_0 = (1 : Int))) then (bif (decide (p2_1 > (1 : Int))) then (bif (decide (p2_1 < (IntKind.wrap .i64 (((p1.length : Nat) : Int) + (2 : Int))))) then ((getO p1 (IntKind.wrap .i64 (p2_1 - (2 : Int)))).bind fun y1 => (some (y1, (0 : Int)))) else (some (([] : List Nat), (0 : Int)))) else (some (([] : List Nat), (0 : Int)))) else (bif (decide (p2_0 = (5 : Int))) then ((lf_ref16_Chunk K p0_0 p0_1 p0_2 p0_3 p0_4 p2_2).bind (fun qy2 => un2 qy2 (fun y2 => fun y3 => (some (y2, y3))))) else (bif (decide (p2_0 < (1 : Int))) then (some (([] : List Nat), (1 : Int))) else (bif (decide (p2_0 > (5 : Int))) then (some (([] : List Nat), (1 : Int))) else ((getO ([p0_0, p0_1, p0_2] : List (List Nat)) (IntKind.wrap .i64 (p2_0 - (2 : Int)))).bind fun y4 => (some (y4, (0 : Int))))))))
theorem lf_ref16_Answer_ok (K : Nat) (p0_0 : (List Nat)) (p0_1 : (List Nat)) (p0_2 : (List Nat)) (p0_3 : (List Nat)) (p0_4 : Int) (p1 : (List (List Nat))) (p2_0 : Int) (p2_1 : Int) (p2_2 : Int) (vp0_0 : Value) (vp0_1 : Value) (vp0_2 : Value) (vp0_3 : Value) (vp1 : Value) (w0 : World) (sps : List Sp) (rs : List Fa) (hv_p0_0 : Rd (un .u8) vp0_0 p0_0 ∈ rs) (hv_p0_1 : Rd (un .u8) vp0_1 p0_1 ∈ rs) (hv_p0_2 : Rd (un .u8) vp0_2 p0_2 ∈ rs) (hv_p0_3 : Rd (un .u8) vp0_3 p0_3 ∈ rs) (hv_p1 : Rd (Rep.slice (un .u8)) vp1 p1 ∈ rs) {r0 : (List Nat)} {r1 : Int} (h : lf_ref16_Answer K p0_0 p0_1 p0_2 p0_3 p0_4 p1 p2_0 p2_1 p2_2 = some (r0, r1)) : FnOk Tryz.prog 11 #[.agg #[vp0_0, vp0_1, vp0_2, vp0_3, .int .i64 p0_4], vp1, .agg #[.int .i64 p2_0, .int .i64 p2_1, .int .i64 p2_2]] w0 sps rs (fun v s q => ∃ (qr0 : Value), v = .tuple #[qr0, .int .i64 r1] ∧ sps = s ∧ Rd (un .u8) qr0 r0 :: rs = q) := by
  unfold lf_ref16_Answer at h
  refine fn_en (en_shape hv_p0_0) ?_
  rintro _ _ ⟨rfl, rfl, Ap0_0, cp0_0, rfl, -, -, -⟩
  refine fn_en (en_shape hv_p0_1) ?_
  rintro _ _ ⟨rfl, rfl, Ap0_1, cp0_1, rfl, -, -, -⟩
  refine fn_en (en_shape hv_p0_2) ?_
  rintro _ _ ⟨rfl, rfl, Ap0_2, cp0_2, rfl, -, -, -⟩
  refine fn_en (en_shape hv_p0_3) ?_
  rintro _ _ ⟨rfl, rfl, Ap0_3, cp0_3, rfl, -, -, -⟩
  refine fn_en (en_shape hv_p1) ?_
  rintro _ _ ⟨rfl, rfl, Ap1, cp1, rfl, -, -, -⟩
  refine fn_enter Tryz.func11 rfl Tryz.ntmps11 rfl ?_
  refine cs_seq ?_
  refine cs_seq_region [0, 1, 2, 3] rfl ?_
  refine c_box (cs := [(.slice Ap0_0 p0_0.length cp0_0), (.slice Ap0_1 p0_1.length cp0_1), (.slice Ap0_2 p0_2.length cp0_2), (.slice Ap0_3 p0_3.length cp0_3), (.int .i64 p0_4)]) rfl rfl rfl rfl rfl (fun _ => Or.inl rfl) (fun g1 => ?_)
  refine c_box (cs := [(.int .i64 p2_0), (.int .i64 p2_1), (.int .i64 p2_2)]) rfl rfl rfl rfl rfl (fun _ => Or.inl rfl) (fun g2 => ?_)
  refine c_assign rfl rfl rfl rfl (v := (.slice none 0 0)) rfl ?_
  refine c_assign rfl rfl rfl rfl (v := (.int .i64 (0 : Int))) rfl ?_
  refine can_nil ?_
  refine ps_then ?_
  refine cs_seq ?_
  refine cs_seq ?_
  refine cs_seq_region [0, 1, 2] rfl ?_
  refine c_fieldAddr rfl rfl rfl rfl Tryz.underlying27 rfl Tryz.sizeOf3 rfl rfl ?_
  refine c_load1 (v := (.int .i64 p2_0)) rfl rfl rfl Tryz.isAgg3 rfl (ldS rfl rfl (.head _) (sub1 rfl)) ?_
  refine l_eqlI (p := p2_0) (q := (1 : Int)) rfl rfl rfl rfl rfl rfl ?_
  refine can_nil ?_
  refine ps_then ?_
  refine cs_condL (b := (decide (p2_0 = (1 : Int)))) rfl h (fun hc1 h => ?_) (fun hc1 h => ?_)
  · refine cs_seq ?_
    refine cs_seq ?_
    refine cs_seq_region [0, 1, 2, 3, 4, 5, 6, 7, 8, 9, 10] rfl ?_
    refine c_fieldAddr rfl rfl rfl rfl Tryz.underlying27 rfl Tryz.sizeOf2 rfl rfl ?_
    refine c_load1 (v := (.int .i64 p2_1)) rfl rfl rfl Tryz.isAgg2 rfl (ldS rfl rfl (.head _) (sub1 rfl)) ?_
    refine c_gtr (p := p2_1) (q := (1 : Int)) rfl rfl rfl rfl rfl rfl ?_
    refine c_move rfl rfl rfl rfl (v := (.bool (decide (p2_1 > (1 : Int))))) rfl ?_
    refine can_splitL 14 (b := (decide (p2_1 > (1 : Int)))) rfl h (fun hg1 h => ?_) (fun hg1 h => ?_)
    · refine c_fieldAddr rfl rfl rfl rfl Tryz.underlying27 rfl Tryz.sizeOf2 rfl rfl ?_
      refine c_load1 (v := (.int .i64 p2_1)) rfl rfl rfl Tryz.isAgg2 rfl (ldS rfl rfl (.head _) (sub1 rfl)) ?_
      refine c_move rfl rfl rfl rfl (v := (.slice Ap1 p1.length cp1)) rfl ?_
      refine l_len (m := p1.length) rfl rfl rfl rfl Tryz.underlying25 rfl ?_
      refine c_add (p := ((p1.length : Nat) : Int)) (q := (2 : Int)) rfl rfl rfl rfl rfl rfl ?_
      refine c_lss (p := p2_1) (q := (IntKind.wrap .i64 (((p1.length : Nat) : Int) + (2 : Int)))) rfl rfl rfl rfl rfl rfl ?_
      refine c_pick rfl rfl rfl rfl rfl (by conv => lhs; whnf) ?_
      refine can_nil ?_
      refine ps_then ?_
      refine cs_condL (b := (decide (p2_1 < (IntKind.wrap .i64 (((p1.length : Nat) : Int) + (2 : Int)))))) rfl h (fun hc2 h => ?_) (fun hc2 h => ?_)
      · refine cs_seq ?_
        refine cs_seq_region [0, 1, 2, 3, 4, 5, 6, 7] rfl ?_
        refine c_move rfl rfl rfl rfl (v := (.slice Ap1 p1.length cp1)) rfl ?_
        refine c_fieldAddr rfl rfl rfl rfl Tryz.underlying27 rfl Tryz.sizeOf2 rfl rfl ?_
        refine c_load1 (v := (.int .i64 p2_1)) rfl rfl rfl Tryz.isAgg2 rfl (ldS rfl rfl (.head _) (sub1 rfl)) ?_
        refine c_sub (p := p2_1) (q := (2 : Int)) rfl rfl rfl rfl rfl rfl ?_
        obtain ⟨y1, hy1, h⟩ := bnd h
        refine can_en (en_ptr hv_p1 (by have := getO_lt hy1; omega)) ?_
        rintro _ _ ⟨rfl, rfl, g3, o1, rfl⟩
        refine can_en (open_Rep_slice_un_u8 hv_p1 hy1) ?_
        rintro _ _ ⟨A1, c1, rfl, rfl⟩
        refine c_indexAddrS (p := (IntKind.wrap .i64 (p2_1 - (2 : Int)))) rfl rfl rfl rfl Tryz.underlying25 Tryz.sizeOf22 rfl rfl (by have := getO_lt hy1; omega) ?_
        refine c_load1 (v := (.slice A1 y1.length c1)) rfl rfl rfl Tryz.isAgg22 rfl (ldSC (off := o1 + ((IntKind.wrap .i64 (p2_1 - (2 : Int))) : Int).toNat * 1) (k := 0) rfl rfl (.head _) (sub1 rfl)) ?_
        refine c_assign rfl rfl rfl rfl (v := (.slice A1 y1.length c1)) rfl ?_
        refine c_assign rfl rfl rfl rfl (v := (.int .i64 (0 : Int))) rfl ?_
        refine can_nil ?_
        refine ps_then ?_
        refine cs_ret ?_
        refine ps_then_ret ?_
        refine ps_then_ret ?_
        have hz0 := Option.some.inj h
        obtain ⟨rfl, hz1⟩ := prod2 hz0
        obtain rfl := hz1
        refine ps_en (en_arr (sps' := sps) (Arr.sub (List.Sublist.cons _ (List.Sublist.cons _ (List.Sublist.refl _))))) ?_
        rintro _ _ ⟨rfl, rfl⟩
        refine ps_en (en_keep (Rd (un .u8) (.slice A1 y1.length c1) y1 :: rs) (List.forall_mem_cons.2 ⟨(.tail _ (.head _)), fun r hr => (.tail _ (.tail _ hr))⟩)) ?_
        rintro _ _ ⟨rfl, rfl⟩
        apply ps_end2 rfl Tryz.results11 rfl rfl
        · exact ⟨_, rfl, rfl, rfl⟩
        · exact .mk .refl .refl
      · refine cs_skip ?_
        refine ps_then ?_
        refine cs_seq ?_
        refine cs_seq_region [0, 1] rfl ?_
        refine c_assign rfl rfl rfl rfl (v := (.slice none 0 0)) rfl ?_
        refine c_assign rfl rfl rfl rfl (v := (.int .i64 (0 : Int))) rfl ?_
        refine can_nil ?_
        refine ps_then ?_
        refine cs_ret ?_
        refine ps_then_ret ?_
        refine ps_en (en_nilRd (un .u8)) ?_
        rintro _ _ ⟨rfl, rfl⟩
        have hz0 := Option.some.inj h
        obtain ⟨rfl, hz1⟩ := prod2 hz0
        obtain rfl := hz1
        refine ps_en (en_arr (sps' := sps) (Arr.sub (List.Sublist.cons _ (List.Sublist.cons _ (List.Sublist.refl _))))) ?_
        rintro _ _ ⟨rfl, rfl⟩
        refine ps_en (en_keep (Rd (un .u8) (.slice none 0 0) ([] : List Nat) :: rs) (List.forall_mem_cons.2 ⟨(.head _), fun r hr => (.tail _ hr)⟩)) ?_
        rintro _ _ ⟨rfl, rfl⟩
        apply ps_end2 rfl Tryz.results11 rfl rfl
        · exact ⟨_, rfl, rfl, rfl⟩
        · exact .mk .refl .refl
    · refine can_skip rfl rfl rfl (Or.inl rfl) ?_
      refine can_skip rfl rfl rfl (Or.inl rfl) ?_
      refine can_skip rfl rfl rfl (Or.inl rfl) ?_
      refine can_skip rfl rfl rfl (Or.inl rfl) ?_
      refine can_skip rfl rfl rfl (Or.inl rfl) ?_
      refine can_skip rfl rfl rfl (Or.inl rfl) ?_
      refine c_pick rfl rfl rfl rfl rfl (by conv => lhs; whnf) ?_
      refine can_nil ?_
      refine ps_then ?_
      refine cs_false rfl ?_
      refine cs_skip ?_
      refine ps_then ?_
      refine cs_seq ?_
      refine cs_seq_region [0, 1] rfl ?_
      refine c_assign rfl rfl rfl rfl (v := (.slice none 0 0)) rfl ?_
      refine c_assign rfl rfl rfl rfl (v := (.int .i64 (0 : Int))) rfl ?_
      refine can_nil ?_
      refine ps_then ?_
      refine cs_ret ?_
      refine ps_then_ret ?_
      refine ps_en (en_nilRd (un .u8)) ?_
      rintro _ _ ⟨rfl, rfl⟩
      have hz0 := Option.some.inj h
      obtain ⟨rfl, hz1⟩ := prod2 hz0
      obtain rfl := hz1
      refine ps_en (en_arr (sps' := sps) (Arr.sub (List.Sublist.cons _ (List.Sublist.cons _ (List.Sublist.refl _))))) ?_
      rintro _ _ ⟨rfl, rfl⟩
      refine ps_en (en_keep (Rd (un .u8) (.slice none 0 0) ([] : List Nat) :: rs) (List.forall_mem_cons.2 ⟨(.head _), fun r hr => (.tail _ hr)⟩)) ?_
      rintro _ _ ⟨rfl, rfl⟩
      apply ps_end2 rfl Tryz.results11 rfl rfl
      · exact ⟨_, rfl, rfl, rfl⟩
      · exact .mk .refl .refl
  · refine cs_skip ?_
    refine ps_then ?_
    refine cs_seq ?_
    refine cs_seq ?_
    refine cs_seq_region [0, 1, 2] rfl ?_
    refine c_fieldAddr rfl rfl rfl rfl Tryz.underlying27 rfl Tryz.sizeOf3 rfl rfl ?_
    refine c_load1 (v := (.int .i64 p2_0)) rfl rfl rfl Tryz.isAgg3 rfl (ldS rfl rfl (.head _) (sub1 rfl)) ?_
    refine l_eqlI (p := p2_0) (q := (5 : Int)) rfl rfl rfl rfl rfl rfl ?_
    refine can_nil ?_
    refine ps_then ?_
    refine cs_condL (b := (decide (p2_0 = (5 : Int)))) rfl h (fun hc3 h => ?_) (fun hc3 h => ?_)
    · refine cs_seq ?_
      refine cs_seq_region [0, 1, 2, 3, 4, 5, 6, 7] rfl ?_
      refine c_loadN (cs := [(.slice Ap0_0 p0_0.length cp0_0), (.slice Ap0_1 p0_1.length cp0_1), (.slice Ap0_2 p0_2.length cp0_2), (.slice Ap0_3 p0_3.length cp0_3), (.int .i64 p0_4)]) rfl rfl rfl Tryz.isAgg24 Tryz.sizeOf24 rfl (ldS rfl rfl (.tail _ (.head _)) (subN (m := 5) rfl)) rfl ?_
      refine c_fieldAddr rfl rfl rfl rfl Tryz.underlying27 rfl Tryz.sizeOf3 rfl rfl ?_
      refine c_load1 (v := (.int .i64 p2_2)) rfl rfl rfl Tryz.isAgg3 rfl (ldS rfl rfl (.head _) (sub1 rfl)) ?_
      obtain ⟨⟨y2, y3⟩, hy2, h⟩ := bnd h
      replace h := un2_ h
      refine c_call rfl rfl rfl rfl Tryz.call13 (lf_ref16_Chunk_ok K p0_0 p0_1 p0_2 p0_3 p0_4 p2_2 (.slice Ap0_0 p0_0.length cp0_0) (.slice Ap0_1 p0_1.length cp0_1) (.slice Ap0_2 p0_2.length cp0_2) (.slice Ap0_3 p0_3.length cp0_3) w0 _ _ hv_p0_0 hv_p0_1 hv_p0_2 hv_p0_3 hy2) rfl (fun _ _ _ _ => Or.inl rfl) ?_
      rintro _ _ _ ⟨v1, rfl, rfl, rfl⟩
      refine can_en (en_rowShape (xs := y2) (.head _)) ?_
      rintro _ _ ⟨rfl, rfl, A2, c2, rfl, -, -, -⟩
      refine c_extract rfl rfl rfl rfl rfl rfl ?_
      refine c_extract rfl rfl rfl rfl rfl rfl ?_
      refine c_assign rfl rfl rfl rfl (v := (.slice A2 y2.length c2)) rfl ?_
      refine c_assign rfl rfl rfl rfl (v := (.int .i64 y3)) rfl ?_
      refine can_nil ?_
      refine ps_then ?_
      refine cs_ret ?_
      refine ps_then_ret ?_
      refine ps_en (en_give Rem.here) ?_
      rintro _ _ ⟨rfl, rfl⟩
      have hz0 := Option.some.inj h
      obtain ⟨rfl, hz1⟩ := prod2 hz0
      obtain rfl := hz1
      refine ps_en (en_arr (sps' := sps) (Arr.sub (List.Sublist.cons _ (List.Sublist.cons _ (List.Sublist.refl _))))) ?_
      rintro _ _ ⟨rfl, rfl⟩
      refine ps_en (en_keep (Rd (un .u8) (.slice A2 y2.length c2) y2 :: rs) (List.forall_mem_cons.2 ⟨(.head _), fun r hr => (.tail _ hr)⟩)) ?_
      rintro _ _ ⟨rfl, rfl⟩
      apply ps_end2 rfl Tryz.results11 rfl rfl
      · exact ⟨_, rfl, rfl, rfl⟩
      · exact .mk .refl .refl
    · refine cs_skip ?_
      refine ps_then ?_
      refine cs_seq ?_
      refine cs_seq ?_
      refine cs_seq_region [0, 1, 2, 3, 4, 5, 6, 7] rfl ?_
      refine c_fieldAddr rfl rfl rfl rfl Tryz.underlying27 rfl Tryz.sizeOf3 rfl rfl ?_
      refine c_load1 (v := (.int .i64 p2_0)) rfl rfl rfl Tryz.isAgg3 rfl (ldS rfl rfl (.head _) (sub1 rfl)) ?_
      refine c_lss (p := p2_0) (q := (1 : Int)) rfl rfl rfl rfl rfl rfl ?_
      refine c_move rfl rfl rfl rfl (v := (.bool (decide (p2_0 < (1 : Int))))) rfl ?_
      refine can_splitL 40 (b := (decide (p2_0 < (1 : Int)))) rfl h (fun hg2 h => ?_) (fun hg2 h => ?_)
      · refine can_skip rfl rfl rfl (Or.inl rfl) ?_
        refine can_skip rfl rfl rfl (Or.inl rfl) ?_
        refine can_skip rfl rfl rfl (Or.inl rfl) ?_
        refine c_pick rfl rfl rfl rfl rfl (by conv => lhs; whnf) ?_
        refine can_nil ?_
        refine ps_then ?_
        refine cs_true rfl ?_
        refine cs_seq ?_
        refine cs_seq_region [0, 1] rfl ?_
        refine c_assign rfl rfl rfl rfl (v := (.slice none 0 0)) rfl ?_
        refine c_assign rfl rfl rfl rfl (v := (.int .i64 (1 : Int))) rfl ?_
        refine can_nil ?_
        refine ps_then ?_
        refine cs_ret ?_
        refine ps_then_ret ?_
        refine ps_en (en_nilRd (un .u8)) ?_
        rintro _ _ ⟨rfl, rfl⟩
        have hz0 := Option.some.inj h
        obtain ⟨rfl, hz1⟩ := prod2 hz0
        obtain rfl := hz1
        refine ps_en (en_arr (sps' := sps) (Arr.sub (List.Sublist.cons _ (List.Sublist.cons _ (List.Sublist.refl _))))) ?_
        rintro _ _ ⟨rfl, rfl⟩
        refine ps_en (en_keep (Rd (un .u8) (.slice none 0 0) ([] : List Nat) :: rs) (List.forall_mem_cons.2 ⟨(.head _), fun r hr => (.tail _ hr)⟩)) ?_
        rintro _ _ ⟨rfl, rfl⟩
        apply ps_end2 rfl Tryz.results11 rfl rfl
        · exact ⟨_, rfl, rfl, rfl⟩
        · exact .mk .refl .refl
      · refine c_fieldAddr rfl rfl rfl rfl Tryz.underlying27 rfl Tryz.sizeOf3 rfl rfl ?_
        refine c_load1 (v := (.int .i64 p2_0)) rfl rfl rfl Tryz.isAgg3 rfl (ldS rfl rfl (.head _) (sub1 rfl)) ?_
        refine c_gtr (p := p2_0) (q := (5 : Int)) rfl rfl rfl rfl rfl rfl ?_
        refine c_pick rfl rfl rfl rfl rfl (by conv => lhs; whnf) ?_
        refine can_nil ?_
        refine ps_then ?_
        refine cs_condL (b := (decide (p2_0 > (5 : Int)))) rfl h (fun hc4 h => ?_) (fun hc4 h => ?_)
        · refine cs_seq ?_
          refine cs_seq_region [0, 1] rfl ?_
          refine c_assign rfl rfl rfl rfl (v := (.slice none 0 0)) rfl ?_
          refine c_assign rfl rfl rfl rfl (v := (.int .i64 (1 : Int))) rfl ?_
          refine can_nil ?_
          refine ps_then ?_
          refine cs_ret ?_
          refine ps_then_ret ?_
          refine ps_en (en_nilRd (un .u8)) ?_
          rintro _ _ ⟨rfl, rfl⟩
          have hz0 := Option.some.inj h
          obtain ⟨rfl, hz1⟩ := prod2 hz0
          obtain rfl := hz1
          refine ps_en (en_arr (sps' := sps) (Arr.sub (List.Sublist.cons _ (List.Sublist.cons _ (List.Sublist.refl _))))) ?_
          rintro _ _ ⟨rfl, rfl⟩
          refine ps_en (en_keep (Rd (un .u8) (.slice none 0 0) ([] : List Nat) :: rs) (List.forall_mem_cons.2 ⟨(.head _), fun r hr => (.tail _ hr)⟩)) ?_
          rintro _ _ ⟨rfl, rfl⟩
          apply ps_end2 rfl Tryz.results11 rfl rfl
          · exact ⟨_, rfl, rfl, rfl⟩
          · exact .mk .refl .refl
        · refine cs_skip ?_
          refine ps_then ?_
          refine cs_seq ?_
          refine cs_seq_region [0, 1, 2, 3, 4, 5, 6, 7, 8, 9, 10, 11, 12, 13] rfl ?_
          refine c_fieldAddr rfl rfl rfl rfl Tryz.underlying24 rfl Tryz.sizeOf22 rfl rfl ?_
          refine c_load1 (v := (.slice Ap0_0 p0_0.length cp0_0)) rfl rfl rfl Tryz.isAgg22 rfl (ldS rfl rfl (.tail _ (.head _)) (sub1 rfl)) ?_
          refine c_fieldAddr rfl rfl rfl rfl Tryz.underlying24 rfl Tryz.sizeOf22 rfl rfl ?_
          refine c_load1 (v := (.slice Ap0_1 p0_1.length cp0_1)) rfl rfl rfl Tryz.isAgg22 rfl (ldS rfl rfl (.tail _ (.head _)) (sub1 rfl)) ?_
          refine c_fieldAddr rfl rfl rfl rfl Tryz.underlying24 rfl Tryz.sizeOf22 rfl rfl ?_
          refine c_load1 (v := (.slice Ap0_2 p0_2.length cp0_2)) rfl rfl rfl Tryz.isAgg22 rfl (ldS rfl rfl (.tail _ (.head _)) (sub1 rfl)) ?_
          refine c_lit (cs := [(.slice Ap0_0 p0_0.length cp0_0), (.slice Ap0_1 p0_1.length cp0_1), (.slice Ap0_2 p0_2.length cp0_2)]) rfl rfl rfl rfl Tryz.underlying25 Tryz.sizeOf22 Tryz.zeroValue22 rfl rfl rfl rfl rfl (fun _ => Or.inl rfl) (fun g4 => ?_)
          refine can_en (en_litRow (m := 3) (dr := (Rep.slice (un .u8))) (xs := ([p0_0, p0_1, p0_2] : List (List Nat))) Rem.here (fun hh hr => (((Reps.nil (Rep.slice (un .u8)) _).snoc (x := p0_0) (c := [(.slice Ap0_0 p0_0.length cp0_0)]) ⟨_, rfl, hr _ hv_p0_0⟩).snoc (x := p0_1) (c := [(.slice Ap0_1 p0_1.length cp0_1)]) ⟨_, rfl, hr _ hv_p0_1⟩).snoc (x := p0_2) (c := [(.slice Ap0_2 p0_2.length cp0_2)]) ⟨_, rfl, hr _ hv_p0_2⟩) rfl rfl) ?_
          rintro _ _ ⟨rfl, rfl⟩
          refine c_fieldAddr rfl rfl rfl rfl Tryz.underlying27 rfl Tryz.sizeOf3 rfl rfl ?_
          refine c_load1 (v := (.int .i64 p2_0)) rfl rfl rfl Tryz.isAgg3 rfl (ldS rfl rfl (.tail _ (.head _)) (sub1 rfl)) ?_
          refine c_sub (p := p2_0) (q := (2 : Int)) rfl rfl rfl rfl rfl rfl ?_
          obtain ⟨y4, hy3, h⟩ := bnd h
          refine can_en (en_give Rem.here) ?_
          rintro _ _ ⟨rfl, rfl⟩
          refine can_en (open_Rep_slice_un_u8 (.head _) hy3) ?_
          rintro _ _ ⟨A3, c3, rfl, rfl⟩
          refine can_en (en_len (.tail _ (.tail _ (.head _)))) ?_
          rintro _ _ ⟨rfl, rfl, hln1⟩
          refine c_indexAddrS (p := (IntKind.wrap .i64 (p2_0 - (2 : Int)))) rfl rfl rfl rfl Tryz.underlying25 Tryz.sizeOf22 rfl rfl (by have := getO_lt hy3; omega) ?_
          refine c_load1 (v := (.slice A3 y4.length c3)) rfl rfl rfl Tryz.isAgg22 rfl (ldSC (off := 0 + ((IntKind.wrap .i64 (p2_0 - (2 : Int))) : Int).toNat * 1) (k := 0) rfl rfl (.head _) (sub1 rfl)) ?_
          refine c_assign rfl rfl rfl rfl (v := (.slice A3 y4.length c3)) rfl ?_
          refine c_assign rfl rfl rfl rfl (v := (.int .i64 (0 : Int))) rfl ?_
          refine can_nil ?_
          refine ps_then ?_
          refine cs_ret ?_
          have hz0 := Option.some.inj h
          obtain ⟨rfl, hz1⟩ := prod2 hz0
          obtain rfl := hz1
          refine ps_en (en_arr (sps' := sps) (Arr.sub (List.Sublist.cons _ (List.Sublist.cons _ (List.Sublist.refl _))))) ?_
          rintro _ _ ⟨rfl, rfl⟩
          refine ps_en (en_keep (Rd (un .u8) (.slice A3 y4.length c3) y4 :: rs) (List.forall_mem_cons.2 ⟨(.tail _ (.head _)), fun r hr => (.tail _ (.tail _ (.tail _ hr)))⟩)) ?_
          rintro _ _ ⟨rfl, rfl⟩
          apply ps_end2 rfl Tryz.results11 rfl rfl
          · exact ⟨_, rfl, rfl, rfl⟩
          · exact .mk .refl .refl
def lf_ref01_SameBytes (K : Nat) (p0 : (List Nat)) (p1 : (List Nat)) : Option Bool := (some ((strB p0).toList == (strB p1).toList))
theorem lf_ref01_SameBytes_ok (K : Nat) (p0 : (List Nat)) (p1 : (List Nat)) (vp0 : Value) (vp1 : Value) (w0 : World) (sps : List Sp) (rs : List Fa) (hv_p0 : Rd (un .u8) vp0 p0 ∈ rs) (hv_p1 : Rd (un .u8) vp1 p1 ∈ rs) {r0 : Bool} (h : lf_ref01_SameBytes K p0 p1 = some r0) : FnOk Tryz.prog 14 #[vp0, vp1] w0 sps rs (fun v s q => v = .bool r0 ∧ sps = s ∧ rs = q) := by
  unfold lf_ref01_SameBytes at h
  refine fn_en (en_shape hv_p0) ?_
  rintro _ _ ⟨rfl, rfl, Ap0, cp0, rfl, -, -, -⟩
  refine fn_en (en_shape hv_p1) ?_
  rintro _ _ ⟨rfl, rfl, Ap1, cp1, rfl, -, -, -⟩
  refine fn_enter Tryz.func14 rfl Tryz.ntmps14 rfl ?_
  refine cs_seq ?_
  refine cs_seq_region [0] rfl ?_
  refine c_assign rfl rfl rfl rfl (v := (.bool false)) rfl ?_
  refine can_nil ?_
  refine ps_then ?_
  refine cs_seq ?_
  refine cs_seq_region [0, 1, 2, 3, 4, 5] rfl ?_
  refine c_move rfl rfl rfl rfl (v := (.slice Ap0 p0.length cp0)) rfl ?_
  refine l_str (xs := p0) rfl rfl rfl rfl Tryz.underlying22 Tryz.underlying5 Tryz.underlying9 (.inl ⟨rfl, rfl, hv_p0⟩) ?_
  refine c_move rfl rfl rfl rfl (v := (.slice Ap1 p1.length cp1)) rfl ?_
  refine l_str (xs := p1) rfl rfl rfl rfl Tryz.underlying22 Tryz.underlying5 Tryz.underlying9 (.inl ⟨rfl, rfl, hv_p1⟩) ?_
  refine c_eqS (p := (strB p0)) (q := (strB p1)) rfl rfl rfl rfl rfl rfl ?_
  refine c_assign rfl rfl rfl rfl (v := (.bool ((strB p0).toList == (strB p1).toList))) rfl ?_
  refine can_nil ?_
  refine ps_then ?_
  refine cs_ret ?_
  obtain rfl := Option.some.inj h
  refine ps_en (en_keep (rs) (fun r hr => hr)) ?_
  rintro _ _ ⟨rfl, rfl⟩
  apply ps_end1 rfl Tryz.results14 rfl
  · exact ⟨rfl, rfl, rfl⟩
  · exact .mk .refl .refl
end Go.Proofs.YtmodmjekhlnjpaaGreatDoor
namespace Go.Proofs.YtmodmjekhlnjpaaGreatDoor
open Go.RowKit
set_option maxRecDepth 100000 in
set_option maxHeartbeats 2000000 in
theorem mix32_ok (h : V8) (v : Value) (blk : List Nat) (w0 : World) (sps : List Sp) (rs : List Fa) (hh : V8lt 32 h) (hct : Cl 8 0 constsV ∈ rs) (hv : Rd b8 v blk ∈ rs) (hl : blk.length = 16 * 4) (hB : ∀ x ∈ blk, x < 256) :
    FnOk Tryz.prog 283 #[.agg shv32.toArray, .agg (v8c .u32 h).toArray, v] w0 sps rs fun r s q => r = .agg (v8c .u32 (mixS sh32 kn32 h blk)).toArray ∧ sps = s ∧ rs = q := by
  refine fn_enter Tryz.func283 rfl Tryz.ntmps283 rfl ?_
  refine cs_seq ?_
  refine cs_seq_region [0, 1, 2] rfl ?_
  refine c_box rfl rfl rfl rfl rfl (fun _ => Or.inl rfl) (fun g3 => ?_)
  refine c_box rfl rfl rfl rfl rfl (fun _ => Or.inl rfl) (fun g4 => ?_)
  refine c_alloc rfl rfl rfl rfl Tryz.zeroValue294 rfl (fun _ => Or.inl rfl) (fun g6 => ?_)
  refine can_nil ?_
  refine ps_then ?_
  refine cs_seq ?_
  refine cs_seq_region [0, 1, 2, 3, 4] rfl ?_
  first | refine c_loadN rfl rfl rfl Tryz.isAgg291 Tryz.sizeOf291 rfl (ldS rfl rfl xM subAll) (by first | (simp [ne_length, wlist_length]; done) | rfl) ?_ | refine c_loadN (cs := [_, _, _, _, _, _, _, _, _, _, _, _, _, _, _]) rfl rfl rfl Tryz.isAgg291 Tryz.sizeOf291 rfl (ldS rfl rfl xM (subN (m := 15) (by exact rfl))) rfl ?_ | refine c_loadN rfl rfl rfl Tryz.isAgg291 Tryz.sizeOf291 rfl (ldSC (k := 0) rfl rfl xM subAll) (by first | (simp [ne_length, wlist_length]; done) | rfl) ?_
  refine c_move rfl rfl rfl rfl (by conv => lhs; whnf) ?_
  refine c_call rfl rfl rfl rfl Tryz.call314 (words32_ok _ blk w0 _ _ xM hl hB) (by exact rfl) (fun _ _ _ _ => Or.inl rfl) ?_
  rintro _ _ _ ⟨rfl, rfl, rfl⟩
  refine c_alloc rfl rfl rfl rfl Tryz.zeroValue375 rfl (fun _ => Or.inl rfl) (fun g7 => ?_)
  refine c_storeB rfl rfl rfl Tryz.sizeOf375 rfl rfl xF (by first | (simp [ne_length, wlist_length]; done) | rfl) (by first | (simp [ne_length, wlist_length]; done) | rfl) (by first | exact ne_one _ _ | rfl | simp [Value.oneCell']) (by (try simp only [List.cons_append, List.nil_append]); exact rfl) (Or.inl rfl) ?_
  refine can_nil ?_
  refine ps_then ?_
  refine cs_seq ?_
  refine cs_seq_region [0, 1, 2] rfl ?_
  first | refine c_loadN rfl rfl rfl Tryz.isAgg294 Tryz.sizeOf294 rfl (ldS rfl rfl xM subAll) (by first | (simp [ne_length, wlist_length]; done) | rfl) ?_ | refine c_loadN (cs := [_, _, _, _, _, _, _, _]) rfl rfl rfl Tryz.isAgg294 Tryz.sizeOf294 rfl (ldS rfl rfl xM (subN (m := 8) (by exact rfl))) rfl ?_ | refine c_loadN rfl rfl rfl Tryz.isAgg294 Tryz.sizeOf294 rfl (ldSC (k := 0) rfl rfl xM subAll) (by first | (simp [ne_length, wlist_length]; done) | rfl) ?_
  refine c_alloc rfl rfl rfl rfl Tryz.zeroValue294 rfl (fun _ => Or.inl rfl) (fun g8 => ?_)
  refine c_storeB rfl rfl rfl Tryz.sizeOf294 rfl rfl xF (by first | (simp [ne_length, wlist_length]; done) | rfl) (by first | (simp [ne_length, wlist_length]; done) | rfl) (by first | exact ne_one _ _ | rfl | simp [Value.oneCell']) (by (try simp only [List.cons_append, List.nil_append]); exact rfl) (Or.inl rfl) ?_
  refine can_nil ?_
  refine ps_then ?_
  refine cs_seq ?_
  refine cs_seq ?_
  refine cs_seq_region [0, 1, 2] rfl ?_
  refine c_fieldAddr rfl rfl rfl rfl Tryz.underlying291 rfl Tryz.sizeOf3 rfl rfl ?_
  first | refine c_load1 rfl rfl rfl Tryz.isAgg3 rfl (ldS rfl rfl xM (sub1 (by exact rfl))) ?_ | refine c_load1 rfl rfl rfl Tryz.isAgg3 rfl (ldSC (k := 0) rfl rfl xM (sub1 (by exact rfl))) ?_ | refine c_load1 rfl rfl rfl Tryz.isAgg3 rfl (ldSC rfl rfl xM (sub1 (by exact rfl))) ?_
  refine c_move rfl rfl rfl rfl (by conv => lhs; whnf) ?_
  refine can_nil ?_
  refine ps_then ?_
  refine cs_block ?_
  refine cs_loopS [9, 10, 11, 12, 13, 21, 22, 23, 24, 25, 26, 27, 28, 29, 30, 31, 32, 33, 34, 35, 36, 37, 38, 39, 40, 41, 42, 43, 44, 45, 46, 47, 48, 49, 50, 51, 52, 53, 54, 55, 56, 57, 58, 59, 60, 61, 62, 63, 64, 65, 66, 67, 68, 69, 70, 71, 72, 73, 74, 75, 76, 77, 78, 79, 80, 81, 82, 83, 84, 85, 86, 87, 88, 89, 90, 91, 92, 93, 94, 95, 96, 97, 98, 99, 100, 101] (fun m L s r => ∃ (t : Nat) (v : V8), t ≤ 64 ∧ v = rnds sh32 kn32 (wlist sh32 blk 64) h t ∧ m = 64 - t ∧ L = [(21, .int .i64 (t : Int))] ∧ s = Bk g8 (v8c .u32 v) 294 :: Bk g7 (ne .u32 (wlist sh32 blk 64 ++ List.replicate 16 0)) 375 :: Bk g6 (List.replicate 8 (.int .u32 0)) 294 :: Bk g4 (v8c .u32 h) 294 :: Bk g3 shv32 291 :: sps ∧ rs = r) [(21, .int .i64 (0 : Nat))] (⟨rfl, trivial⟩) (⟨0, h, by omega, rfl, rfl, rfl, rfl, rfl⟩) ?_
  rintro k0 f0 _ _ _ ⟨t, v, ht, hvv, rfl, rfl, rfl, rfl⟩
  obtain ⟨ha, hb, hc, hd, he, hf, hg, hh'⟩ : V8lt 32 v := hvv ▸ rnds_lt (p := sh32) kn32 (wlist sh32 blk 64) hh t
  refine cs_seq ?_
  refine cs_seq_region [0] rfl ?_
  refine c_lss rfl rfl rfl rfl rfl rfl ?_
  refine can_nil ?_
  refine ps_then ?_
  refine cs_seq ?_
  refine cs_cond rfl (fun hc1 => ?_) (fun hc1 => ?_)
  · simp at hc1
    refine cs_skip ?_
    refine ps_then ?_
    refine cs_seq ?_
    refine cs_block ?_
    refine cs_seq ?_
    refine cs_seq_region [0, 1] rfl ?_
    refine c_move rfl rfl rfl rfl (by conv => lhs; whnf) ?_
    refine c_assign rfl rfl rfl rfl (by conv => lhs; whnf) ?_
    refine can_nil ?_
    refine ps_then ?_
    refine cs_seq ?_
    refine cs_draw_region [0, 1, 0, 1, 0, 0] [false, false, false, false, false, false] [0, 1, 2, 3, 4, 5] (by kernel_rfl) (by kernel_rfl) (by kernel_rfl) (by kernel_rfl) xQ ?_
    refine c_indexAddrA1 rfl rfl rfl rfl Tryz.underlying294 Tryz.sizeOf261 rfl rfl xD ?_
    first | refine c_load1 rfl rfl rfl Tryz.isAgg261 rfl (ldD rfl rfl xE xM (sub1 (by exact rfl))) ?_ | refine c_load1 rfl rfl rfl Tryz.isAgg261 rfl (ldDC (k := 0) rfl rfl xE xM (sub1 (by exact rfl))) ?_ | refine c_load1 rfl rfl rfl Tryz.isAgg261 rfl (ldDC rfl rfl xE xM (sub1 (by exact rfl))) ?_
    refine c_indexAddrA1 rfl rfl rfl rfl Tryz.underlying294 Tryz.sizeOf261 rfl rfl xD ?_
    first | refine c_load1 rfl rfl rfl Tryz.isAgg261 rfl (ldD rfl rfl xE xM (sub1 (by exact rfl))) ?_ | refine c_load1 rfl rfl rfl Tryz.isAgg261 rfl (ldDC (k := 0) rfl rfl xE xM (sub1 (by exact rfl))) ?_ | refine c_load1 rfl rfl rfl Tryz.isAgg261 rfl (ldDC rfl rfl xE xM (sub1 (by exact rfl))) ?_
    refine can_forget rfl ?_
    refine c_assign rfl rfl rfl rfl (by conv => lhs; whnf) ?_
    refine c_assign rfl rfl rfl rfl (by conv => lhs; whnf) ?_
    refine can_nil ?_
    refine ps_then ?_
    refine cs_seq ?_
    refine cs_draw_region [0, 1, 0, 0, 1, 0, 1, 2, 0, 0, 0, 1, 0, 0, 0, 0, 1, 0, 0, 0, 0, 0, 1, 0, 1, 0, 0, 0, 0, 0, 0, 1, 0, 0] [false, false, false, false, false, false, false, true, false, false, false, false, false, false, false, false, false, false, false, false, false, false, false, false, false, false, false, false, false, false, false, false, false, false] [0, 1, 2, 3, 4, 5, 6, 9, 10, 11, 12, 13, 14, 15, 16, 17, 18, 20, 21, 22, 23, 24, 25, 26, 27, 29, 30, 31, 7, 8, 19, 28, 32, 33] (by kernel_rfl) (by kernel_rfl) (by kernel_rfl) (by kernel_rfl) xQ ?_
    refine c_indexAddrA1 rfl rfl rfl rfl Tryz.underlying294 Tryz.sizeOf261 rfl rfl xD ?_
    first | refine c_load1 rfl rfl rfl Tryz.isAgg261 rfl (ldD rfl rfl xE xM (sub1 (by exact rfl))) ?_ | refine c_load1 rfl rfl rfl Tryz.isAgg261 rfl (ldDC (k := 0) rfl rfl xE xM (sub1 (by exact rfl))) ?_ | refine c_load1 rfl rfl rfl Tryz.isAgg261 rfl (ldDC rfl rfl xE xM (sub1 (by exact rfl))) ?_
    refine c_move rfl rfl rfl rfl (by conv => lhs; whnf) ?_
    refine c_fieldAddr rfl rfl rfl rfl Tryz.underlying291 rfl Tryz.sizeOf289 rfl rfl ?_
    first | refine c_loadN rfl rfl rfl Tryz.isAgg289 Tryz.sizeOf289 rfl (ldD rfl rfl xE xM subAll) (by first | (simp [ne_length, wlist_length]; done) | rfl) ?_ | refine c_loadN (cs := [_, _, _]) rfl rfl rfl Tryz.isAgg289 Tryz.sizeOf289 rfl (ldD rfl rfl xE xM (subN (m := 3) (by exact rfl))) rfl ?_ | refine c_loadN rfl rfl rfl Tryz.isAgg289 Tryz.sizeOf289 rfl (ldDC (k := 0) rfl rfl xE xM subAll) (by first | (simp [ne_length, wlist_length]; done) | rfl) ?_
    refine c_fieldAddr rfl rfl rfl rfl Tryz.underlying291 rfl Tryz.sizeOf3 rfl rfl ?_
    first | refine c_load1 rfl rfl rfl Tryz.isAgg3 rfl (ldD rfl rfl xE xM (sub1 (by exact rfl))) ?_ | refine c_load1 rfl rfl rfl Tryz.isAgg3 rfl (ldDC (k := 0) rfl rfl xE xM (sub1 (by exact rfl))) ?_ | refine c_load1 rfl rfl rfl Tryz.isAgg3 rfl (ldDC rfl rfl xE xM (sub1 (by exact rfl))) ?_
    refine c_move rfl rfl rfl rfl (by conv => lhs; whnf) ?_
    refine c_indexAddrA1 rfl rfl rfl rfl Tryz.underlying294 Tryz.sizeOf261 rfl rfl xD ?_
    first | refine c_load1 rfl rfl rfl Tryz.isAgg261 rfl (ldD rfl rfl xE xM (sub1 (by exact rfl))) ?_ | refine c_load1 rfl rfl rfl Tryz.isAgg261 rfl (ldDC (k := 0) rfl rfl xE xM (sub1 (by exact rfl))) ?_ | refine c_load1 rfl rfl rfl Tryz.isAgg261 rfl (ldDC rfl rfl xE xM (sub1 (by exact rfl))) ?_
    refine n_and rfl rfl rfl rfl rfl rfl rfl xO xO ?_
    refine c_move rfl rfl rfl rfl (by conv => lhs; whnf) ?_
    refine n_compl rfl rfl rfl rfl rfl rfl xO ?_
    refine c_indexAddrA1 rfl rfl rfl rfl Tryz.underlying294 Tryz.sizeOf261 rfl rfl xD ?_
    first | refine c_load1 rfl rfl rfl Tryz.isAgg261 rfl (ldD rfl rfl xE xM (sub1 (by exact rfl))) ?_ | refine c_load1 rfl rfl rfl Tryz.isAgg261 rfl (ldDC (k := 0) rfl rfl xE xM (sub1 (by exact rfl))) ?_ | refine c_load1 rfl rfl rfl Tryz.isAgg261 rfl (ldDC rfl rfl xE xM (sub1 (by exact rfl))) ?_
    refine n_and rfl rfl rfl rfl rfl rfl rfl xO xO ?_
    refine n_xor rfl rfl rfl rfl rfl rfl rfl xO xO ?_
    refine c_move rfl rfl rfl rfl (by conv => lhs; whnf) ?_
    refine c_indexAddrA1 rfl rfl rfl rfl Tryz.underlying378 Tryz.sizeOf97 rfl rfl xD ?_
    refine c_load1 rfl rfl rfl Tryz.isAgg97 rfl (ldDC rfl rfl xE xM (sub1 (const_ld t (by omega)))) ?_
    refine c_fieldAddr rfl rfl rfl rfl Tryz.underlying291 rfl Tryz.sizeOf3 rfl rfl ?_
    first | refine c_load1 rfl rfl rfl Tryz.isAgg3 rfl (ldD rfl rfl xE xM (sub1 (by exact rfl))) ?_ | refine c_load1 rfl rfl rfl Tryz.isAgg3 rfl (ldDC (k := 0) rfl rfl xE xM (sub1 (by exact rfl))) ?_ | refine c_load1 rfl rfl rfl Tryz.isAgg3 rfl (ldDC rfl rfl xE xM (sub1 (by exact rfl))) ?_
    first | refine c_subI rfl rfl rfl rfl rfl rfl xW ?_ | refine c_sub rfl rfl rfl rfl rfl rfl ?_
    refine n_shr (b := 32) rfl rfl rfl rfl rfl rfl (by decide) (by decide) ?_
    refine n_conv rfl rfl rfl rfl Tryz.underlying97 Tryz.underlying261 rfl rfl ?_
    refine c_move rfl rfl rfl rfl (by conv => lhs; whnf) ?_
    refine c_indexAddrA1 rfl rfl rfl rfl Tryz.underlying375 Tryz.sizeOf261 rfl rfl xD ?_
    refine c_load1 rfl rfl rfl Tryz.isAgg261 rfl (ldD rfl rfl xE xM (sub1 (row_ld _ sh32 blk 64 _ _ t (by omega) (by omega)))) ?_
    refine c_call rfl rfl rfl rfl Tryz.call315 (big32_ok _ 6 11 25 w0 _ _ he (by decide) (by decide) (by decide)) (by exact rfl) (by rintro v s r ⟨rfl, rfl, rfl⟩; exact Or.inr xE) ?_
    rintro _ _ _ ⟨rfl, rfl, rfl⟩
    refine can_forget rfl ?_
    refine n_add rfl rfl rfl rfl rfl rfl rfl ?_
    refine n_add rfl rfl rfl rfl rfl rfl rfl ?_
    refine n_add rfl rfl rfl rfl rfl rfl rfl ?_
    refine n_add rfl rfl rfl rfl rfl rfl rfl ?_
    refine c_assign rfl rfl rfl rfl (by conv => lhs; whnf) ?_
    refine can_nil ?_
    refine ps_then ?_
    refine cs_seq ?_
    refine cs_draw_region [0, 0, 1, 0, 1, 2, 0, 0, 1, 0, 0, 0, 1, 0, 0, 0, 1, 0, 1, 0, 0, 0, 0] [false, false, false, false, false, true, false, false, false, false, false, false, false, false, false, false, false, false, false, false, false, false, false] [0, 1, 2, 3, 4, 6, 7, 8, 9, 10, 11, 12, 13, 14, 15, 16, 17, 18, 19, 20, 5, 21, 22] (by kernel_rfl) (by kernel_rfl) (by kernel_rfl) (by kernel_rfl) xQ ?_
    refine c_move rfl rfl rfl rfl (by conv => lhs; whnf) ?_
    refine c_fieldAddr rfl rfl rfl rfl Tryz.underlying291 rfl Tryz.sizeOf289 rfl rfl ?_
    first | refine c_loadN rfl rfl rfl Tryz.isAgg289 Tryz.sizeOf289 rfl (ldD rfl rfl xE xM subAll) (by first | (simp [ne_length, wlist_length]; done) | rfl) ?_ | refine c_loadN (cs := [_, _, _]) rfl rfl rfl Tryz.isAgg289 Tryz.sizeOf289 rfl (ldD rfl rfl xE xM (subN (m := 3) (by exact rfl))) rfl ?_ | refine c_loadN rfl rfl rfl Tryz.isAgg289 Tryz.sizeOf289 rfl (ldDC (k := 0) rfl rfl xE xM subAll) (by first | (simp [ne_length, wlist_length]; done) | rfl) ?_
    refine c_fieldAddr rfl rfl rfl rfl Tryz.underlying291 rfl Tryz.sizeOf3 rfl rfl ?_
    first | refine c_load1 rfl rfl rfl Tryz.isAgg3 rfl (ldD rfl rfl xE xM (sub1 (by exact rfl))) ?_ | refine c_load1 rfl rfl rfl Tryz.isAgg3 rfl (ldDC (k := 0) rfl rfl xE xM (sub1 (by exact rfl))) ?_ | refine c_load1 rfl rfl rfl Tryz.isAgg3 rfl (ldDC rfl rfl xE xM (sub1 (by exact rfl))) ?_
    refine c_move rfl rfl rfl rfl (by conv => lhs; whnf) ?_
    refine c_indexAddrA1 rfl rfl rfl rfl Tryz.underlying294 Tryz.sizeOf261 rfl rfl xD ?_
    first | refine c_load1 rfl rfl rfl Tryz.isAgg261 rfl (ldD rfl rfl xE xM (sub1 (by exact rfl))) ?_ | refine c_load1 rfl rfl rfl Tryz.isAgg261 rfl (ldDC (k := 0) rfl rfl xE xM (sub1 (by exact rfl))) ?_ | refine c_load1 rfl rfl rfl Tryz.isAgg261 rfl (ldDC rfl rfl xE xM (sub1 (by exact rfl))) ?_
    refine n_and rfl rfl rfl rfl rfl rfl rfl xO xO ?_
    refine c_move rfl rfl rfl rfl (by conv => lhs; whnf) ?_
    refine c_indexAddrA1 rfl rfl rfl rfl Tryz.underlying294 Tryz.sizeOf261 rfl rfl xD ?_
    first | refine c_load1 rfl rfl rfl Tryz.isAgg261 rfl (ldD rfl rfl xE xM (sub1 (by exact rfl))) ?_ | refine c_load1 rfl rfl rfl Tryz.isAgg261 rfl (ldDC (k := 0) rfl rfl xE xM (sub1 (by exact rfl))) ?_ | refine c_load1 rfl rfl rfl Tryz.isAgg261 rfl (ldDC rfl rfl xE xM (sub1 (by exact rfl))) ?_
    refine n_and rfl rfl rfl rfl rfl rfl rfl xO xO ?_
    refine n_xor rfl rfl rfl rfl rfl rfl rfl xO xO ?_
    refine c_indexAddrA1 rfl rfl rfl rfl Tryz.underlying294 Tryz.sizeOf261 rfl rfl xD ?_
    first | refine c_load1 rfl rfl rfl Tryz.isAgg261 rfl (ldD rfl rfl xE xM (sub1 (by exact rfl))) ?_ | refine c_load1 rfl rfl rfl Tryz.isAgg261 rfl (ldDC (k := 0) rfl rfl xE xM (sub1 (by exact rfl))) ?_ | refine c_load1 rfl rfl rfl Tryz.isAgg261 rfl (ldDC rfl rfl xE xM (sub1 (by exact rfl))) ?_
    refine c_indexAddrA1 rfl rfl rfl rfl Tryz.underlying294 Tryz.sizeOf261 rfl rfl xD ?_
    first | refine c_load1 rfl rfl rfl Tryz.isAgg261 rfl (ldD rfl rfl xE xM (sub1 (by exact rfl))) ?_ | refine c_load1 rfl rfl rfl Tryz.isAgg261 rfl (ldDC (k := 0) rfl rfl xE xM (sub1 (by exact rfl))) ?_ | refine c_load1 rfl rfl rfl Tryz.isAgg261 rfl (ldDC rfl rfl xE xM (sub1 (by exact rfl))) ?_
    refine n_and rfl rfl rfl rfl rfl rfl rfl xO xO ?_
    refine n_xor rfl rfl rfl rfl rfl rfl rfl xO xO ?_
    refine c_call rfl rfl rfl rfl Tryz.call315 (big32_ok _ 2 13 22 w0 _ _ ha (by decide) (by decide) (by decide)) (by exact rfl) (by rintro v s r ⟨rfl, rfl, rfl⟩; exact Or.inr xE) ?_
    rintro _ _ _ ⟨rfl, rfl, rfl⟩
    refine can_forget rfl ?_
    refine n_add rfl rfl rfl rfl rfl rfl rfl ?_
    refine c_assign rfl rfl rfl rfl (by conv => lhs; whnf) ?_
    refine can_nil ?_
    refine ps_then ?_
    refine cs_seq_region [0, 1, 2, 3, 4, 5, 6, 7, 8, 9, 10, 11, 12, 13, 14, 15, 16, 17, 18] rfl ?_
    refine c_move rfl rfl rfl rfl (by conv => lhs; whnf) ?_
    refine c_move rfl rfl rfl rfl (by conv => lhs; whnf) ?_
    refine n_add rfl rfl rfl rfl rfl rfl rfl ?_
    refine c_move rfl rfl rfl rfl (by conv => lhs; whnf) ?_
    refine c_indexAddrA1 rfl rfl rfl rfl Tryz.underlying294 Tryz.sizeOf261 rfl rfl xD ?_
    first | refine c_load1 rfl rfl rfl Tryz.isAgg261 rfl (ldS rfl rfl xM (sub1 (by exact rfl))) ?_ | refine c_load1 rfl rfl rfl Tryz.isAgg261 rfl (ldSC (k := 0) rfl rfl xM (sub1 (by exact rfl))) ?_ | refine c_load1 rfl rfl rfl Tryz.isAgg261 rfl (ldSC rfl rfl xM (sub1 (by exact rfl))) ?_
    refine c_indexAddrA1 rfl rfl rfl rfl Tryz.underlying294 Tryz.sizeOf261 rfl rfl xD ?_
    first | refine c_load1 rfl rfl rfl Tryz.isAgg261 rfl (ldS rfl rfl xM (sub1 (by exact rfl))) ?_ | refine c_load1 rfl rfl rfl Tryz.isAgg261 rfl (ldSC (k := 0) rfl rfl xM (sub1 (by exact rfl))) ?_ | refine c_load1 rfl rfl rfl Tryz.isAgg261 rfl (ldSC rfl rfl xM (sub1 (by exact rfl))) ?_
    refine c_indexAddrA1 rfl rfl rfl rfl Tryz.underlying294 Tryz.sizeOf261 rfl rfl xD ?_
    first | refine c_load1 rfl rfl rfl Tryz.isAgg261 rfl (ldS rfl rfl xM (sub1 (by exact rfl))) ?_ | refine c_load1 rfl rfl rfl Tryz.isAgg261 rfl (ldSC (k := 0) rfl rfl xM (sub1 (by exact rfl))) ?_ | refine c_load1 rfl rfl rfl Tryz.isAgg261 rfl (ldSC rfl rfl xM (sub1 (by exact rfl))) ?_
    refine c_move rfl rfl rfl rfl (by conv => lhs; whnf) ?_
    refine n_add rfl rfl rfl rfl rfl rfl rfl ?_
    refine c_move rfl rfl rfl rfl (by conv => lhs; whnf) ?_
    refine c_indexAddrA1 rfl rfl rfl rfl Tryz.underlying294 Tryz.sizeOf261 rfl rfl xD ?_
    first | refine c_load1 rfl rfl rfl Tryz.isAgg261 rfl (ldS rfl rfl xM (sub1 (by exact rfl))) ?_ | refine c_load1 rfl rfl rfl Tryz.isAgg261 rfl (ldSC (k := 0) rfl rfl xM (sub1 (by exact rfl))) ?_ | refine c_load1 rfl rfl rfl Tryz.isAgg261 rfl (ldSC rfl rfl xM (sub1 (by exact rfl))) ?_
    refine c_indexAddrA1 rfl rfl rfl rfl Tryz.underlying294 Tryz.sizeOf261 rfl rfl xD ?_
    first | refine c_load1 rfl rfl rfl Tryz.isAgg261 rfl (ldS rfl rfl xM (sub1 (by exact rfl))) ?_ | refine c_load1 rfl rfl rfl Tryz.isAgg261 rfl (ldSC (k := 0) rfl rfl xM (sub1 (by exact rfl))) ?_ | refine c_load1 rfl rfl rfl Tryz.isAgg261 rfl (ldSC rfl rfl xM (sub1 (by exact rfl))) ?_
    refine c_buildA (cs := [_, _, _, _, _, _, _, _]) rfl rfl rfl rfl Tryz.underlying294 Tryz.zeroValue294 Tryz.sizeOf261 rfl rfl ?_
    refine c_storeB rfl rfl rfl Tryz.sizeOf294 rfl rfl xF (by first | (simp [ne_length, wlist_length]; done) | rfl) (by first | (simp [ne_length, wlist_length]; done) | rfl) (by first | exact ne_one _ _ | rfl | simp [Value.oneCell']) (by (try simp only [List.cons_append, List.nil_append]); exact rfl) (Or.inl rfl) ?_
    refine can_nil ?_
    refine ps_block_normal ?_
    refine ps_then ?_
    refine cs_seq_region [0, 1] rfl ?_
    first | refine c_addI rfl rfl rfl rfl rfl rfl xW ?_ | refine c_add rfl rfl rfl rfl rfl rfl ?_
    refine c_move rfl rfl rfl rfl (by conv => lhs; whnf) ?_
    refine can_nil ?_
    refine ps_roundS [(21, .int .i64 ((t + 1 : Nat) : Int))] ⟨rfl, trivial⟩ (by repeat (first | exact Mix.base | refine Mix.upd rfl ?_ | refine Mix.upds rfl ?_ | refine Mix.mix rfl ?_ | exact Mix.refl)) (64 - (t + 1)) (by omega) (⟨t + 1, rnd sh32 v (kn32 t) ((wlist sh32 blk 64).getD t 0), by omega, by rw [hvv]; rfl, rfl, rfl, rfl, rfl⟩) (.mk xS xS)
  · simp at hc1
    have et : t = 64 := by omega
    subst et
    refine cs_exit ?_
    refine ps_then_exit ?_
    refine ps_then_exit ?_
    refine ps_block_here ?_
    refine ps_then ?_
    refine cs_seq ?_
    refine cs_seq ?_
    refine cs_seq_region [0] rfl ?_
    refine c_move rfl rfl rfl rfl (by conv => lhs; whnf) ?_
    refine can_nil ?_
    refine ps_then ?_
    refine cs_block ?_
    refine cs_rounds 9 ?_
    refine rs_succ ?_
    refine cs_seq ?_
    refine cs_seq_region [0] rfl ?_
    refine c_lss rfl rfl rfl rfl rfl rfl ?_
    refine can_nil ?_
    refine ps_then ?_
    refine cs_seq ?_
    refine cs_true rfl ?_
    refine cs_skip ?_
    refine ps_then ?_
    refine cs_seq ?_
    refine cs_block ?_
    refine cs_seq ?_
    refine cs_seq_region [0, 1] rfl ?_
    refine c_move rfl rfl rfl rfl (by conv => lhs; whnf) ?_
    refine c_assign rfl rfl rfl rfl (by conv => lhs; whnf) ?_
    refine can_nil ?_
    refine ps_then ?_
    refine cs_draw_region [0, 0, 1, 0, 0, 1, 0, 0, 2] [false, false, false, false, false, false, false, false, false] [0, 1, 2, 3, 4, 5, 6, 7, 8] (by kernel_rfl) (by kernel_rfl) (by kernel_rfl) (by kernel_rfl) xQ ?_
    refine c_move rfl rfl rfl rfl (by conv => lhs; whnf) ?_
    refine c_indexAddrA1 rfl rfl rfl rfl Tryz.underlying294 Tryz.sizeOf261 rfl rfl xD ?_
    first | refine c_load1 rfl rfl rfl Tryz.isAgg261 rfl (ldD rfl rfl xE xM (sub1 (by exact rfl))) ?_ | refine c_load1 rfl rfl rfl Tryz.isAgg261 rfl (ldDC (k := 0) rfl rfl xE xM (sub1 (by exact rfl))) ?_ | refine c_load1 rfl rfl rfl Tryz.isAgg261 rfl (ldDC rfl rfl xE xM (sub1 (by exact rfl))) ?_
    refine c_move rfl rfl rfl rfl (by conv => lhs; whnf) ?_
    refine c_indexAddrA1 rfl rfl rfl rfl Tryz.underlying294 Tryz.sizeOf261 rfl rfl xD ?_
    first | refine c_load1 rfl rfl rfl Tryz.isAgg261 rfl (ldD rfl rfl xE xM (sub1 (by exact rfl))) ?_ | refine c_load1 rfl rfl rfl Tryz.isAgg261 rfl (ldDC (k := 0) rfl rfl xE xM (sub1 (by exact rfl))) ?_ | refine c_load1 rfl rfl rfl Tryz.isAgg261 rfl (ldDC rfl rfl xE xM (sub1 (by exact rfl))) ?_
    refine can_forget rfl ?_
    refine n_add rfl rfl rfl rfl rfl rfl rfl ?_
    refine c_indexAddrA1 rfl rfl rfl rfl Tryz.underlying294 Tryz.sizeOf261 rfl rfl xD ?_
    refine c_store1 rfl rfl rfl Tryz.sizeOf261 rfl (by conv => lhs; whnf) xF rfl (by first | exact Nat.le_of_ble_eq_true rfl | (simp [ne_length, wlist_length] <;> omega)) (by (try simp only [List.set_cons_zero, List.set_cons_succ]); exact rfl) (by (try simp only [List.cons_append, List.nil_append]); exact rfl) (Or.inl rfl) ?_
    refine can_nil ?_
    refine ps_block_normal ?_
    refine ps_then ?_
    refine cs_seq_region [0, 1] rfl ?_
    first | refine c_addI rfl rfl rfl rfl rfl rfl xW ?_ | refine c_add rfl rfl rfl rfl rfl rfl ?_
    refine c_move rfl rfl rfl rfl (by conv => lhs; whnf) ?_
    refine can_nil ?_
    refine ps_rs ?_
    refine rs_succ ?_
    refine cs_seq ?_
    refine cs_seq_region [0] rfl ?_
    refine c_lss rfl rfl rfl rfl rfl rfl ?_
    refine can_nil ?_
    refine ps_then ?_
    refine cs_seq ?_
    refine cs_true rfl ?_
    refine cs_skip ?_
    refine ps_then ?_
    refine cs_seq ?_
    refine cs_block ?_
    refine cs_seq ?_
    refine cs_seq_region [0, 1] rfl ?_
    refine c_move rfl rfl rfl rfl (by conv => lhs; whnf) ?_
    refine c_assign rfl rfl rfl rfl (by conv => lhs; whnf) ?_
    refine can_nil ?_
    refine ps_then ?_
    refine cs_draw_region [0, 0, 1, 0, 0, 1, 0, 0, 2] [false, false, false, false, false, false, false, false, false] [0, 1, 2, 3, 4, 5, 6, 7, 8] (by kernel_rfl) (by kernel_rfl) (by kernel_rfl) (by kernel_rfl) xQ ?_
    refine c_move rfl rfl rfl rfl (by conv => lhs; whnf) ?_
    refine c_indexAddrA1 rfl rfl rfl rfl Tryz.underlying294 Tryz.sizeOf261 rfl rfl xD ?_
    first | refine c_load1 rfl rfl rfl Tryz.isAgg261 rfl (ldD rfl rfl xE xM (sub1 (by exact rfl))) ?_ | refine c_load1 rfl rfl rfl Tryz.isAgg261 rfl (ldDC (k := 0) rfl rfl xE xM (sub1 (by exact rfl))) ?_ | refine c_load1 rfl rfl rfl Tryz.isAgg261 rfl (ldDC rfl rfl xE xM (sub1 (by exact rfl))) ?_
    refine c_move rfl rfl rfl rfl (by conv => lhs; whnf) ?_
    refine c_indexAddrA1 rfl rfl rfl rfl Tryz.underlying294 Tryz.sizeOf261 rfl rfl xD ?_
    first | refine c_load1 rfl rfl rfl Tryz.isAgg261 rfl (ldD rfl rfl xE xM (sub1 (by exact rfl))) ?_ | refine c_load1 rfl rfl rfl Tryz.isAgg261 rfl (ldDC (k := 0) rfl rfl xE xM (sub1 (by exact rfl))) ?_ | refine c_load1 rfl rfl rfl Tryz.isAgg261 rfl (ldDC rfl rfl xE xM (sub1 (by exact rfl))) ?_
    refine can_forget rfl ?_
    refine n_add rfl rfl rfl rfl rfl rfl rfl ?_
    refine c_indexAddrA1 rfl rfl rfl rfl Tryz.underlying294 Tryz.sizeOf261 rfl rfl xD ?_
    refine c_store1 rfl rfl rfl Tryz.sizeOf261 rfl (by conv => lhs; whnf) xF rfl (by first | exact Nat.le_of_ble_eq_true rfl | (simp [ne_length, wlist_length] <;> omega)) (by (try simp only [List.set_cons_zero, List.set_cons_succ]); exact rfl) (by (try simp only [List.cons_append, List.nil_append]); exact rfl) (Or.inl rfl) ?_
    refine can_nil ?_
    refine ps_block_normal ?_
    refine ps_then ?_
    refine cs_seq_region [0, 1] rfl ?_
    first | refine c_addI rfl rfl rfl rfl rfl rfl xW ?_ | refine c_add rfl rfl rfl rfl rfl rfl ?_
    refine c_move rfl rfl rfl rfl (by conv => lhs; whnf) ?_
    refine can_nil ?_
    refine ps_rs ?_
    refine rs_succ ?_
    refine cs_seq ?_
    refine cs_seq_region [0] rfl ?_
    refine c_lss rfl rfl rfl rfl rfl rfl ?_
    refine can_nil ?_
    refine ps_then ?_
    refine cs_seq ?_
    refine cs_true rfl ?_
    refine cs_skip ?_
    refine ps_then ?_
    refine cs_seq ?_
    refine cs_block ?_
    refine cs_seq ?_
    refine cs_seq_region [0, 1] rfl ?_
    refine c_move rfl rfl rfl rfl (by conv => lhs; whnf) ?_
    refine c_assign rfl rfl rfl rfl (by conv => lhs; whnf) ?_
    refine can_nil ?_
    refine ps_then ?_
    refine cs_draw_region [0, 0, 1, 0, 0, 1, 0, 0, 2] [false, false, false, false, false, false, false, false, false] [0, 1, 2, 3, 4, 5, 6, 7, 8] (by kernel_rfl) (by kernel_rfl) (by kernel_rfl) (by kernel_rfl) xQ ?_
    refine c_move rfl rfl rfl rfl (by conv => lhs; whnf) ?_
    refine c_indexAddrA1 rfl rfl rfl rfl Tryz.underlying294 Tryz.sizeOf261 rfl rfl xD ?_
    first | refine c_load1 rfl rfl rfl Tryz.isAgg261 rfl (ldD rfl rfl xE xM (sub1 (by exact rfl))) ?_ | refine c_load1 rfl rfl rfl Tryz.isAgg261 rfl (ldDC (k := 0) rfl rfl xE xM (sub1 (by exact rfl))) ?_ | refine c_load1 rfl rfl rfl Tryz.isAgg261 rfl (ldDC rfl rfl xE xM (sub1 (by exact rfl))) ?_
    refine c_move rfl rfl rfl rfl (by conv => lhs; whnf) ?_
    refine c_indexAddrA1 rfl rfl rfl rfl Tryz.underlying294 Tryz.sizeOf261 rfl rfl xD ?_
    first | refine c_load1 rfl rfl rfl Tryz.isAgg261 rfl (ldD rfl rfl xE xM (sub1 (by exact rfl))) ?_ | refine c_load1 rfl rfl rfl Tryz.isAgg261 rfl (ldDC (k := 0) rfl rfl xE xM (sub1 (by exact rfl))) ?_ | refine c_load1 rfl rfl rfl Tryz.isAgg261 rfl (ldDC rfl rfl xE xM (sub1 (by exact rfl))) ?_
    refine can_forget rfl ?_
    refine n_add rfl rfl rfl rfl rfl rfl rfl ?_
    refine c_indexAddrA1 rfl rfl rfl rfl Tryz.underlying294 Tryz.sizeOf261 rfl rfl xD ?_
    refine c_store1 rfl rfl rfl Tryz.sizeOf261 rfl (by conv => lhs; whnf) xF rfl (by first | exact Nat.le_of_ble_eq_true rfl | (simp [ne_length, wlist_length] <;> omega)) (by (try simp only [List.set_cons_zero, List.set_cons_succ]); exact rfl) (by (try simp only [List.cons_append, List.nil_append]); exact rfl) (Or.inl rfl) ?_
    refine can_nil ?_
    refine ps_block_normal ?_
    refine ps_then ?_
    refine cs_seq_region [0, 1] rfl ?_
    first | refine c_addI rfl rfl rfl rfl rfl rfl xW ?_ | refine c_add rfl rfl rfl rfl rfl rfl ?_
    refine c_move rfl rfl rfl rfl (by conv => lhs; whnf) ?_
    refine can_nil ?_
    refine ps_rs ?_
    refine rs_succ ?_
    refine cs_seq ?_
    refine cs_seq_region [0] rfl ?_
    refine c_lss rfl rfl rfl rfl rfl rfl ?_
    refine can_nil ?_
    refine ps_then ?_
    refine cs_seq ?_
    refine cs_true rfl ?_
    refine cs_skip ?_
    refine ps_then ?_
    refine cs_seq ?_
    refine cs_block ?_
    refine cs_seq ?_
    refine cs_seq_region [0, 1] rfl ?_
    refine c_move rfl rfl rfl rfl (by conv => lhs; whnf) ?_
    refine c_assign rfl rfl rfl rfl (by conv => lhs; whnf) ?_
    refine can_nil ?_
    refine ps_then ?_
    refine cs_draw_region [0, 0, 1, 0, 0, 1, 0, 0, 2] [false, false, false, false, false, false, false, false, false] [0, 1, 2, 3, 4, 5, 6, 7, 8] (by kernel_rfl) (by kernel_rfl) (by kernel_rfl) (by kernel_rfl) xQ ?_
    refine c_move rfl rfl rfl rfl (by conv => lhs; whnf) ?_
    refine c_indexAddrA1 rfl rfl rfl rfl Tryz.underlying294 Tryz.sizeOf261 rfl rfl xD ?_
    first | refine c_load1 rfl rfl rfl Tryz.isAgg261 rfl (ldD rfl rfl xE xM (sub1 (by exact rfl))) ?_ | refine c_load1 rfl rfl rfl Tryz.isAgg261 rfl (ldDC (k := 0) rfl rfl xE xM (sub1 (by exact rfl))) ?_ | refine c_load1 rfl rfl rfl Tryz.isAgg261 rfl (ldDC rfl rfl xE xM (sub1 (by exact rfl))) ?_
    refine c_move rfl rfl rfl rfl (by conv => lhs; whnf) ?_
    refine c_indexAddrA1 rfl rfl rfl rfl Tryz.underlying294 Tryz.sizeOf261 rfl rfl xD ?_
    first | refine c_load1 rfl rfl rfl Tryz.isAgg261 rfl (ldD rfl rfl xE xM (sub1 (by exact rfl))) ?_ | refine c_load1 rfl rfl rfl Tryz.isAgg261 rfl (ldDC (k := 0) rfl rfl xE xM (sub1 (by exact rfl))) ?_ | refine c_load1 rfl rfl rfl Tryz.isAgg261 rfl (ldDC rfl rfl xE xM (sub1 (by exact rfl))) ?_
    refine can_forget rfl ?_
    refine n_add rfl rfl rfl rfl rfl rfl rfl ?_
    refine c_indexAddrA1 rfl rfl rfl rfl Tryz.underlying294 Tryz.sizeOf261 rfl rfl xD ?_
    refine c_store1 rfl rfl rfl Tryz.sizeOf261 rfl (by conv => lhs; whnf) xF rfl (by first | exact Nat.le_of_ble_eq_true rfl | (simp [ne_length, wlist_length] <;> omega)) (by (try simp only [List.set_cons_zero, List.set_cons_succ]); exact rfl) (by (try simp only [List.cons_append, List.nil_append]); exact rfl) (Or.inl rfl) ?_
    refine can_nil ?_
    refine ps_block_normal ?_
    refine ps_then ?_
    refine cs_seq_region [0, 1] rfl ?_
    first | refine c_addI rfl rfl rfl rfl rfl rfl xW ?_ | refine c_add rfl rfl rfl rfl rfl rfl ?_
    refine c_move rfl rfl rfl rfl (by conv => lhs; whnf) ?_
    refine can_nil ?_
    refine ps_rs ?_
    refine rs_succ ?_
    refine cs_seq ?_
    refine cs_seq_region [0] rfl ?_
    refine c_lss rfl rfl rfl rfl rfl rfl ?_
    refine can_nil ?_
    refine ps_then ?_
    refine cs_seq ?_
    refine cs_true rfl ?_
    refine cs_skip ?_
    refine ps_then ?_
    refine cs_seq ?_
    refine cs_block ?_
    refine cs_seq ?_
    refine cs_seq_region [0, 1] rfl ?_
    refine c_move rfl rfl rfl rfl (by conv => lhs; whnf) ?_
    refine c_assign rfl rfl rfl rfl (by conv => lhs; whnf) ?_
    refine can_nil ?_
    refine ps_then ?_
    refine cs_draw_region [0, 0, 1, 0, 0, 1, 0, 0, 2] [false, false, false, false, false, false, false, false, false] [0, 1, 2, 3, 4, 5, 6, 7, 8] (by kernel_rfl) (by kernel_rfl) (by kernel_rfl) (by kernel_rfl) xQ ?_
    refine c_move rfl rfl rfl rfl (by conv => lhs; whnf) ?_
    refine c_indexAddrA1 rfl rfl rfl rfl Tryz.underlying294 Tryz.sizeOf261 rfl rfl xD ?_
    first | refine c_load1 rfl rfl rfl Tryz.isAgg261 rfl (ldD rfl rfl xE xM (sub1 (by exact rfl))) ?_ | refine c_load1 rfl rfl rfl Tryz.isAgg261 rfl (ldDC (k := 0) rfl rfl xE xM (sub1 (by exact rfl))) ?_ | refine c_load1 rfl rfl rfl Tryz.isAgg261 rfl (ldDC rfl rfl xE xM (sub1 (by exact rfl))) ?_
    refine c_move rfl rfl rfl rfl (by conv => lhs; whnf) ?_
    refine c_indexAddrA1 rfl rfl rfl rfl Tryz.underlying294 Tryz.sizeOf261 rfl rfl xD ?_
    first | refine c_load1 rfl rfl rfl Tryz.isAgg261 rfl (ldD rfl rfl xE xM (sub1 (by exact rfl))) ?_ | refine c_load1 rfl rfl rfl Tryz.isAgg261 rfl (ldDC (k := 0) rfl rfl xE xM (sub1 (by exact rfl))) ?_ | refine c_load1 rfl rfl rfl Tryz.isAgg261 rfl (ldDC rfl rfl xE xM (sub1 (by exact rfl))) ?_
    refine can_forget rfl ?_
    refine n_add rfl rfl rfl rfl rfl rfl rfl ?_
    refine c_indexAddrA1 rfl rfl rfl rfl Tryz.underlying294 Tryz.sizeOf261 rfl rfl xD ?_
    refine c_store1 rfl rfl rfl Tryz.sizeOf261 rfl (by conv => lhs; whnf) xF rfl (by first | exact Nat.le_of_ble_eq_true rfl | (simp [ne_length, wlist_length] <;> omega)) (by (try simp only [List.set_cons_zero, List.set_cons_succ]); exact rfl) (by (try simp only [List.cons_append, List.nil_append]); exact rfl) (Or.inl rfl) ?_
    refine can_nil ?_
    refine ps_block_normal ?_
    refine ps_then ?_
    refine cs_seq_region [0, 1] rfl ?_
    first | refine c_addI rfl rfl rfl rfl rfl rfl xW ?_ | refine c_add rfl rfl rfl rfl rfl rfl ?_
    refine c_move rfl rfl rfl rfl (by conv => lhs; whnf) ?_
    refine can_nil ?_
    refine ps_rs ?_
    refine rs_succ ?_
    refine cs_seq ?_
    refine cs_seq_region [0] rfl ?_
    refine c_lss rfl rfl rfl rfl rfl rfl ?_
    refine can_nil ?_
    refine ps_then ?_
    refine cs_seq ?_
    refine cs_true rfl ?_
    refine cs_skip ?_
    refine ps_then ?_
    refine cs_seq ?_
    refine cs_block ?_
    refine cs_seq ?_
    refine cs_seq_region [0, 1] rfl ?_
    refine c_move rfl rfl rfl rfl (by conv => lhs; whnf) ?_
    refine c_assign rfl rfl rfl rfl (by conv => lhs; whnf) ?_
    refine can_nil ?_
    refine ps_then ?_
    refine cs_draw_region [0, 0, 1, 0, 0, 1, 0, 0, 2] [false, false, false, false, false, false, false, false, false] [0, 1, 2, 3, 4, 5, 6, 7, 8] (by kernel_rfl) (by kernel_rfl) (by kernel_rfl) (by kernel_rfl) xQ ?_
    refine c_move rfl rfl rfl rfl (by conv => lhs; whnf) ?_
    refine c_indexAddrA1 rfl rfl rfl rfl Tryz.underlying294 Tryz.sizeOf261 rfl rfl xD ?_
    first | refine c_load1 rfl rfl rfl Tryz.isAgg261 rfl (ldD rfl rfl xE xM (sub1 (by exact rfl))) ?_ | refine c_load1 rfl rfl rfl Tryz.isAgg261 rfl (ldDC (k := 0) rfl rfl xE xM (sub1 (by exact rfl))) ?_ | refine c_load1 rfl rfl rfl Tryz.isAgg261 rfl (ldDC rfl rfl xE xM (sub1 (by exact rfl))) ?_
    refine c_move rfl rfl rfl rfl (by conv => lhs; whnf) ?_
    refine c_indexAddrA1 rfl rfl rfl rfl Tryz.underlying294 Tryz.sizeOf261 rfl rfl xD ?_
    first | refine c_load1 rfl rfl rfl Tryz.isAgg261 rfl (ldD rfl rfl xE xM (sub1 (by exact rfl))) ?_ | refine c_load1 rfl rfl rfl Tryz.isAgg261 rfl (ldDC (k := 0) rfl rfl xE xM (sub1 (by exact rfl))) ?_ | refine c_load1 rfl rfl rfl Tryz.isAgg261 rfl (ldDC rfl rfl xE xM (sub1 (by exact rfl))) ?_
    refine can_forget rfl ?_
    refine n_add rfl rfl rfl rfl rfl rfl rfl ?_
    refine c_indexAddrA1 rfl rfl rfl rfl Tryz.underlying294 Tryz.sizeOf261 rfl rfl xD ?_
    refine c_store1 rfl rfl rfl Tryz.sizeOf261 rfl (by conv => lhs; whnf) xF rfl (by first | exact Nat.le_of_ble_eq_true rfl | (simp [ne_length, wlist_length] <;> omega)) (by (try simp only [List.set_cons_zero, List.set_cons_succ]); exact rfl) (by (try simp only [List.cons_append, List.nil_append]); exact rfl) (Or.inl rfl) ?_
    refine can_nil ?_
    refine ps_block_normal ?_
    refine ps_then ?_
    refine cs_seq_region [0, 1] rfl ?_
    first | refine c_addI rfl rfl rfl rfl rfl rfl xW ?_ | refine c_add rfl rfl rfl rfl rfl rfl ?_
    refine c_move rfl rfl rfl rfl (by conv => lhs; whnf) ?_
    refine can_nil ?_
    refine ps_rs ?_
    refine rs_succ ?_
    refine cs_seq ?_
    refine cs_seq_region [0] rfl ?_
    refine c_lss rfl rfl rfl rfl rfl rfl ?_
    refine can_nil ?_
    refine ps_then ?_
    refine cs_seq ?_
    refine cs_true rfl ?_
    refine cs_skip ?_
    refine ps_then ?_
    refine cs_seq ?_
    refine cs_block ?_
    refine cs_seq ?_
    refine cs_seq_region [0, 1] rfl ?_
    refine c_move rfl rfl rfl rfl (by conv => lhs; whnf) ?_
    refine c_assign rfl rfl rfl rfl (by conv => lhs; whnf) ?_
    refine can_nil ?_
    refine ps_then ?_
    refine cs_draw_region [0, 0, 1, 0, 0, 1, 0, 0, 2] [false, false, false, false, false, false, false, false, false] [0, 1, 2, 3, 4, 5, 6, 7, 8] (by kernel_rfl) (by kernel_rfl) (by kernel_rfl) (by kernel_rfl) xQ ?_
    refine c_move rfl rfl rfl rfl (by conv => lhs; whnf) ?_
    refine c_indexAddrA1 rfl rfl rfl rfl Tryz.underlying294 Tryz.sizeOf261 rfl rfl xD ?_
    first | refine c_load1 rfl rfl rfl Tryz.isAgg261 rfl (ldD rfl rfl xE xM (sub1 (by exact rfl))) ?_ | refine c_load1 rfl rfl rfl Tryz.isAgg261 rfl (ldDC (k := 0) rfl rfl xE xM (sub1 (by exact rfl))) ?_ | refine c_load1 rfl rfl rfl Tryz.isAgg261 rfl (ldDC rfl rfl xE xM (sub1 (by exact rfl))) ?_
    refine c_move rfl rfl rfl rfl (by conv => lhs; whnf) ?_
    refine c_indexAddrA1 rfl rfl rfl rfl Tryz.underlying294 Tryz.sizeOf261 rfl rfl xD ?_
    first | refine c_load1 rfl rfl rfl Tryz.isAgg261 rfl (ldD rfl rfl xE xM (sub1 (by exact rfl))) ?_ | refine c_load1 rfl rfl rfl Tryz.isAgg261 rfl (ldDC (k := 0) rfl rfl xE xM (sub1 (by exact rfl))) ?_ | refine c_load1 rfl rfl rfl Tryz.isAgg261 rfl (ldDC rfl rfl xE xM (sub1 (by exact rfl))) ?_
    refine can_forget rfl ?_
    refine n_add rfl rfl rfl rfl rfl rfl rfl ?_
    refine c_indexAddrA1 rfl rfl rfl rfl Tryz.underlying294 Tryz.sizeOf261 rfl rfl xD ?_
    refine c_store1 rfl rfl rfl Tryz.sizeOf261 rfl (by conv => lhs; whnf) xF rfl (by first | exact Nat.le_of_ble_eq_true rfl | (simp [ne_length, wlist_length] <;> omega)) (by (try simp only [List.set_cons_zero, List.set_cons_succ]); exact rfl) (by (try simp only [List.cons_append, List.nil_append]); exact rfl) (Or.inl rfl) ?_
    refine can_nil ?_
    refine ps_block_normal ?_
    refine ps_then ?_
    refine cs_seq_region [0, 1] rfl ?_
    first | refine c_addI rfl rfl rfl rfl rfl rfl xW ?_ | refine c_add rfl rfl rfl rfl rfl rfl ?_
    refine c_move rfl rfl rfl rfl (by conv => lhs; whnf) ?_
    refine can_nil ?_
    refine ps_rs ?_
    refine rs_succ ?_
    refine cs_seq ?_
    refine cs_seq_region [0] rfl ?_
    refine c_lss rfl rfl rfl rfl rfl rfl ?_
    refine can_nil ?_
    refine ps_then ?_
    refine cs_seq ?_
    refine cs_true rfl ?_
    refine cs_skip ?_
    refine ps_then ?_
    refine cs_seq ?_
    refine cs_block ?_
    refine cs_seq ?_
    refine cs_seq_region [0, 1] rfl ?_
    refine c_move rfl rfl rfl rfl (by conv => lhs; whnf) ?_
    refine c_assign rfl rfl rfl rfl (by conv => lhs; whnf) ?_
    refine can_nil ?_
    refine ps_then ?_
    refine cs_draw_region [0, 0, 1, 0, 0, 1, 0, 0, 2] [false, false, false, false, false, false, false, false, false] [0, 1, 2, 3, 4, 5, 6, 7, 8] (by kernel_rfl) (by kernel_rfl) (by kernel_rfl) (by kernel_rfl) xQ ?_
    refine c_move rfl rfl rfl rfl (by conv => lhs; whnf) ?_
    refine c_indexAddrA1 rfl rfl rfl rfl Tryz.underlying294 Tryz.sizeOf261 rfl rfl xD ?_
    first | refine c_load1 rfl rfl rfl Tryz.isAgg261 rfl (ldD rfl rfl xE xM (sub1 (by exact rfl))) ?_ | refine c_load1 rfl rfl rfl Tryz.isAgg261 rfl (ldDC (k := 0) rfl rfl xE xM (sub1 (by exact rfl))) ?_ | refine c_load1 rfl rfl rfl Tryz.isAgg261 rfl (ldDC rfl rfl xE xM (sub1 (by exact rfl))) ?_
    refine c_move rfl rfl rfl rfl (by conv => lhs; whnf) ?_
    refine c_indexAddrA1 rfl rfl rfl rfl Tryz.underlying294 Tryz.sizeOf261 rfl rfl xD ?_
    first | refine c_load1 rfl rfl rfl Tryz.isAgg261 rfl (ldD rfl rfl xE xM (sub1 (by exact rfl))) ?_ | refine c_load1 rfl rfl rfl Tryz.isAgg261 rfl (ldDC (k := 0) rfl rfl xE xM (sub1 (by exact rfl))) ?_ | refine c_load1 rfl rfl rfl Tryz.isAgg261 rfl (ldDC rfl rfl xE xM (sub1 (by exact rfl))) ?_
    refine can_forget rfl ?_
    refine n_add rfl rfl rfl rfl rfl rfl rfl ?_
    refine c_indexAddrA1 rfl rfl rfl rfl Tryz.underlying294 Tryz.sizeOf261 rfl rfl xD ?_
    refine c_store1 rfl rfl rfl Tryz.sizeOf261 rfl (by conv => lhs; whnf) xF rfl (by first | exact Nat.le_of_ble_eq_true rfl | (simp [ne_length, wlist_length] <;> omega)) (by (try simp only [List.set_cons_zero, List.set_cons_succ]); exact rfl) (by (try simp only [List.cons_append, List.nil_append]); exact rfl) (Or.inl rfl) ?_
    refine can_nil ?_
    refine ps_block_normal ?_
    refine ps_then ?_
    refine cs_seq_region [0, 1] rfl ?_
    first | refine c_addI rfl rfl rfl rfl rfl rfl xW ?_ | refine c_add rfl rfl rfl rfl rfl rfl ?_
    refine c_move rfl rfl rfl rfl (by conv => lhs; whnf) ?_
    refine can_nil ?_
    refine ps_rs ?_
    refine rs_succ ?_
    refine cs_seq ?_
    refine cs_seq_region [0] rfl ?_
    refine c_lss rfl rfl rfl rfl rfl rfl ?_
    refine can_nil ?_
    refine ps_then ?_
    refine cs_seq ?_
    refine cs_false rfl ?_
    refine cs_exit ?_
    refine ps_then_exit ?_
    refine ps_then_exit ?_
    refine ps_block_here ?_
    refine ps_then ?_
    refine cs_seq ?_
    refine cs_seq_region [0, 1] rfl ?_
    first | refine c_loadN rfl rfl rfl Tryz.isAgg294 Tryz.sizeOf294 rfl (ldS rfl rfl xM subAll) (by first | (simp [ne_length, wlist_length]; done) | rfl) ?_ | refine c_loadN (cs := [_, _, _, _, _, _, _, _]) rfl rfl rfl Tryz.isAgg294 Tryz.sizeOf294 rfl (ldS rfl rfl xM (subN (m := 8) (by exact rfl))) rfl ?_ | refine c_loadN rfl rfl rfl Tryz.isAgg294 Tryz.sizeOf294 rfl (ldSC (k := 0) rfl rfl xM subAll) (by first | (simp [ne_length, wlist_length]; done) | rfl) ?_
    refine c_storeB rfl rfl rfl Tryz.sizeOf294 rfl rfl xF (by first | (simp [ne_length, wlist_length]; done) | rfl) (by first | (simp [ne_length, wlist_length]; done) | rfl) (by first | exact ne_one _ _ | rfl | simp [Value.oneCell']) (by (try simp only [List.cons_append, List.nil_append]); exact rfl) (Or.inl rfl) ?_
    refine can_nil ?_
    refine ps_then ?_
    refine cs_ret ?_
    apply ps_res1 rfl Tryz.results283 (res_cellN Tryz.isAgg294 Tryz.sizeOf294 rfl xM (by first | (simp [ne_length, wlist_length]; done) | rfl))
    · exact ⟨by rw [show mixS _ _ h blk = vadd _ h v from by rw [hvv]; rfl]; rfl, rfl, rfl⟩
    · exact (.mk xS xS)

end Go.Proofs.YtmodmjekhlnjpaaGreatDoor
namespace Go.Proofs.YtmodmjekhlnjpaaGreatDoor
open Go.RowKit
def beB (sz x : Nat) : List Nat := (List.range sz).map fun i => x / 2 ^ (8 * (sz - 1 - i)) % 2 ^ 8
theorem beB_length (sz x : Nat) : (beB sz x).length = sz := by simp [beB]
theorem beB_take (sz x k : Nat) (h : k < sz) : (beB sz x).take (k + 1) = (beB sz x).take k ++ [x / 2 ^ (8 * (sz - 1 - k)) % 2 ^ 8] := by
  rw [List.take_succ_eq_append_getElem (by rw [beB_length]; exact h)]
  simp [beB]
theorem beB_lt (sz x : Nat) : ∀ y ∈ beB sz x, y < 256 := by
  intro y hy
  obtain ⟨i, _, rfl⟩ := List.mem_map.1 hy
  exact Nat.mod_lt _ (by decide)
def tellN (sz : Nat) (xs : List Nat) : List Nat := xs.flatMap (beB sz)
theorem tellN_length (sz : Nat) (xs : List Nat) : (tellN sz xs).length = xs.length * sz := by
  induction xs with
  | nil => simp [tellN]
  | cons x xs ih => simp only [tellN, List.flatMap_cons, List.length_append, beB_length, List.length_cons] at ih ⊢; rw [ih, Nat.succ_mul, Nat.add_comm]
theorem tellN_take (sz : Nat) (xs : List Nat) (t : Nat) (h : t < xs.length) : tellN sz (xs.take (t + 1)) = tellN sz (xs.take t) ++ beB sz (xs.getD t 0) := by
  rw [List.take_succ_eq_append_getElem h, tellN, List.flatMap_append]
  simp [tellN, List.getD_eq_getElem?_getD, List.getElem?_eq_getElem h]
theorem tellN_lt (sz : Nat) (xs : List Nat) : ∀ y ∈ tellN sz xs, y < 256 := by
  intro y hy
  obtain ⟨x, _, hx⟩ := List.mem_flatMap.1 hy
  exact beB_lt sz x y hx
def v8l (h : V8) : List Nat := [h.a, h.b, h.c, h.d, h.e, h.f, h.g, h.h]
theorem v8c_get (K : IntKind) (h : V8) (t : Nat) (ht : t < 8) : (v8c K h)[((t : Nat) : Int).toNat]? = some (.int K (((v8l h).getD t 0 : Nat) : Int)) := by
  rw [Int.toNat_natCast]
  exact ne_get (k := K) (xs := v8l h) ht
theorem tell_len (sz : Nat) (h : V8) (x t k : Nat) (ht : t ≤ 8) (hs : sz ≤ 8) : ((tellN sz ((v8l h).take t) ++ (beB sz x).take k).length + 1) * 1 ≤ 140737488355328 := by
  have h1 : ((v8l h).take t).length ≤ 8 := by simp; omega
  have h2 : ((beB sz x).take k).length ≤ 8 := by simp [beB_length]; omega
  have h3 := Nat.mul_le_mul h1 hs
  rw [List.length_append, tellN_length]
  omega
/-- A padding. -/
def padLen (sz n : Nat) : Nat := 1 + 2 * sz + (16 * sz - (n + (1 + 2 * sz)) % (16 * sz)) % (16 * sz)
def padRow (sz n i : Nat) : List Nat := 128 :: (List.replicate (padLen sz n - 1 - i) 0 ++ (beB 8 (8 * n)).drop (8 - i))
def padN (sz n : Nat) : List Nat := 128 :: (List.replicate (padLen sz n - 9) 0 ++ beB 8 (8 * n))
theorem padLen_ge (sz n : Nat) (h : 4 ≤ sz) : 9 ≤ padLen sz n := by unfold padLen; omega
theorem padLen_le (sz n : Nat) (h : 0 < sz) : padLen sz n ≤ 1 + 18 * sz := by
  unfold padLen
  have := Nat.mod_lt (16 * sz - (n + (1 + 2 * sz)) % (16 * sz)) (show 0 < 16 * sz by omega)
  omega
theorem padRow_length (sz n i : Nat) (h : 4 ≤ sz) (hi : i ≤ 8) : (padRow sz n i).length = padLen sz n := by
  have := padLen_ge sz n h
  simp [padRow, beB_length]; omega
theorem padRow0 (sz n : Nat) (h : 4 ≤ sz) : (List.replicate (padLen sz n) 0).set 0 128 = padRow sz n 0 := by
  have h9 := padLen_ge sz n h
  obtain ⟨m, hm⟩ : ∃ m, padLen sz n = m + 1 := ⟨padLen sz n - 1, by omega⟩
  have : (beB 8 (8 * n)).drop 8 = [] := List.drop_of_length_le (Nat.le_of_eq (beB_length _ _))
  rw [padRow, hm, List.replicate_succ]
  simp only [Nat.sub_zero, this, List.append_nil, Nat.add_sub_cancel, List.set_cons_zero]
theorem padRow_succ (sz n i : Nat) (h : 4 ≤ sz) (hi : i < 8) : (padRow sz n i).set (padLen sz n - 1 - i) (8 * n / 2 ^ (8 * i) % 2 ^ 8) = padRow sz n (i + 1) := by
  have h9 := padLen_ge sz n h
  obtain ⟨m, hm⟩ : ∃ m, padLen sz n - 1 - i = m + 1 := ⟨padLen sz n - 1 - i - 1, by omega⟩
  have hm' : padLen sz n - 1 - (i + 1) = m := by omega
  have hd : (beB 8 (8 * n)).drop (8 - (i + 1)) = 8 * n / 2 ^ (8 * i) % 2 ^ 8 :: (beB 8 (8 * n)).drop (8 - i) := by
    rw [List.drop_eq_getElem_cons (by rw [beB_length]; omega)]
    congr 1
    · simp only [beB, List.getElem_map, List.getElem_range]
      congr 3
      omega
    · congr 1; omega
  rw [padRow, padRow, hm, hm', hd, List.replicate_succ', List.set_cons_succ, List.append_assoc]
  congr 1
  have := mid_set (A := List.replicate m 0) (B := (beB 8 (8 * n)).drop (8 - i)) (x := 0) (y := 8 * n / 2 ^ (8 * i) % 2 ^ 8) (t := m) (by simp)
  exact this
theorem padPut (sz n i off : Nat) (h : 4 ≤ sz) (hi : i < 8) (ho : off = padLen sz n - 1 - i) : (ne .u8 (padRow sz n i)).set off (.int .u8 ((8 * n / 2 ^ (8 * i) % 2 ^ 8 : Nat) : Int)) = ne .u8 (padRow sz n (i + 1)) := by
  rw [ho, ne_set, padRow_succ sz n i h hi]
theorem padRow8 (sz n : Nat) : padRow sz n 8 = padN sz n := by
  rw [padRow, padN, Nat.sub_self, List.drop_zero]
  congr 2
theorem padN_lt (sz n : Nat) : ∀ y ∈ padN sz n, y < 256 := by
  intro y hy
  rcases List.mem_cons.1 hy with rfl | hy
  · decide
  rcases List.mem_append.1 hy with hy | hy
  · rw [(List.mem_replicate.1 hy).2]; decide
  · exact beB_lt _ _ y hy
theorem padN_length (sz n : Nat) (h : 4 ≤ sz) : (padN sz n).length = padLen sz n := by rw [← padRow8]; exact padRow_length sz n 8 h (Nat.le_refl _)
/-- Blocks of a text put to the eight words, one behind the other. -/
def blks (p : Shp) (kn : Nat → Nat) (h : V8) (xs : List Nat) : Nat → V8
  | 0 => h
  | k + 1 => mixS p kn (blks p kn h xs k) ((xs.drop (k * (16 * p.sz))).take (16 * p.sz))
theorem blks_lt {p : Shp} {kn : Nat → Nat} {h : V8} {xs : List Nat} (hh : V8lt p.b h) : ∀ k, V8lt p.b (blks p kn h xs k)
  | 0 => hh
  | _ + 1 => vadd_lt _ _ _
theorem blks_pre {p : Shp} {kn : Nat → Nat} {h : V8} {xs ys : List Nat} : ∀ k, k * (16 * p.sz) ≤ xs.length → blks p kn h (xs ++ ys) k = blks p kn h xs k
  | 0, _ => rfl
  | k + 1, hk => by
    rw [Nat.succ_mul] at hk
    rw [blks, blks, blks_pre k (by omega)]
    congr 1
    rw [List.drop_append_of_le_length (by omega), List.take_append_of_le_length (by simp; omega)]
theorem blks_add {p : Shp} {kn : Nat → Nat} {h : V8} {xs : List Nat} (j : Nat) : ∀ k, blks p kn h xs (j + k) = blks p kn (blks p kn h xs j) (xs.drop (j * (16 * p.sz))) k
  | 0 => rfl
  | k + 1 => by
    rw [← Nat.add_assoc, blks, blks, blks_add j k, List.drop_drop, Nat.add_mul]
/-- What a hash keeps of its text. -/
def full (p : Shp) (m : List Nat) : Nat := m.length / (16 * p.sz)
def tailOf (p : Shp) (m : List Nat) : List Nat := m.drop (full p m * (16 * p.sz))
theorem full_le (p : Shp) (m : List Nat) : full p m * (16 * p.sz) ≤ m.length := Nat.div_mul_le_self _ _
theorem tail_app (p : Shp) (m b : List Nat) : tailOf p m ++ b = (m ++ b).drop (full p m * (16 * p.sz)) := by
  rw [List.drop_append_of_le_length (full_le p m), tailOf]
theorem full_app (p : Shp) (hp : 0 < p.sz) (m b : List Nat) : full p (m ++ b) = full p m + full p (tailOf p m ++ b) := by
  have h1 := full_le p m
  have h2 : (tailOf p m ++ b).length + full p m * (16 * p.sz) = (m ++ b).length := by rw [tail_app, List.length_drop, List.length_append]; omega
  show (m ++ b).length / _ = _ + (tailOf p m ++ b).length / _
  rw [← h2, Nat.add_mul_div_right _ _ (by omega)]
  omega
theorem tail_len (p : Shp) (hp : 0 < p.sz) (m : List Nat) : (tailOf p m).length < 16 * p.sz := by
  have h1 := Nat.mod_lt m.length (show 0 < 16 * p.sz by omega)
  have h2 := Nat.div_add_mod m.length (16 * p.sz)
  rw [tailOf, List.length_drop, full, Nat.mul_comm]
  omega
/-- A piece more. -/
theorem blks_more (p : Shp) (kn : Nat → Nat) (h : V8) (hp : 0 < p.sz) (m b : List Nat) :
    blks p kn (blks p kn h m (full p m)) (tailOf p m ++ b) (full p (tailOf p m ++ b)) = blks p kn h (m ++ b) (full p (m ++ b)) ∧ (tailOf p m ++ b).drop (full p (tailOf p m ++ b) * (16 * p.sz)) = tailOf p (m ++ b) := by
  constructor
  · rw [full_app p hp m b, blks_add, blks_pre (full p m) (full_le p m), ← tail_app]
  · rw [show tailOf p (m ++ b) = (m ++ b).drop (full p (m ++ b) * (16 * p.sz)) from rfl, full_app p hp m b, Nat.add_mul, ← List.drop_drop, ← tail_app]
/-- The digest of a text. -/
def digestS (p : Shp) (kn : Nat → Nat) (h : V8) (m : List Nat) : List Nat := tellN p.sz (v8l (blks p kn h (m ++ padN p.sz m.length) (full p (m ++ padN p.sz m.length))))
end Go.Proofs.YtmodmjekhlnjpaaGreatDoor
namespace Go.Proofs.YtmodmjekhlnjpaaGreatDoor
open Go.RowKit
theorem info_t5 : (Tryz.prog.info? 5).map (fun i => (i.zero, i.size, i.bytes)) = some (some (.int .u8 0), 1, 1) := by kernel_rfl
theorem info_t22 : (Tryz.prog.info? 22).map (fun i => (i.zero, i.size, i.bytes)) = some (some (.slice none 0 0), 1, 24) := by kernel_rfl
theorem sty_b8 : STy Tryz.prog 22 5 1 1 := STy.mk Tryz.underlying22 info_t5 rfl (by decide) (by decide)
theorem sty_bb : STy Tryz.prog 25 22 1 24 := STy.mk Tryz.underlying25 info_t22 rfl (by decide) (by decide)
end Go.Proofs.YtmodmjekhlnjpaaGreatDoor
namespace Go.Proofs.YtmodmjekhlnjpaaGreatDoor
open Go.RowKit
theorem tell32_ok (h : V8) (w0 : World) (sps : List Sp) (rs : List Fa) :
    FnOk Tryz.prog 221 #[.agg shv32.toArray, .agg (v8c .u32 h).toArray] w0 sps rs fun r s q => Row b8 5 r (tellN 4 (v8l h)) :: sps = s ∧ rs = q := by
  refine fn_enter Tryz.func221 rfl Tryz.ntmps221 rfl ?_
  refine cs_seq ?_
  refine cs_seq_region [0, 1, 2] rfl ?_
  refine c_box rfl rfl rfl rfl rfl (fun _ => Or.inl rfl) (fun g2 => ?_)
  refine c_box rfl rfl rfl rfl rfl (fun _ => Or.inl rfl) (fun g3 => ?_)
  refine c_assign rfl rfl rfl rfl (by conv => lhs; whnf) ?_
  refine can_nil ?_
  refine ps_then ?_
  refine cs_seq ?_
  refine cs_seq_region [0, 1, 2, 3, 4] rfl ?_
  refine c_fieldAddr rfl rfl rfl rfl Tryz.underlying291 rfl Tryz.sizeOf3 rfl rfl ?_
  first | refine c_load1 rfl rfl rfl Tryz.isAgg3 rfl (ldS rfl rfl xM (sub1 (by exact rfl))) ?_ | refine c_load1 rfl rfl rfl Tryz.isAgg3 rfl (ldSC (k := 0) rfl rfl xM (sub1 (by exact rfl))) ?_ | refine c_load1 rfl rfl rfl Tryz.isAgg3 rfl (ldSC rfl rfl xM (sub1 (by exact rfl))) ?_
  first | refine c_mulI rfl rfl rfl rfl rfl rfl xW ?_ | refine c_mul rfl rfl rfl rfl rfl rfl ?_
  refine c_makeRow (dr := b8) (c := 32) rfl rfl rfl rfl Tryz.underlying22 info_t5 rfl rfl rfl (by decide) (by decide) (fun _ => Or.inl rfl) (fun A12 => ?_)
  refine c_assign rfl rfl rfl rfl (by conv => lhs; whnf) ?_
  refine can_nil ?_
  refine ps_then ?_
  refine cs_seq ?_
  refine cs_seq ?_
  refine cs_seq_region [0, 1] rfl ?_
  first | refine c_loadN rfl rfl rfl Tryz.isAgg294 Tryz.sizeOf294 rfl (ldS rfl rfl xM subAll) (by first | (simp [ne_length, wlist_length]; done) | rfl) ?_ | refine c_loadN (cs := [_, _, _, _, _, _, _, _]) rfl rfl rfl Tryz.isAgg294 Tryz.sizeOf294 rfl (ldS rfl rfl xM (subN (m := 8) (by exact rfl))) rfl ?_ | refine c_loadN rfl rfl rfl Tryz.isAgg294 Tryz.sizeOf294 rfl (ldSC (k := 0) rfl rfl xM subAll) (by first | (simp [ne_length, wlist_length]; done) | rfl) ?_
  refine c_move rfl rfl rfl rfl (by conv => lhs; whnf) ?_
  refine can_nil ?_
  refine ps_then ?_
  refine cs_block ?_
  refine cs_loopS [5, 7, 8, 14, 15, 16, 17, 18, 19, 20, 21, 22, 23, 24, 25, 26, 27, 28, 29, 30, 31, 32] (fun m L s r => ∃ (t : Nat) (v : Value), t ≤ 8 ∧ m = 8 - t ∧ L = [(14, .int .i64 (t : Int)), (5, v)] ∧ s = Row b8 5 v (tellN 4 ((v8l h).take t)) :: Bk g3 (v8c .u32 h) 294 :: Bk g2 shv32 291 :: sps ∧ rs = r) [(14, .int .i64 (0 : Nat)), (5, A12)] (⟨rfl, rfl, trivial⟩) (⟨0, A12, by omega, rfl, rfl, rfl, rfl⟩) ?_
  rintro k0 f0 _ _ _ ⟨t, v0, ht, rfl, rfl, rfl, rfl⟩
  refine cs_seq ?_
  refine cs_seq_region [0] rfl ?_
  refine c_lss rfl rfl rfl rfl rfl rfl ?_
  refine can_nil ?_
  refine ps_then ?_
  refine cs_seq ?_
  refine cs_cond rfl (fun hc1 => ?_) (fun hc1 => ?_)
  · simp at hc1
    refine cs_skip ?_
    refine ps_then ?_
    refine cs_seq ?_
    refine cs_block ?_
    refine cs_seq ?_
    refine cs_seq_region [0, 1] rfl ?_
    refine c_index1 rfl rfl rfl rfl Tryz.underlying294 Tryz.isAgg261 Tryz.sizeOf261 rfl rfl (by omega) (v8c_get _ h t (by omega)) ?_
    refine c_assign rfl rfl rfl rfl (by conv => lhs; whnf) ?_
    refine can_nil ?_
    refine ps_then ?_
    refine cs_seq ?_
    refine cs_seq_region [0, 1, 2, 3] rfl ?_
    refine c_fieldAddr rfl rfl rfl rfl Tryz.underlying291 rfl Tryz.sizeOf3 rfl rfl ?_
    first | refine c_load1 rfl rfl rfl Tryz.isAgg3 rfl (ldS rfl rfl xM (sub1 (by exact rfl))) ?_ | refine c_load1 rfl rfl rfl Tryz.isAgg3 rfl (ldSC (k := 0) rfl rfl xM (sub1 (by exact rfl))) ?_ | refine c_load1 rfl rfl rfl Tryz.isAgg3 rfl (ldSC rfl rfl xM (sub1 (by exact rfl))) ?_
    first | refine c_subI rfl rfl rfl rfl rfl rfl xW ?_ | refine c_sub rfl rfl rfl rfl rfl rfl ?_
    refine c_assign rfl rfl rfl rfl (by conv => lhs; whnf) ?_
    refine can_nil ?_
    refine ps_then ?_
    refine cs_block ?_
    refine cs_loopS [5, 8, 20, 21, 22, 23, 24, 25, 26, 27, 28, 29, 30, 31] (fun m L s r => ∃ (k : Nat) (v : Value), k ≤ 4 ∧ m = 4 - k ∧ L = [(8, .int .i64 ((4 : Int) - 1 - k)), (5, v)] ∧ s = Row b8 5 v (tellN 4 ((v8l h).take t) ++ (beB 4 ((v8l h).getD t 0)).take k) :: Bk g3 (v8c .u32 h) 294 :: Bk g2 shv32 291 :: sps ∧ rs = r) [(8, .int .i64 ((4 : Int) - 1 - (0 : Nat))), (5, v0)] (⟨rfl, rfl, trivial⟩) (⟨0, v0, by omega, rfl, rfl, by rw [List.take_zero, List.append_nil], rfl⟩) ?_
    rintro k1 f1 _ _ _ ⟨k, v, hk, rfl, rfl, rfl, rfl⟩
    refine cs_seq ?_
    refine cs_seq ?_
    refine cs_seq_region [0, 1] rfl ?_
    refine c_move rfl rfl rfl rfl (by conv => lhs; whnf) ?_
    refine c_geq rfl rfl rfl rfl rfl rfl ?_
    refine can_nil ?_
    refine ps_then ?_
    refine cs_cond rfl (fun hc2 => ?_) (fun hc2 => ?_)
    · simp at hc2
      refine cs_skip ?_
      refine ps_then ?_
      refine cs_seq ?_
      refine cs_block ?_
      refine cs_seq_region [0, 1, 2, 3, 4, 5, 6, 7, 8] rfl ?_
      refine c_move rfl rfl rfl rfl (by conv => lhs; whnf) ?_
      refine c_move rfl rfl rfl rfl (by conv => lhs; whnf) ?_
      refine c_move rfl rfl rfl rfl (by conv => lhs; whnf) ?_
      first | refine c_mulI rfl rfl rfl rfl rfl rfl xW ?_ | refine c_mul rfl rfl rfl rfl rfl rfl ?_
      refine n_shr (b := 8 * (4 - 1 - k)) rfl rfl rfl rfl rfl rfl (by omega) (by show _ ≤ 32; omega) ?_
      refine n_conv rfl rfl rfl rfl Tryz.underlying261 Tryz.underlying5 rfl rfl ?_
      refine c_lit (cs := [_]) rfl rfl rfl rfl Tryz.underlying22 Tryz.sizeOf5 Tryz.zeroValue5 rfl rfl rfl rfl rfl (fun _ => Or.inl rfl) (fun g30 => ?_)
      refine c_append1 (dr := b8) (ys := [((v8l h).getD t 0) / 2 ^ (8 * (4 - 1 - k)) % 2 ^ 8]) rfl rfl rfl rfl sty_b8 rfl rfl (by repeat (first | exact Rem.here | apply Rem.there)) xF rfl (fun hh _ => b8_reps (by intro y hy; rw [List.mem_singleton.1 hy]; exact Nat.mod_lt _ (by decide))) (tell_len _ h _ t k ht (by decide)) (fun _ => Or.inl rfl) (fun A31 => ?_)
      refine c_assign rfl rfl rfl rfl (by conv => lhs; whnf) ?_
      refine can_nil ?_
      refine ps_block_normal ?_
      refine ps_then ?_
      refine cs_seq_region [0, 1, 2] rfl ?_
      refine c_move rfl rfl rfl rfl (by conv => lhs; whnf) ?_
      first | refine c_subI rfl rfl rfl rfl rfl rfl xW ?_ | refine c_sub rfl rfl rfl rfl rfl rfl ?_
      refine c_assign rfl rfl rfl rfl (by conv => lhs; whnf) ?_
      refine can_nil ?_
      refine ps_roundS [(8, .int .i64 ((4 : Int) - 1 - ((k + 1 : Nat) : Int))), (5, A31)] ⟨by show Value.int _ _ = Value.int _ _; congr 1; omega, rfl, trivial⟩ (by repeat (first | exact Mix.base | refine Mix.upd rfl ?_ | refine Mix.upds rfl ?_ | refine Mix.mix rfl ?_ | exact Mix.refl)) (4 - (k + 1)) (by omega) (⟨k + 1, A31, by omega, rfl, rfl, by rw [beB_take _ _ _ (show k < 4 by omega), ← List.append_assoc], rfl⟩) (.mk xS xS)
    · simp at hc2
      refine cs_exit ?_
      refine ps_then_exit ?_
      refine ps_then_exit ?_
      refine ps_block_here ?_
      refine ps_block_normal ?_
      refine ps_then ?_
      refine cs_seq_region [0, 1] rfl ?_
      first | refine c_addI rfl rfl rfl rfl rfl rfl xW ?_ | refine c_add rfl rfl rfl rfl rfl rfl ?_
      refine c_move rfl rfl rfl rfl (by conv => lhs; whnf) ?_
      refine can_nil ?_
      have ek : k = 4 := by omega
      subst ek
      rw [List.take_of_length_le (Nat.le_of_eq (beB_length _ _))]
      refine ps_roundS [(14, .int .i64 ((t + 1 : Nat) : Int)), (5, v)] ⟨rfl, rfl, trivial⟩ (by repeat (first | exact Mix.base | refine Mix.upd rfl ?_ | refine Mix.upds rfl ?_ | refine Mix.mix rfl ?_ | exact Mix.refl)) (8 - (t + 1)) (by omega) (⟨t + 1, v, by omega, rfl, rfl, by rw [tellN_take _ _ _ (show t < 8 by omega)], rfl⟩) (.mk xS xS)
  · simp at hc1
    have et : t = 8 := by omega
    subst et
    refine cs_exit ?_
    refine ps_then_exit ?_
    refine ps_then_exit ?_
    refine ps_block_here ?_
    refine ps_then ?_
    refine cs_seq ?_
    refine cs_seq_region [0, 1] rfl ?_
    refine c_move rfl rfl rfl rfl (by conv => lhs; whnf) ?_
    refine c_assign rfl rfl rfl rfl (by conv => lhs; whnf) ?_
    refine can_nil ?_
    refine ps_then ?_
    refine cs_ret ?_
    refine ps_en (en_sub (sps' := Row b8 5 _ (tellN 4 (v8l h)) :: sps) (by repeat (first | exact List.Sublist.refl _ | apply List.Sublist.cons_cons | apply List.Sublist.cons))) ?_
    rintro _ _ ⟨rfl, rfl⟩
    apply ps_end1 rfl Tryz.results221 (by conv => lhs; whnf)
    · exact ⟨rfl, rfl⟩
    · exact (.mk xS xS)

end Go.Proofs.YtmodmjekhlnjpaaGreatDoor
