/- The proof of PressAnswers, part 6 of 14 (texts joined and shortened by a program: Press1 Press2 MetaS Meta1 Meta2 Pure RefS PSha PMer PWire PPress PMan LfL PLaw). -/
import Derived.Test.YtmodmjekhlnjpaaGreatDoorPkA5
namespace Go.Proofs.YtmodmjekhlnjpaaGreatDoor
open Go.RowKit
theorem chunk_arg (s1 s2 s3 vb : Value) (c : Int) (p : Int) (xs : List Nat) (w0 : World) (sps : List Sp) (rs : List Fa) (hst : Cl 7 0 startsV ∈ rs) (hct : Cl 8 0 constsV ∈ rs) (hv : Rd b8 vb xs ∈ rs) (hn : xs.length ≤ 6000) (hc : c < 64 ∨ c > 1024) :
    FnOk Tryz.prog 12 #[.agg #[s1, s2, s3, vb, .int .i64 c], .int .i64 p] w0 sps rs fun r s q => r = .tuple #[.slice none 0 0, .int .i64 1] ∧ sps = s ∧ rs = q := by
  refine fn_en (en_shape hv) ?_
  rintro _ _ ⟨rfl, rfl, A0, c0, rfl, hcA0, hAA0, hMA0⟩
  refine fn_enter Tryz.func12 rfl Tryz.ntmps12 rfl ?_
  refine cs_seq ?_
  refine cs_seq_region [0, 1, 2] rfl ?_
  refine c_box rfl rfl rfl rfl rfl (fun _ => Or.inl rfl) (fun g2 => ?_)
  refine c_assign rfl rfl rfl rfl (by conv => lhs; whnf) ?_
  refine c_assign rfl rfl rfl rfl (by conv => lhs; whnf) ?_
  refine can_nil ?_
  refine ps_then ?_
  refine cs_seq ?_
  refine cs_seq_region [0, 1, 2, 3, 4, 5, 6, 7, 8, 9] rfl ?_
  refine c_fieldAddr rfl rfl rfl rfl Tryz.underlying33 rfl Tryz.sizeOf22 rfl rfl ?_
  first | refine c_load1 rfl rfl rfl Tryz.isAgg22 rfl (ldS rfl rfl xM (sub1 (by exact rfl))) ?_ | refine c_load1 rfl rfl rfl Tryz.isAgg22 rfl (ldSC (k := 0) rfl rfl xM (sub1 (by exact rfl))) ?_ | refine c_load1 rfl rfl rfl Tryz.isAgg22 rfl (ldSC rfl rfl xM (sub1 (by exact rfl))) ?_
  refine c_fieldAddr rfl rfl rfl rfl Tryz.underlying33 rfl Tryz.sizeOf2 rfl rfl ?_
  first | refine c_load1 rfl rfl rfl Tryz.isAgg2 rfl (ldS rfl rfl xM (sub1 (by exact rfl))) ?_ | refine c_load1 rfl rfl rfl Tryz.isAgg2 rfl (ldSC (k := 0) rfl rfl xM (sub1 (by exact rfl))) ?_ | refine c_load1 rfl rfl rfl Tryz.isAgg2 rfl (ldSC rfl rfl xM (sub1 (by exact rfl))) ?_
  refine c_call rfl rfl rfl rfl Tryz.call35 (cut_arg c _ xs w0 _ _ hc xM) (by exact rfl) (fun _ _ _ _ => Or.inl rfl) ?_
  rintro _ _ _ ⟨rfl, rfl, rfl⟩
  refine c_move rfl rfl rfl rfl (by conv => lhs; whnf) ?_
  refine c_extract rfl rfl rfl rfl rfl rfl ?_
  refine c_extract rfl rfl rfl rfl rfl rfl ?_
  refine c_assign rfl rfl rfl rfl (by conv => lhs; whnf) ?_
  refine c_assign rfl rfl rfl rfl (by conv => lhs; whnf) ?_
  refine can_nil ?_
  refine ps_then ?_
  refine cs_seq ?_
  refine cs_seq ?_
  refine cs_seq_region [0, 1, 2, 3, 4, 5, 6, 7, 8, 9, 10, 11] rfl ?_
  refine c_move rfl rfl rfl rfl (by conv => lhs; whnf) ?_
  refine c_neq rfl rfl rfl rfl rfl rfl ?_
  refine c_move rfl rfl rfl rfl (by conv => lhs; whnf) ?_
  refine can_known 28 true rfl (rfl) ?_
  refine can_skip rfl rfl rfl (Or.inl rfl) ?_
  refine can_skip rfl rfl rfl (Or.inl rfl) ?_
  refine c_pick rfl rfl rfl rfl rfl (by conv => lhs; whnf) ?_
  refine c_move rfl rfl rfl rfl (by conv => lhs; whnf) ?_
  refine can_skip rfl rfl rfl (Or.inl rfl) ?_
  refine can_skip rfl rfl rfl (Or.inl rfl) ?_
  refine can_skip rfl rfl rfl (Or.inl rfl) ?_
  refine can_skip rfl rfl rfl (Or.inl rfl) ?_
  refine c_pick rfl rfl rfl rfl rfl (by conv => lhs; whnf) ?_
  refine can_nil ?_
  refine ps_then ?_
  refine cs_true rfl ?_
  refine cs_seq ?_
  refine cs_seq_region [0, 1] rfl ?_
  refine c_assign rfl rfl rfl rfl (by conv => lhs; whnf) ?_
  refine c_assign rfl rfl rfl rfl (by conv => lhs; whnf) ?_
  refine can_nil ?_
  refine ps_then ?_
  refine cs_ret ?_
  refine ps_then_ret ?_
  apply ps_end2 rfl Tryz.results12 (by conv => lhs; whnf) (by conv => lhs; whnf)
  · exact ⟨rfl, rfl, rfl⟩
  · exact (.mk xS xS)

theorem chunk_out (s1 s2 s3 vb : Value) (c : Nat) (p : Int) (xs : List Nat) (w0 : World) (sps : List Sp) (rs : List Fa) (hst : Cl 7 0 startsV ∈ rs) (hct : Cl 8 0 constsV ∈ rs) (hv : Rd b8 vb xs ∈ rs) (hn : xs.length ≤ 6000) (hc : 64 ≤ c) (hc2 : c ≤ 1024) (hp : p < 0 ∨ (cntN xs.length c : Int) ≤ p) :
    FnOk Tryz.prog 12 #[.agg #[s1, s2, s3, vb, .int .i64 (c : Int)], .int .i64 p] w0 sps rs fun r s q => r = .tuple #[.slice none 0 0, .int .i64 1] ∧ sps = s ∧ rs = q := by
  refine fn_en (en_shape hv) ?_
  rintro _ _ ⟨rfl, rfl, A0, c0, rfl, hcA0, hAA0, hMA0⟩
  refine fn_enter Tryz.func12 rfl Tryz.ntmps12 rfl ?_
  refine cs_seq ?_
  refine cs_seq_region [0, 1, 2] rfl ?_
  refine c_box rfl rfl rfl rfl rfl (fun _ => Or.inl rfl) (fun g2 => ?_)
  refine c_assign rfl rfl rfl rfl (by conv => lhs; whnf) ?_
  refine c_assign rfl rfl rfl rfl (by conv => lhs; whnf) ?_
  refine can_nil ?_
  refine ps_then ?_
  refine cs_seq ?_
  refine cs_seq_region [0, 1, 2, 3, 4, 5, 6, 7, 8, 9] rfl ?_
  refine c_fieldAddr rfl rfl rfl rfl Tryz.underlying33 rfl Tryz.sizeOf22 rfl rfl ?_
  first | refine c_load1 rfl rfl rfl Tryz.isAgg22 rfl (ldS rfl rfl xM (sub1 (by exact rfl))) ?_ | refine c_load1 rfl rfl rfl Tryz.isAgg22 rfl (ldSC (k := 0) rfl rfl xM (sub1 (by exact rfl))) ?_ | refine c_load1 rfl rfl rfl Tryz.isAgg22 rfl (ldSC rfl rfl xM (sub1 (by exact rfl))) ?_
  refine c_fieldAddr rfl rfl rfl rfl Tryz.underlying33 rfl Tryz.sizeOf2 rfl rfl ?_
  first | refine c_load1 rfl rfl rfl Tryz.isAgg2 rfl (ldS rfl rfl xM (sub1 (by exact rfl))) ?_ | refine c_load1 rfl rfl rfl Tryz.isAgg2 rfl (ldSC (k := 0) rfl rfl xM (sub1 (by exact rfl))) ?_ | refine c_load1 rfl rfl rfl Tryz.isAgg2 rfl (ldSC rfl rfl xM (sub1 (by exact rfl))) ?_
  refine c_call rfl rfl rfl rfl Tryz.call35 (cut_ok c _ xs w0 _ _ hc hc2 (by omega) xM) (by exact rfl) (fun _ _ _ _ => Or.inl rfl) ?_
  rintro _ _ _ ⟨v1, rfl, rfl, rfl⟩
  refine can_en (en_rowShape (xs := cutN c xs) xM) ?_
  rintro _ _ ⟨rfl, rfl, B1, c1, rfl, -, -, -⟩
  refine c_move rfl rfl rfl rfl (by conv => lhs; whnf) ?_
  refine c_extract rfl rfl rfl rfl rfl rfl ?_
  refine c_extract rfl rfl rfl rfl rfl rfl ?_
  refine c_assign rfl rfl rfl rfl (by conv => lhs; whnf) ?_
  refine c_assign rfl rfl rfl rfl (by conv => lhs; whnf) ?_
  refine can_nil ?_
  refine ps_then ?_
  refine cs_seq ?_
  refine cs_seq ?_
  refine cs_seq_region [0, 1, 2, 3, 4, 5, 6, 7, 8, 9, 10, 11] rfl ?_
  refine c_move rfl rfl rfl rfl (by conv => lhs; whnf) ?_
  refine c_neq rfl rfl rfl rfl rfl rfl ?_
  refine c_move rfl rfl rfl rfl (by conv => lhs; whnf) ?_
  refine can_known 28 false rfl (rfl) ?_
  refine c_move rfl rfl rfl rfl (by conv => lhs; whnf) ?_
  refine c_lss rfl rfl rfl rfl rfl rfl ?_
  refine c_pick rfl rfl rfl rfl rfl (by conv => lhs; whnf) ?_
  refine c_move rfl rfl rfl rfl (by conv => lhs; whnf) ?_
  refine can_split 32 rfl (fun hg2 => ?_) (fun hg2 => ?_)
  · simp at hg2
    refine can_skip rfl rfl rfl (Or.inl rfl) ?_
    refine can_skip rfl rfl rfl (Or.inl rfl) ?_
    refine can_skip rfl rfl rfl (Or.inl rfl) ?_
    refine can_skip rfl rfl rfl (Or.inl rfl) ?_
    refine c_pick rfl rfl rfl rfl rfl (by conv => lhs; whnf) ?_
    refine can_nil ?_
    refine ps_then ?_
    refine cs_true rfl ?_
    refine cs_seq ?_
    refine cs_seq_region [0, 1] rfl ?_
    refine c_assign rfl rfl rfl rfl (by conv => lhs; whnf) ?_
    refine c_assign rfl rfl rfl rfl (by conv => lhs; whnf) ?_
    refine can_nil ?_
    refine ps_then ?_
    refine cs_ret ?_
    refine ps_then_ret ?_
    refine ps_en (en_arr (sps' := sps) (by repeat (first | exact Arr.refl | (refine Arr.cons (by repeat (first | exact Rem.here | apply Rem.there)) ?_) | refine Arr.sub (by repeat (first | exact List.Sublist.refl _ | apply List.Sublist.cons_cons | apply List.Sublist.cons))))) ?_
    rintro _ _ ⟨rfl, rfl⟩
    apply ps_end2 rfl Tryz.results12 (by conv => lhs; whnf) (by conv => lhs; whnf)
    · exact ⟨rfl, rfl, rfl⟩
    · exact (.mk xS xS)
  · simp at hg2
    refine c_move rfl rfl rfl rfl (by conv => lhs; whnf) ?_
    refine c_move rfl rfl rfl rfl (by conv => lhs; whnf) ?_
    refine c_len rfl rfl rfl rfl Tryz.underlying25 rfl ?_
    refine c_geq rfl rfl rfl rfl rfl rfl ?_
    refine c_pick rfl rfl rfl rfl rfl (by conv => lhs; whnf) ?_
    refine can_nil ?_
    refine ps_then ?_
    refine cs_cond rfl (fun _ => ?_) (fun hc3 => Bool.noConfusion (show false = true from hc3.symm.trans (decide_eq_true (by rw [cut_length]; omega))))
    refine cs_seq ?_
    refine cs_seq_region [0, 1] rfl ?_
    refine c_assign rfl rfl rfl rfl (by conv => lhs; whnf) ?_
    refine c_assign rfl rfl rfl rfl (by conv => lhs; whnf) ?_
    refine can_nil ?_
    refine ps_then ?_
    refine cs_ret ?_
    refine ps_then_ret ?_
    refine ps_en (en_arr (sps' := sps) (by repeat (first | exact Arr.refl | (refine Arr.cons (by repeat (first | exact Rem.here | apply Rem.there)) ?_) | refine Arr.sub (by repeat (first | exact List.Sublist.refl _ | apply List.Sublist.cons_cons | apply List.Sublist.cons))))) ?_
    rintro _ _ ⟨rfl, rfl⟩
    apply ps_end2 rfl Tryz.results12 (by conv => lhs; whnf) (by conv => lhs; whnf)
    · exact ⟨rfl, rfl, rfl⟩
    · exact (.mk xS xS)

set_option maxHeartbeats 1000000 in
theorem chunk_ok (s1 s2 s3 vb : Value) (c : Nat) (p : Nat) (xs : List Nat) (w0 : World) (sps : List Sp) (rs : List Fa) (hst : Cl 7 0 startsV ∈ rs) (hct : Cl 8 0 constsV ∈ rs) (hv : Rd b8 vb xs ∈ rs) (hn : xs.length ≤ 6000) (hc : 64 ≤ c) (hc2 : c ≤ 1024) (hp : p < cntN xs.length c) :
    FnOk Tryz.prog 12 #[.agg #[s1, s2, s3, vb, .int .i64 (c : Int)], .int .i64 (p : Int)] w0 sps rs fun r s q => ∃ v, r = .tuple #[v, .int .i64 0] ∧ Row b8 5 v (replyN c xs p) :: sps = s ∧ rs = q := by
  refine fn_en (en_shape hv) ?_
  rintro _ _ ⟨rfl, rfl, A0, c0, rfl, hcA0, hAA0, hMA0⟩
  have hcl := cut_length c xs
  have hcn := cnt_small hc hn hc2
  have hll := leaves_length c xs
  have hwl := walk_len _ (leavesN c xs) p rfl
  have hw32 := walk_32 _ (leavesN c xs) p rfl (leaves_32 c xs)
  have hsl := sent_len (pieceN c xs p) (walkN (leavesN c xs) p) (Nat.le_trans (piece_len c xs p) hc2) hw32 (by omega)
  have hpl := encPs_len (walkN (leavesN c xs) p) hw32 (by omega)
  refine fn_enter Tryz.func12 rfl Tryz.ntmps12 rfl ?_
  refine cs_seq ?_
  refine cs_seq_region [0, 1, 2] rfl ?_
  refine c_box rfl rfl rfl rfl rfl (fun _ => Or.inl rfl) (fun g2 => ?_)
  refine c_assign rfl rfl rfl rfl (by conv => lhs; whnf) ?_
  refine c_assign rfl rfl rfl rfl (by conv => lhs; whnf) ?_
  refine can_nil ?_
  refine ps_then ?_
  refine cs_seq ?_
  refine cs_seq_region [0, 1, 2, 3, 4, 5, 6, 7, 8, 9] rfl ?_
  refine c_fieldAddr rfl rfl rfl rfl Tryz.underlying33 rfl Tryz.sizeOf22 rfl rfl ?_
  first | refine c_load1 rfl rfl rfl Tryz.isAgg22 rfl (ldS rfl rfl xM (sub1 (by exact rfl))) ?_ | refine c_load1 rfl rfl rfl Tryz.isAgg22 rfl (ldSC (k := 0) rfl rfl xM (sub1 (by exact rfl))) ?_ | refine c_load1 rfl rfl rfl Tryz.isAgg22 rfl (ldSC rfl rfl xM (sub1 (by exact rfl))) ?_
  refine c_fieldAddr rfl rfl rfl rfl Tryz.underlying33 rfl Tryz.sizeOf2 rfl rfl ?_
  first | refine c_load1 rfl rfl rfl Tryz.isAgg2 rfl (ldS rfl rfl xM (sub1 (by exact rfl))) ?_ | refine c_load1 rfl rfl rfl Tryz.isAgg2 rfl (ldSC (k := 0) rfl rfl xM (sub1 (by exact rfl))) ?_ | refine c_load1 rfl rfl rfl Tryz.isAgg2 rfl (ldSC rfl rfl xM (sub1 (by exact rfl))) ?_
  refine c_call rfl rfl rfl rfl Tryz.call35 (cut_ok c _ xs w0 _ _ hc hc2 (by omega) xM) (by exact rfl) (fun _ _ _ _ => Or.inl rfl) ?_
  rintro _ _ _ ⟨v1, rfl, rfl, rfl⟩
  refine can_en (en_rowShape (xs := cutN c xs) xM) ?_
  rintro _ _ ⟨rfl, rfl, B1, c1, rfl, -, -, -⟩
  refine can_en (en_give (xs := cutN c xs) (by repeat (first | exact Rem.here | apply Rem.there))) ?_
  rintro _ _ ⟨rfl, rfl⟩
  refine c_move rfl rfl rfl rfl (by conv => lhs; whnf) ?_
  refine c_extract rfl rfl rfl rfl rfl rfl ?_
  refine c_extract rfl rfl rfl rfl rfl rfl ?_
  refine c_assign rfl rfl rfl rfl (by conv => lhs; whnf) ?_
  refine c_assign rfl rfl rfl rfl (by conv => lhs; whnf) ?_
  refine can_nil ?_
  refine ps_then ?_
  refine cs_seq ?_
  refine cs_seq ?_
  refine cs_seq_region [0, 1, 2, 3, 4, 5, 6, 7, 8, 9, 10, 11] rfl ?_
  refine c_move rfl rfl rfl rfl (by conv => lhs; whnf) ?_
  refine c_neq rfl rfl rfl rfl rfl rfl ?_
  refine c_move rfl rfl rfl rfl (by conv => lhs; whnf) ?_
  refine can_known 28 false rfl (rfl) ?_
  refine c_move rfl rfl rfl rfl (by conv => lhs; whnf) ?_
  refine c_lss rfl rfl rfl rfl rfl rfl ?_
  refine c_pick rfl rfl rfl rfl rfl (by conv => lhs; whnf) ?_
  refine c_move rfl rfl rfl rfl (by conv => lhs; whnf) ?_
  refine can_known 32 false rfl (decide_eq_false (by omega)) ?_
  refine c_move rfl rfl rfl rfl (by conv => lhs; whnf) ?_
  refine c_move rfl rfl rfl rfl (by conv => lhs; whnf) ?_
  refine c_len rfl rfl rfl rfl Tryz.underlying25 rfl ?_
  refine c_geq rfl rfl rfl rfl rfl rfl ?_
  refine c_pick rfl rfl rfl rfl rfl (by conv => lhs; whnf) ?_
  refine can_nil ?_
  refine ps_then ?_
  refine cs_cond rfl (fun hc3 => Bool.noConfusion (show true = false from hc3.symm.trans (decide_eq_false (by omega)))) (fun _ => ?_)
  refine cs_skip ?_
  refine ps_then ?_
  refine cs_seq ?_
  refine cs_seq_region [0] rfl ?_
  refine c_assign rfl rfl rfl rfl (by conv => lhs; whnf) ?_
  refine can_nil ?_
  refine ps_then ?_
  refine cs_seq ?_
  refine cs_seq ?_
  refine cs_seq_region [0, 1, 2] rfl ?_
  refine c_move rfl rfl rfl rfl (by conv => lhs; whnf) ?_
  refine c_len rfl rfl rfl rfl Tryz.underlying25 rfl ?_
  refine c_move rfl rfl rfl rfl (by conv => lhs; whnf) ?_
  refine can_nil ?_
  refine ps_then ?_
  refine cs_block ?_
  refine cs_en (en_nilRow bb 22) ?_
  rintro _ _ ⟨rfl, rfl⟩
  refine cs_loopS [8, 9, 10, 11, 12, 40, 41, 42, 43, 44, 45, 46, 47, 48, 49, 50, 51, 52, 53, 54, 55] (fun m L s r => ∃ (t : Nat) (v : Value), t ≤ cntN xs.length c ∧ m = cntN xs.length c - t ∧ L = [(40, .int .i64 (t : Int)), (8, v)] ∧ s = Row bb 22 v ((leavesN c xs).take t) :: Bk g2 [s1, s2, s3, .slice A0 xs.length c0, .int .i64 (c : Int)] 33 :: sps ∧ r = Rd bb (.slice B1 (cutN c xs).length c1) (cutN c xs) :: rs) [(40, .int .i64 (0 : Nat)), (8, .slice none 0 0)] (⟨rfl, rfl, trivial⟩) (⟨0, _, by omega, rfl, rfl, rfl, rfl⟩) ?_
  rintro k0 f0 _ _ _ ⟨t, v, ht, rfl, rfl, rfl, rfl⟩
  refine cs_seq ?_
  refine cs_seq_region [0] rfl ?_
  refine c_lss rfl rfl rfl rfl rfl rfl ?_
  refine can_nil ?_
  refine ps_then ?_
  refine cs_seq ?_
  refine cs_cond rfl (fun hc4 => ?_) (fun hc4 => ?_)
  · simp at hc4
    refine cs_skip ?_
    refine ps_then ?_
    refine cs_seq ?_
    refine cs_block ?_
    refine cs_seq ?_
    refine cs_en (en_openS (d' := b8) (xs := cutN c xs) t (by omega) xM) ?_
    rintro _ _ ⟨gg, off, cq, u, heq, rfl, rfl⟩
    injection heq with e1 e2 e3
    subst e1
    refine cs_seq_region [0, 1, 2, 3, 4] rfl ?_
    refine c_move rfl rfl rfl rfl (by conv => lhs; whnf) ?_
    refine c_indexAddrS1 rfl rfl rfl rfl Tryz.underlying25 Tryz.sizeOf22 rfl rfl xD ?_
    first | refine c_load1 rfl rfl rfl Tryz.isAgg22 rfl (ldS rfl rfl xM (sub1 (by exact rfl))) ?_ | refine c_load1 rfl rfl rfl Tryz.isAgg22 rfl (ldSC (k := 0) rfl rfl xM (sub1 (by exact rfl))) ?_ | refine c_load1 rfl rfl rfl Tryz.isAgg22 rfl (ldSC rfl rfl xM (sub1 (by exact rfl))) ?_
    refine c_assign rfl rfl rfl rfl (by conv => lhs; whnf) ?_
    refine c_assign rfl rfl rfl rfl (by conv => lhs; whnf) ?_
    refine can_nil ?_
    refine ps_then ?_
    refine cs_seq ?_
    refine cs_seq_region [0, 1, 2, 3, 4, 5, 6, 7] rfl ?_
    refine c_move rfl rfl rfl rfl (by conv => lhs; whnf) ?_
    refine c_move rfl rfl rfl rfl (by conv => lhs; whnf) ?_
    refine c_call rfl rfl rfl rfl Tryz.call36 (leaf_ok t _ (cutN c xs)[t] w0 _ _ xM xM (by omega) xM (by rw [cut_get]; exact Nat.le_trans (piece_len _ _ _) hc2)) (by exact rfl) (fun _ _ _ _ => Or.inl rfl) ?_
    rintro _ _ _ ⟨v2, rfl, rfl, rfl⟩
    refine can_en (en_rowShape (xs := leafN t (cutN c xs)[t]) xM) ?_
    rintro _ _ ⟨rfl, rfl, B2, c2, rfl, -, -, -⟩
    refine can_en (en_give (xs := leafN t (cutN c xs)[t]) (by repeat (first | exact Rem.here | apply Rem.there))) ?_
    rintro _ _ ⟨rfl, rfl⟩
    refine c_move rfl rfl rfl rfl (by conv => lhs; whnf) ?_
    refine c_extract rfl rfl rfl rfl rfl rfl ?_
    refine c_extract rfl rfl rfl rfl rfl rfl ?_
    refine c_assign rfl rfl rfl rfl (by conv => lhs; whnf) ?_
    refine c_assign rfl rfl rfl rfl (by conv => lhs; whnf) ?_
    refine can_nil ?_
    refine ps_then ?_
    refine cs_seq_region [0, 1, 2, 3, 4] rfl ?_
    refine c_move rfl rfl rfl rfl (by conv => lhs; whnf) ?_
    refine c_move rfl rfl rfl rfl (by conv => lhs; whnf) ?_
    refine c_lit (cs := [_]) rfl rfl rfl rfl Tryz.underlying25 Tryz.sizeOf22 Tryz.zeroValue22 rfl rfl rfl rfl rfl (fun _ => Or.inl rfl) (fun g53 => ?_)
    refine c_append1 (dr := bb) (ys := [leafN t (cutN c xs)[t]]) rfl rfl rfl rfl sty_bb rfl rfl (by repeat (first | exact Rem.here | apply Rem.there)) xF rfl (fun hh hr => Reps.one1 ⟨_, rfl, hr (Rd b8 _ (leafN t (cutN c xs)[t])) xM⟩) (by simp; omega) (fun _ => Or.inl rfl) (fun A54 => ?_)
    refine c_assign rfl rfl rfl rfl (by conv => lhs; whnf) ?_
    refine can_nil ?_
    refine ps_block_normal ?_
    refine ps_then ?_
    refine cs_seq_region [0, 1] rfl ?_
    first | refine c_addI rfl rfl rfl rfl rfl rfl xW ?_ | refine c_add rfl rfl rfl rfl rfl rfl ?_
    refine c_move rfl rfl rfl rfl (by conv => lhs; whnf) ?_
    refine can_nil ?_
    refine ps_en (en_keep (Rd bb (.slice _ (cutN c xs).length c1) (cutN c xs) :: rs) (by (repeat (refine List.forall_mem_cons.2 ⟨by repeat (first | exact .head _ | assumption | apply List.Mem.tail), ?_⟩)); intro r hr; repeat (first | assumption | apply List.Mem.tail))) ?_
    rintro _ _ ⟨rfl, rfl⟩
    refine ps_roundS [(40, .int .i64 ((t + 1 : Nat) : Int)), (8, _)] ⟨rfl, rfl, trivial⟩ (by repeat (first | exact Mix.base | refine Mix.upd rfl ?_ | refine Mix.upds rfl ?_ | refine Mix.mix rfl ?_ | exact Mix.refl)) (cntN xs.length c - (t + 1)) (by omega) (⟨t + 1, _, by omega, rfl, rfl, by rw [leaves_take c xs t (by omega), ← cut_get c xs t (by omega)], rfl⟩) (.mk xS xS)
  · simp at hc4
    obtain rfl : t = cntN xs.length c := by omega
    rw [List.take_of_length_le (Nat.le_of_eq hll)]
    refine cs_exit ?_
    refine ps_then_exit ?_
    refine ps_then_exit ?_
    refine ps_block_here ?_
    refine ps_then ?_
    refine cs_seq ?_
    refine cs_en (en_rowShape (xs := leavesN c xs) xM) ?_
    rintro _ _ ⟨rfl, rfl, Bl, cl, rfl, -, -, -⟩
    refine cs_en (en_give (xs := leavesN c xs) (by repeat (first | exact Rem.here | apply Rem.there))) ?_
    rintro _ _ ⟨rfl, rfl⟩
    refine cs_en (en_keep (Rd bb (.slice Bl (leavesN c xs).length cl) (leavesN c xs) :: Rd bb (.slice B1 (cutN c xs).length c1) (cutN c xs) :: rs) (by (repeat (refine List.forall_mem_cons.2 ⟨by repeat (first | exact .head _ | assumption | apply List.Mem.tail), ?_⟩)); intro r hr; repeat (first | assumption | apply List.Mem.tail))) ?_
    rintro _ _ ⟨rfl, rfl⟩
    refine cs_seq_region [0, 1, 2, 3, 4, 5, 6, 7] rfl ?_
    refine c_move rfl rfl rfl rfl (by conv => lhs; whnf) ?_
    refine c_move rfl rfl rfl rfl (by conv => lhs; whnf) ?_
    refine c_call rfl rfl rfl rfl Tryz.call37 (prove_ok _ (leavesN c xs) p w0 _ _ xM xM xM (by omega) (by omega) (leaves_32 c xs)) (by exact rfl) (fun _ _ _ _ => Or.inl rfl) ?_
    rintro _ _ _ ⟨v3, rfl, rfl, rfl⟩
    refine can_en (en_rowShape (xs := (walkN (leavesN c xs) p)) xM) ?_
    rintro _ _ ⟨rfl, rfl, B3, c3, rfl, -, -, -⟩
    refine can_en (en_give (xs := (walkN (leavesN c xs) p)) (by repeat (first | exact Rem.here | apply Rem.there))) ?_
    rintro _ _ ⟨rfl, rfl⟩
    refine c_move rfl rfl rfl rfl (by conv => lhs; whnf) ?_
    refine c_extract rfl rfl rfl rfl rfl rfl ?_
    refine c_extract rfl rfl rfl rfl rfl rfl ?_
    refine c_assign rfl rfl rfl rfl (by conv => lhs; whnf) ?_
    refine c_assign rfl rfl rfl rfl (by conv => lhs; whnf) ?_
    refine can_nil ?_
    refine ps_then ?_
    refine cs_seq ?_
    refine cs_en (en_keep (Rd bb (.slice B3 (walkN (leavesN c xs) p).length c3) (walkN (leavesN c xs) p) :: Rd bb (.slice B1 (cutN c xs).length c1) (cutN c xs) :: rs) (by (repeat (refine List.forall_mem_cons.2 ⟨by repeat (first | exact .head _ | assumption | apply List.Mem.tail), ?_⟩)); intro r hr; repeat (first | assumption | apply List.Mem.tail))) ?_
    rintro _ _ ⟨rfl, rfl⟩
    refine cs_seq_region [0] rfl ?_
    refine c_assign rfl rfl rfl rfl (by conv => lhs; whnf) ?_
    refine can_nil ?_
    refine ps_then ?_
    refine cs_seq ?_
    refine cs_seq ?_
    refine cs_seq_region [0, 1, 2] rfl ?_
    refine c_move rfl rfl rfl rfl (by conv => lhs; whnf) ?_
    refine c_len rfl rfl rfl rfl Tryz.underlying25 rfl ?_
    refine c_move rfl rfl rfl rfl (by conv => lhs; whnf) ?_
    refine can_nil ?_
    refine ps_then ?_
    refine cs_block ?_
    refine cs_en (en_nilRow (ndR 0) 99) ?_
    rintro _ _ ⟨rfl, rfl⟩
    refine cs_loopS [15, 17, 64, 65, 66, 67, 68, 69, 70, 71, 72, 73] (fun m L s r => ∃ (t : Nat) (v : Value), t ≤ (walkN (leavesN c xs) p).length ∧ m = (walkN (leavesN c xs) p).length - t ∧ L = [(64, .int .i64 (t : Int)), (15, v)] ∧ s = Row (ndR 0) 99 v (((walkN (leavesN c xs) p).take t).map Nd.byt) :: Bk g2 [s1, s2, s3, .slice A0 xs.length c0, .int .i64 (c : Int)] 33 :: sps ∧ r = Rd bb (.slice B3 (walkN (leavesN c xs) p).length c3) (walkN (leavesN c xs) p) :: Rd bb (.slice B1 (cutN c xs).length c1) (cutN c xs) :: rs) [(64, .int .i64 (0 : Nat)), (15, .slice none 0 0)] (⟨rfl, rfl, trivial⟩) (⟨0, _, by omega, rfl, rfl, rfl, rfl⟩) ?_
    rintro k0 f0 _ _ _ ⟨t, v, ht, rfl, rfl, rfl, rfl⟩
    refine cs_seq ?_
    refine cs_seq_region [0] rfl ?_
    refine c_lss rfl rfl rfl rfl rfl rfl ?_
    refine can_nil ?_
    refine ps_then ?_
    refine cs_seq ?_
    refine cs_cond rfl (fun hc5 => ?_) (fun hc5 => ?_)
    · simp at hc5
      refine cs_skip ?_
      refine ps_then ?_
      refine cs_seq ?_
      refine cs_block ?_
      refine cs_seq ?_
      refine cs_en (en_openS (d' := b8) (xs := (walkN (leavesN c xs) p)) t (by omega) xM) ?_
      rintro _ _ ⟨gg, off, cq, u, heq, rfl, rfl⟩
      injection heq with e1 e2 e3
      subst e1
      refine cs_seq_region [0, 1, 2] rfl ?_
      refine c_indexAddrS1 rfl rfl rfl rfl Tryz.underlying25 Tryz.sizeOf22 rfl rfl xD ?_
      first | refine c_load1 rfl rfl rfl Tryz.isAgg22 rfl (ldS rfl rfl xM (sub1 (by exact rfl))) ?_ | refine c_load1 rfl rfl rfl Tryz.isAgg22 rfl (ldSC (k := 0) rfl rfl xM (sub1 (by exact rfl))) ?_ | refine c_load1 rfl rfl rfl Tryz.isAgg22 rfl (ldSC rfl rfl xM (sub1 (by exact rfl))) ?_
      refine c_assign rfl rfl rfl rfl (by conv => lhs; whnf) ?_
      refine can_nil ?_
      refine ps_then ?_
      refine cs_seq_region [0, 1, 2, 3, 4, 5] rfl ?_
      refine c_move rfl rfl rfl rfl (by conv => lhs; whnf) ?_
      refine c_move rfl rfl rfl rfl (by conv => lhs; whnf) ?_
      refine c_call rfl rfl rfl rfl Tryz.call38 (bytes_ok rep0 _ (walkN (leavesN c xs) p)[t] w0 _ _ xM (by rw [hw32 _ (List.getElem_mem _)]; decide)) (by exact rfl) (fun _ _ _ _ => Or.inl rfl) ?_
      rintro _ _ _ ⟨k, rfl, rfl, rfl⟩
      refine can_en (en_four (ndR_sz 0) (x := .byt (walkN (leavesN c xs) p)[t]) (cs := k) xM) ?_
      rintro _ _ ⟨rfl, rfl, ka, kb, kc, kd, rfl, -, -, -, -⟩
      refine c_lit (cs := [_, _, _, _]) rfl rfl rfl rfl Tryz.underlying96 Tryz.sizeOf99 Tryz.zeroValue99 rfl rfl rfl rfl rfl (fun _ => Or.inl rfl) (fun g71 => ?_)
      refine c_append1 (dr := ndR 0) (ys := [.byt (walkN (leavesN c xs) p)[t]]) rfl rfl rfl rfl sty_nd rfl rfl (by repeat (first | exact Rem.here | apply Rem.there)) xF rfl (fun hh hr => Reps.one1 (hr (Kf (ndR 0) (.byt (walkN (leavesN c xs) p)[t]) [ka, kb, kc, kd]) xM)) (by simp; omega) (fun _ => Or.inl rfl) (fun A72 => ?_)
      refine c_assign rfl rfl rfl rfl (by conv => lhs; whnf) ?_
      refine can_nil ?_
      refine ps_block_normal ?_
      refine ps_then ?_
      refine cs_seq_region [0, 1] rfl ?_
      first | refine c_addI rfl rfl rfl rfl rfl rfl xW ?_ | refine c_add rfl rfl rfl rfl rfl rfl ?_
      refine c_move rfl rfl rfl rfl (by conv => lhs; whnf) ?_
      refine can_nil ?_
      refine ps_en (en_keep (Rd bb (.slice _ (walkN (leavesN c xs) p).length c3) (walkN (leavesN c xs) p) :: Rd bb (.slice B1 (cutN c xs).length c1) (cutN c xs) :: rs) (by (repeat (refine List.forall_mem_cons.2 ⟨by repeat (first | exact .head _ | assumption | apply List.Mem.tail), ?_⟩)); intro r hr; repeat (first | assumption | apply List.Mem.tail))) ?_
      rintro _ _ ⟨rfl, rfl⟩
      refine ps_roundS [(64, .int .i64 ((t + 1 : Nat) : Int)), (15, _)] ⟨rfl, rfl, trivial⟩ (by repeat (first | exact Mix.base | refine Mix.upd rfl ?_ | refine Mix.upds rfl ?_ | refine Mix.mix rfl ?_ | exact Mix.refl)) ((walkN (leavesN c xs) p).length - (t + 1)) (by omega) (⟨t + 1, _, by omega, rfl, rfl, by rw [map_take_succ _ _ t (by omega)], rfl⟩) (.mk xS xS)
    · simp at hc5
      obtain rfl : t = (walkN (leavesN c xs) p).length := by omega
      rw [List.take_length]
      refine cs_exit ?_
      refine ps_then_exit ?_
      refine ps_then_exit ?_
      refine ps_block_here ?_
      refine ps_then ?_
      refine cs_seq ?_
      refine cs_en (en_rowShape (xs := (walkN (leavesN c xs) p).map Nd.byt) xM) ?_
      rintro _ _ ⟨rfl, rfl, Bm, cm, rfl, -, -, -⟩
      refine cs_en (en_give (xs := (walkN (leavesN c xs) p).map Nd.byt) (by repeat (first | exact Rem.here | apply Rem.there))) ?_
      rintro _ _ ⟨rfl, rfl⟩
      refine cs_en (en_openS (d' := b8) (xs := cutN c xs) p (by omega) xM) ?_
      rintro _ _ ⟨gg, off, cq, u, heq, rfl, rfl⟩
      injection heq with e1 e2 e3
      subst e1
      refine cs_seq_region [0, 1, 2, 3, 4, 5, 6, 7, 8, 9, 10, 11, 12, 13, 14] rfl ?_
      refine c_move rfl rfl rfl rfl (by conv => lhs; whnf) ?_
      refine c_move rfl rfl rfl rfl (by conv => lhs; whnf) ?_
      refine c_indexAddrS1 rfl rfl rfl rfl Tryz.underlying25 Tryz.sizeOf22 rfl rfl xD ?_
      first | refine c_load1 rfl rfl rfl Tryz.isAgg22 rfl (ldS rfl rfl xM (sub1 (by exact rfl))) ?_ | refine c_load1 rfl rfl rfl Tryz.isAgg22 rfl (ldSC (k := 0) rfl rfl xM (sub1 (by exact rfl))) ?_ | refine c_load1 rfl rfl rfl Tryz.isAgg22 rfl (ldSC rfl rfl xM (sub1 (by exact rfl))) ?_
      refine c_call rfl rfl rfl rfl Tryz.call38 (bytes_ok (ndR 0) _ (cutN c xs)[p] w0 _ _ xM (by rw [cut_get]; exact Nat.le_trans (piece_len _ _ _) (by omega))) (by exact rfl) (fun _ _ _ _ => Or.inl rfl) ?_
      rintro _ _ _ ⟨k, rfl, rfl, rfl⟩
      refine can_en (en_four (ndR_sz 1) (x := .byt (cutN c xs)[p]) (cs := k) xM) ?_
      rintro _ _ ⟨rfl, rfl, ka, kb, kc, kd, rfl, -, -, -, -⟩
      refine c_move rfl rfl rfl rfl (by conv => lhs; whnf) ?_
      refine c_call rfl rfl rfl rfl Tryz.call40 (list_ok 0 _ ((walkN (leavesN c xs) p).map Nd.byt) w0 _ _ xM (by omega)) (by exact rfl) (fun _ _ _ _ => Or.inl rfl) ?_
      rintro _ _ _ ⟨z, rfl, rfl, rfl⟩
      refine can_en (en_four (ndR_sz 1) (x := .lst ((walkN (leavesN c xs) p).map Nd.byt)) (cs := z) xM) ?_
      rintro _ _ ⟨rfl, rfl, za, zb, zc, zd, rfl, -, -, -, -⟩
      refine c_lit (cs := [_, _, _, _, _, _, _, _]) rfl rfl rfl rfl Tryz.underlying96 Tryz.sizeOf99 Tryz.zeroValue99 rfl rfl rfl rfl rfl (fun _ => Or.inl rfl) (fun g81 => ?_)
      refine can_en (en_asRd (dr := ndR 1) (xs := [.byt (cutN c xs)[p], .lst ((walkN (leavesN c xs) p).map Nd.byt)]) (by repeat (first | exact Rem.here | apply Rem.there)) (fun hh hr => reps2 (hr (Kf (ndR 1) (.byt (cutN c xs)[p]) [ka, kb, kc, kd]) xM) (hr (Kf (ndR 1) (.lst ((walkN (leavesN c xs) p).map Nd.byt)) [za, zb, zc, zd]) xM)) rfl (by simp)) ?_
      rintro _ _ ⟨rfl, rfl⟩
      refine c_call rfl rfl rfl rfl Tryz.call40 (list_ok 1 _ [.byt (cutN c xs)[p], .lst ((walkN (leavesN c xs) p).map Nd.byt)] w0 _ _ xM (by rw [cut_get]; omega)) (by exact rfl) (fun _ _ _ _ => Or.inl rfl) ?_
      rintro _ _ _ ⟨y, rfl, rfl, rfl⟩
      refine c_call rfl rfl rfl rfl Tryz.call41 (whole_ok w0 _ _) (by exact rfl) (fun _ _ _ _ => Or.inl rfl) ?_
      rintro _ _ _ ⟨rfl, rfl, rfl⟩
      refine c_call rfl rfl rfl rfl Tryz.call39 (write_ok 2 (.lst [.byt (cutN c xs)[p], .lst ((walkN (leavesN c xs) p).map Nd.byt)]) _ w0 _ _ (by decide) (by rw [cut_get]; omega) (by rw [cut_get]; omega) xM) (by exact rfl) (fun _ _ _ _ => Or.inl rfl) ?_
      rintro _ _ _ ⟨v5, rfl, rfl, rfl⟩
      rw [cut_get]
      refine c_extract rfl rfl rfl rfl rfl rfl ?_
      refine c_extract rfl rfl rfl rfl rfl rfl ?_
      refine c_assign rfl rfl rfl rfl (by conv => lhs; whnf) ?_
      refine c_assign rfl rfl rfl rfl (by conv => lhs; whnf) ?_
      refine can_nil ?_
      refine ps_then ?_
      refine cs_ret ?_
      refine ps_en (en_arr (sps' := Row b8 5 _ (replyN c xs p) :: sps) (by repeat (first | exact Arr.refl | (refine Arr.cons (by repeat (first | exact Rem.here | apply Rem.there)) ?_) | refine Arr.sub (by repeat (first | exact List.Sublist.refl _ | apply List.Sublist.cons_cons | apply List.Sublist.cons))))) ?_
      rintro _ _ ⟨rfl, rfl⟩
      refine ps_en (en_keep (rs) (by (repeat (refine List.forall_mem_cons.2 ⟨by repeat (first | exact .head _ | assumption | apply List.Mem.tail), ?_⟩)); intro r hr; repeat (first | assumption | apply List.Mem.tail))) ?_
      rintro _ _ ⟨rfl, rfl⟩
      apply ps_end2 rfl Tryz.results12 (by conv => lhs; whnf) (by conv => lhs; whnf)
      · exact ⟨_, rfl, rfl, rfl⟩
      · exact (.mk xS xS)

end Go.Proofs.YtmodmjekhlnjpaaGreatDoor
namespace Go.Proofs.YtmodmjekhlnjpaaGreatDoor
open Go.RowKit
theorem clone_some (ad : Addr) (c : Nat) (xs : List Nat) (w0 : World) (sps : List Sp) (rs : List Fa) (hv : Rd b8 (.slice (some ad) xs.length c) xs ∈ rs) (hl : xs.length ≤ 1000000) :
    FnOk Tryz.prog 34 #[.slice (some ad) xs.length c] w0 sps rs fun r s q => ∃ v, r = v ∧ sps = s ∧ Rd b8 v xs :: rs = q := by
  refine fn_enter Tryz.func34 rfl Tryz.ntmps34 rfl ?_
  refine cs_seq ?_
  refine cs_seq_region [0] rfl ?_
  refine c_assign rfl rfl rfl rfl (by conv => lhs; whnf) ?_
  refine can_nil ?_
  refine ps_then ?_
  refine cs_seq ?_
  refine cs_seq ?_
  refine cs_seq_region [0, 1] rfl ?_
  refine c_move rfl rfl rfl rfl (by conv => lhs; whnf) ?_
  refine c_eqL rfl rfl rfl rfl Tryz.underlying22 rfl rfl ?_
  refine can_nil ?_
  refine ps_then ?_
  refine cs_cond rfl (fun hc1 => Bool.noConfusion (show true = false from hc1.symm.trans (rfl))) (fun _ => ?_)
  refine cs_skip ?_
  refine ps_then ?_
  refine cs_seq ?_
  refine cs_seq_region [0, 1, 2, 3] rfl ?_
  refine c_lit (cs := []) rfl rfl rfl rfl Tryz.underlying22 Tryz.sizeOf5 Tryz.zeroValue5 rfl rfl rfl rfl rfl (fun _ => Or.inl rfl) (fun g5 => ?_)
  refine can_en (en_asRow (dr := b8) (pre := []) (xs := []) (m := 0) (fun hh _ => Reps.nil _ _) rfl (by decide)) ?_
  rintro _ _ ⟨rfl, rfl⟩
  refine c_move rfl rfl rfl rfl (by conv => lhs; whnf) ?_
  refine c_append (dr := b8) (xs := []) (ys := xs) rfl rfl rfl rfl sty_b8 rfl rfl xF xM (by simp; omega) (fun _ => Or.inl rfl) (fun A7 => ?_)
  refine c_assign rfl rfl rfl rfl (by conv => lhs; whnf) ?_
  refine can_nil ?_
  refine ps_then ?_
  refine cs_ret ?_
  refine ps_en (en_give (xs := xs) (by repeat (first | exact Rem.here | apply Rem.there))) ?_
  rintro _ _ ⟨rfl, rfl⟩
  apply ps_end1 rfl Tryz.results34 (by conv => lhs; whnf)
  · exact ⟨_, rfl, rfl, rfl⟩
  · exact (.mk xS xS)

theorem clone_none (w0 : World) (sps : List Sp) (rs : List Fa) :
    FnOk Tryz.prog 34 #[.slice none 0 0] w0 sps rs fun r s q => ∃ v, r = v ∧ sps = s ∧ Rd b8 v [] :: rs = q := by
  refine fn_enter Tryz.func34 rfl Tryz.ntmps34 rfl ?_
  refine cs_seq ?_
  refine cs_seq_region [0] rfl ?_
  refine c_assign rfl rfl rfl rfl (by conv => lhs; whnf) ?_
  refine can_nil ?_
  refine ps_then ?_
  refine cs_seq ?_
  refine cs_seq ?_
  refine cs_seq_region [0, 1] rfl ?_
  refine c_move rfl rfl rfl rfl (by conv => lhs; whnf) ?_
  refine c_eqL rfl rfl rfl rfl Tryz.underlying22 rfl rfl ?_
  refine can_nil ?_
  refine ps_then ?_
  refine cs_cond rfl (fun _ => ?_) (fun hc1 => Bool.noConfusion (show false = true from hc1.symm.trans (rfl)))
  refine cs_seq ?_
  refine cs_seq_region [0] rfl ?_
  refine c_assign rfl rfl rfl rfl (by conv => lhs; whnf) ?_
  refine can_nil ?_
  refine ps_then ?_
  refine cs_ret ?_
  refine ps_then_ret ?_
  refine ps_en (en_nilRd b8) ?_
  rintro _ _ ⟨rfl, rfl⟩
  apply ps_end1 rfl Tryz.results34 (by conv => lhs; whnf)
  · exact ⟨_, rfl, rfl, rfl⟩
  · exact (.mk xS xS)

theorem clone_rd (v : Value) (xs : List Nat) (w0 : World) (sps : List Sp) (rs : List Fa) (hv : Rd b8 v xs ∈ rs) (hl : xs.length ≤ 1000000) :
    FnOk Tryz.prog 34 #[v] w0 sps rs fun r s q => ∃ v, r = v ∧ sps = s ∧ Rd b8 v xs :: rs = q := by
  refine fn_en (en_shape hv) ?_
  rintro _ _ ⟨rfl, rfl, A0, c0, rfl, h1, h2, -⟩
  cases A0 with
  | none =>
    have hc := h2 rfl
    subst hc
    obtain rfl : xs = [] := List.eq_nil_of_length_eq_zero (by omega)
    exact clone_none w0 sps rs
  | some ad => exact clone_some ad c0 xs w0 sps rs hv hl
theorem chunk_all (s1 s2 s3 vb : Value) (ch p : Int) (xs : List Nat) (w0 : World) (sps : List Sp) (rs : List Fa) (hst : Cl 7 0 startsV ∈ rs) (hct : Cl 8 0 constsV ∈ rs) (hv : Rd b8 vb xs ∈ rs) (hn : xs.length ≤ 6000) :
    FnOk Tryz.prog 12 #[.agg #[s1, s2, s3, vb, .int .i64 ch], .int .i64 p] w0 sps rs fun r s q => ∃ v, r = .tuple #[v, .int .i64 (chunkN xs ch p).2] ∧ sps = s ∧ Rd b8 v (chunkN xs ch p).1 :: rs = q := by
  by_cases hc : ch < 64 ∨ ch > 1024
  · rw [chunkN, if_pos hc]
    refine fn_after (chunk_arg s1 s2 s3 vb ch p xs w0 sps rs hst hct hv hn hc) ?_
    rintro _ _ _ ⟨rfl, rfl, rfl⟩ W hs
    obtain ⟨s, r, h1, rfl, rfl⟩ := en_nilRd b8 W hs
    exact ⟨_, _, h1, _, rfl, rfl, rfl⟩
  · rw [chunkN, if_neg hc]
    obtain ⟨c, rfl⟩ : ∃ c : Nat, ch = (c : Int) := ⟨ch.toNat, by omega⟩
    rw [Int.toNat_natCast]
    by_cases hp : p < 0 ∨ (cntN xs.length c : Int) ≤ p
    · rw [if_pos hp]
      refine fn_after (chunk_out s1 s2 s3 vb c p xs w0 sps rs hst hct hv hn (by omega) (by omega) hp) ?_
      rintro _ _ _ ⟨rfl, rfl, rfl⟩ W hs
      obtain ⟨s, r, h1, rfl, rfl⟩ := en_nilRd b8 W hs
      exact ⟨_, _, h1, _, rfl, rfl, rfl⟩
    · rw [if_neg hp]
      obtain ⟨k, rfl⟩ : ∃ k : Nat, p = (k : Int) := ⟨p.toNat, by omega⟩
      rw [Int.toNat_natCast]
      refine fn_after (chunk_ok s1 s2 s3 vb c k xs w0 sps rs hst hct hv hn (by omega) (by omega) (by omega)) ?_
      rintro _ _ _ ⟨v, rfl, rfl, rfl⟩ W hs
      obtain ⟨s, r, h1, rfl, rfl⟩ := en_give (xs := replyN c xs k) Rem.here W hs
      exact ⟨_, _, h1, _, rfl, rfl, rfl⟩
theorem answer_ok (s1 s2 s3 vb vr : Value) (ch k v p : Int) (st sn ai bu : List Nat) (roots : List (List Nat)) (w0 : World) (sps : List Sp) (rs : List Fa) (hst : Cl 7 0 startsV ∈ rs) (hct : Cl 8 0 constsV ∈ rs) (h1 : Rd b8 s1 st ∈ rs) (h2 : Rd b8 s2 sn ∈ rs) (h3 : Rd b8 s3 ai ∈ rs) (h4 : Rd b8 vb bu ∈ rs) (h5 : Rd bb vr roots ∈ rs)
    (l1 : st.length ≤ 1000) (l2 : sn.length ≤ 1000) (l3 : ai.length ≤ 1000) (l4 : bu.length ≤ 6000) (l5 : ∀ x ∈ roots, x.length ≤ 1000000) (hvr : v ≤ 9223372036854775807) :
    FnOk Tryz.prog 9 #[.agg #[s1, s2, s3, vb, .int .i64 ch], vr, .agg #[.int .i64 k, .int .i64 v, .int .i64 p]] w0 sps rs fun r s q => ∃ w, r = .tuple #[w, .int .i64 (answerN st sn ai bu ch roots k v p).2] ∧ sps = s ∧ Rd b8 w (answerN st sn ai bu ch roots k v p).1 :: rs = q := by
  refine fn_en (en_shape h5) ?_
  rintro _ _ ⟨rfl, rfl, A0, c0, rfl, hcA0, hAA0, hMA0⟩
  refine fn_enter Tryz.func9 rfl Tryz.ntmps9 rfl ?_
  refine cs_seq ?_
  refine cs_seq_region [0, 1, 2, 3] rfl ?_
  refine c_box rfl rfl rfl rfl rfl (fun _ => Or.inl rfl) (fun g3 => ?_)
  refine c_box rfl rfl rfl rfl rfl (fun _ => Or.inl rfl) (fun g5 => ?_)
  refine c_assign rfl rfl rfl rfl (by conv => lhs; whnf) ?_
  refine c_assign rfl rfl rfl rfl (by conv => lhs; whnf) ?_
  refine can_nil ?_
  refine ps_then ?_
  refine cs_seq ?_
  refine cs_seq ?_
  refine cs_seq_region [0, 1] rfl ?_
  refine c_fieldAddr rfl rfl rfl rfl Tryz.underlying35 rfl Tryz.sizeOf3 rfl rfl ?_
  first | refine c_load1 rfl rfl rfl Tryz.isAgg3 rfl (ldS rfl rfl xM (sub1 (by exact rfl))) ?_ | refine c_load1 rfl rfl rfl Tryz.isAgg3 rfl (ldSC (k := 0) rfl rfl xM (sub1 (by exact rfl))) ?_ | refine c_load1 rfl rfl rfl Tryz.isAgg3 rfl (ldSC rfl rfl xM (sub1 (by exact rfl))) ?_
  refine can_nil ?_
  refine ps_then ?_
  refine cs_block ?_
  refine cs_seq ?_
  refine cs_seq_region [0, 1] rfl ?_
  refine c_eql rfl rfl rfl rfl rfl rfl ?_
  refine c_assign rfl rfl rfl rfl (by conv => lhs; whnf) ?_
  refine can_nil ?_
  refine ps_then ?_
  refine cs_cond rfl (fun hc1 => ?_) (fun hc1 => ?_)
  · simp at hc1
    refine cs_seq ?_
    refine cs_seq ?_
    refine cs_seq_region [0, 1, 2, 3, 4, 5, 6, 7, 8, 9, 10] rfl ?_
    refine c_fieldAddr rfl rfl rfl rfl Tryz.underlying35 rfl Tryz.sizeOf2 rfl rfl ?_
    first | refine c_load1 rfl rfl rfl Tryz.isAgg2 rfl (ldS rfl rfl xM (sub1 (by exact rfl))) ?_ | refine c_load1 rfl rfl rfl Tryz.isAgg2 rfl (ldSC (k := 0) rfl rfl xM (sub1 (by exact rfl))) ?_ | refine c_load1 rfl rfl rfl Tryz.isAgg2 rfl (ldSC rfl rfl xM (sub1 (by exact rfl))) ?_
    refine c_lss rfl rfl rfl rfl rfl rfl ?_
    refine c_move rfl rfl rfl rfl (by conv => lhs; whnf) ?_
    refine can_split 15 rfl (fun hg2 => ?_) (fun hg2 => ?_)
    · simp at hg2
      refine can_skip rfl rfl rfl (Or.inl rfl) ?_
      refine can_skip rfl rfl rfl (Or.inl rfl) ?_
      refine can_skip rfl rfl rfl (Or.inl rfl) ?_
      refine can_skip rfl rfl rfl (Or.inl rfl) ?_
      refine can_skip rfl rfl rfl (Or.inl rfl) ?_
      refine can_skip rfl rfl rfl (Or.inl rfl) ?_
      refine c_pick rfl rfl rfl rfl rfl (by conv => lhs; whnf) ?_
      refine can_nil ?_
      refine ps_then ?_
      refine cs_true rfl ?_
      refine cs_seq ?_
      refine cs_seq_region [0, 1] rfl ?_
      refine c_assign rfl rfl rfl rfl (by conv => lhs; whnf) ?_
      refine c_assign rfl rfl rfl rfl (by conv => lhs; whnf) ?_
      refine can_nil ?_
      refine ps_then ?_
      refine cs_ret ?_
      refine ps_then_ret ?_
      refine ps_block_ret ?_
      refine ps_then_ret ?_
      rw [show (answerN st sn ai bu ch roots k v p) = ([], 0) from by rw [answerN, if_pos hc1, if_pos (by omega)]]
      refine ps_en (en_nilRd b8) ?_
      rintro _ _ ⟨rfl, rfl⟩
      apply ps_end2 rfl Tryz.results9 (by conv => lhs; whnf) (by conv => lhs; whnf)
      · exact ⟨_, rfl, rfl, rfl⟩
      · exact (.mk xS xS)
    · simp at hg2
      refine c_fieldAddr rfl rfl rfl rfl Tryz.underlying35 rfl Tryz.sizeOf2 rfl rfl ?_
      first | refine c_load1 rfl rfl rfl Tryz.isAgg2 rfl (ldS rfl rfl xM (sub1 (by exact rfl))) ?_ | refine c_load1 rfl rfl rfl Tryz.isAgg2 rfl (ldSC (k := 0) rfl rfl xM (sub1 (by exact rfl))) ?_ | refine c_load1 rfl rfl rfl Tryz.isAgg2 rfl (ldSC rfl rfl xM (sub1 (by exact rfl))) ?_
      first | refine c_subI rfl rfl rfl rfl rfl rfl xW ?_ | refine c_sub rfl rfl rfl rfl rfl rfl ?_
      refine c_move rfl rfl rfl rfl (by conv => lhs; whnf) ?_
      refine c_len rfl rfl rfl rfl Tryz.underlying25 rfl ?_
      refine c_geq rfl rfl rfl rfl rfl rfl ?_
      refine c_pick rfl rfl rfl rfl rfl (by conv => lhs; whnf) ?_
      refine can_nil ?_
      refine ps_then ?_
      refine cs_cond rfl (fun hc3 => ?_) (fun hc3 => ?_)
      · simp at hc3
        refine cs_seq ?_
        refine cs_seq_region [0, 1] rfl ?_
        refine c_assign rfl rfl rfl rfl (by conv => lhs; whnf) ?_
        refine c_assign rfl rfl rfl rfl (by conv => lhs; whnf) ?_
        refine can_nil ?_
        refine ps_then ?_
        refine cs_ret ?_
        refine ps_then_ret ?_
        refine ps_block_ret ?_
        refine ps_then_ret ?_
        rw [show (answerN st sn ai bu ch roots k v p) = ([], 0) from by rw [answerN, if_pos hc1, if_pos (by omega)]]
        refine ps_en (en_nilRd b8) ?_
        rintro _ _ ⟨rfl, rfl⟩
        apply ps_end2 rfl Tryz.results9 (by conv => lhs; whnf) (by conv => lhs; whnf)
        · exact ⟨_, rfl, rfl, rfl⟩
        · exact (.mk xS xS)
      · simp at hc3
        refine cs_skip ?_
        refine ps_then ?_
        refine cs_seq ?_
        obtain ⟨j, hj⟩ : ∃ j : Nat, v - 2 = (j : Int) := ⟨(v - 2).toNat, by omega⟩
        refine cs_en (en_openS (d' := b8) (xs := roots) j (by omega) xM) ?_
        rintro _ _ ⟨gg, off, cq, u, heq, rfl, rfl⟩
        injection heq with e1 e2 e3
        subst e1
        refine cs_seq_region [0, 1, 2, 3, 4, 5, 6, 7, 8] rfl ?_
        refine c_move rfl rfl rfl rfl (by conv => lhs; whnf) ?_
        refine c_fieldAddr rfl rfl rfl rfl Tryz.underlying35 rfl Tryz.sizeOf2 rfl rfl ?_
        first | refine c_load1 rfl rfl rfl Tryz.isAgg2 rfl (ldS rfl rfl xM (sub1 (by exact rfl))) ?_ | refine c_load1 rfl rfl rfl Tryz.isAgg2 rfl (ldSC (k := 0) rfl rfl xM (sub1 (by exact rfl))) ?_ | refine c_load1 rfl rfl rfl Tryz.isAgg2 rfl (ldSC rfl rfl xM (sub1 (by exact rfl))) ?_
        first | refine c_subI rfl rfl rfl rfl rfl rfl xW ?_ | refine c_sub rfl rfl rfl rfl rfl rfl ?_
        refine can_is 26 (.int .i64 (j : Int)) (congrArg (Value.int .i64) hj) ?_
        refine c_indexAddrS1 rfl rfl rfl rfl Tryz.underlying25 Tryz.sizeOf22 rfl rfl xD ?_
        first | refine c_load1 rfl rfl rfl Tryz.isAgg22 rfl (ldS rfl rfl xM (sub1 (by exact rfl))) ?_ | refine c_load1 rfl rfl rfl Tryz.isAgg22 rfl (ldSC (k := 0) rfl rfl xM (sub1 (by exact rfl))) ?_ | refine c_load1 rfl rfl rfl Tryz.isAgg22 rfl (ldSC rfl rfl xM (sub1 (by exact rfl))) ?_
        refine c_call rfl rfl rfl rfl Tryz.call34 (clone_rd _ roots[j] w0 _ _ xM (l5 _ (List.getElem_mem _))) (by exact rfl) (fun _ _ _ _ => Or.inl rfl) ?_
        rintro _ _ _ ⟨w, rfl, rfl, rfl⟩
        refine c_assign rfl rfl rfl rfl (by conv => lhs; whnf) ?_
        refine c_assign rfl rfl rfl rfl (by conv => lhs; whnf) ?_
        refine can_nil ?_
        refine ps_then ?_
        refine cs_ret ?_
        refine ps_block_ret ?_
        refine ps_then_ret ?_
        rw [show (answerN st sn ai bu ch roots k v p) = (roots[j], 0) from by rw [answerN, if_pos hc1, if_neg (by omega), hj, Int.toNat_natCast, List.getD_eq_getElem?_getD, List.getElem?_eq_getElem (by omega), Option.getD_some]]
        refine ps_en (en_keep (Rd b8 _ roots[j] :: rs) (by (repeat (refine List.forall_mem_cons.2 ⟨by repeat (first | exact .head _ | assumption | apply List.Mem.tail), ?_⟩)); intro r hr; repeat (first | assumption | apply List.Mem.tail))) ?_
        rintro _ _ ⟨rfl, rfl⟩
        apply ps_end2 rfl Tryz.results9 (by conv => lhs; whnf) (by conv => lhs; whnf)
        · exact ⟨_, rfl, rfl, rfl⟩
        · exact (.mk xS xS)
  · simp at hc1
    refine cs_seq ?_
    refine cs_seq_region [0, 1] rfl ?_
    refine c_eql rfl rfl rfl rfl rfl rfl ?_
    refine c_assign rfl rfl rfl rfl (by conv => lhs; whnf) ?_
    refine can_nil ?_
    refine ps_then ?_
    refine cs_cond rfl (fun hc4 => ?_) (fun hc4 => ?_)
    · simp at hc4
      refine cs_seq ?_
      refine cs_seq_region [0, 1, 2, 3, 4] rfl ?_
      refine c_fieldAddr rfl rfl rfl rfl Tryz.underlying33 rfl Tryz.sizeOf22 rfl rfl ?_
      first | refine c_load1 rfl rfl rfl Tryz.isAgg22 rfl (ldS rfl rfl xM (sub1 (by exact rfl))) ?_ | refine c_load1 rfl rfl rfl Tryz.isAgg22 rfl (ldSC (k := 0) rfl rfl xM (sub1 (by exact rfl))) ?_ | refine c_load1 rfl rfl rfl Tryz.isAgg22 rfl (ldSC rfl rfl xM (sub1 (by exact rfl))) ?_
      refine c_call rfl rfl rfl rfl Tryz.call34 (clone_rd _ st w0 _ _ xM (by omega)) (by exact rfl) (fun _ _ _ _ => Or.inl rfl) ?_
      rintro _ _ _ ⟨w, rfl, rfl, rfl⟩
      refine c_assign rfl rfl rfl rfl (by conv => lhs; whnf) ?_
      refine c_assign rfl rfl rfl rfl (by conv => lhs; whnf) ?_
      refine can_nil ?_
      refine ps_then ?_
      refine cs_ret ?_
      refine ps_block_ret ?_
      refine ps_then_ret ?_
      rw [show (answerN st sn ai bu ch roots k v p) = (st, 0) from by rw [answerN, if_neg hc1, if_pos hc4]]
      apply ps_end2 rfl Tryz.results9 (by conv => lhs; whnf) (by conv => lhs; whnf)
      · exact ⟨_, rfl, rfl, rfl⟩
      · exact (.mk xS xS)
    · simp at hc4
      refine cs_seq ?_
      refine cs_seq_region [0, 1] rfl ?_
      refine c_eql rfl rfl rfl rfl rfl rfl ?_
      refine c_assign rfl rfl rfl rfl (by conv => lhs; whnf) ?_
      refine can_nil ?_
      refine ps_then ?_
      refine cs_cond rfl (fun hc5 => ?_) (fun hc5 => ?_)
      · simp at hc5
        refine cs_seq ?_
        refine cs_seq_region [0, 1, 2, 3, 4] rfl ?_
        refine c_fieldAddr rfl rfl rfl rfl Tryz.underlying33 rfl Tryz.sizeOf22 rfl rfl ?_
        first | refine c_load1 rfl rfl rfl Tryz.isAgg22 rfl (ldS rfl rfl xM (sub1 (by exact rfl))) ?_ | refine c_load1 rfl rfl rfl Tryz.isAgg22 rfl (ldSC (k := 0) rfl rfl xM (sub1 (by exact rfl))) ?_ | refine c_load1 rfl rfl rfl Tryz.isAgg22 rfl (ldSC rfl rfl xM (sub1 (by exact rfl))) ?_
        refine c_call rfl rfl rfl rfl Tryz.call34 (clone_rd _ sn w0 _ _ xM (by omega)) (by exact rfl) (fun _ _ _ _ => Or.inl rfl) ?_
        rintro _ _ _ ⟨w, rfl, rfl, rfl⟩
        refine c_assign rfl rfl rfl rfl (by conv => lhs; whnf) ?_
        refine c_assign rfl rfl rfl rfl (by conv => lhs; whnf) ?_
        refine can_nil ?_
        refine ps_then ?_
        refine cs_ret ?_
        refine ps_block_ret ?_
        refine ps_then_ret ?_
        rw [show (answerN st sn ai bu ch roots k v p) = (sn, 0) from by rw [answerN, if_neg hc1, if_neg hc4, if_pos hc5]]
        apply ps_end2 rfl Tryz.results9 (by conv => lhs; whnf) (by conv => lhs; whnf)
        · exact ⟨_, rfl, rfl, rfl⟩
        · exact (.mk xS xS)
      · simp at hc5
        refine cs_seq ?_
        refine cs_seq_region [0, 1] rfl ?_
        refine c_eql rfl rfl rfl rfl rfl rfl ?_
        refine c_assign rfl rfl rfl rfl (by conv => lhs; whnf) ?_
        refine can_nil ?_
        refine ps_then ?_
        refine cs_cond rfl (fun hc6 => ?_) (fun hc6 => ?_)
        · simp at hc6
          refine cs_seq ?_
          refine cs_seq_region [0, 1, 2, 3, 4] rfl ?_
          refine c_fieldAddr rfl rfl rfl rfl Tryz.underlying33 rfl Tryz.sizeOf22 rfl rfl ?_
          first | refine c_load1 rfl rfl rfl Tryz.isAgg22 rfl (ldS rfl rfl xM (sub1 (by exact rfl))) ?_ | refine c_load1 rfl rfl rfl Tryz.isAgg22 rfl (ldSC (k := 0) rfl rfl xM (sub1 (by exact rfl))) ?_ | refine c_load1 rfl rfl rfl Tryz.isAgg22 rfl (ldSC rfl rfl xM (sub1 (by exact rfl))) ?_
          refine c_call rfl rfl rfl rfl Tryz.call34 (clone_rd _ ai w0 _ _ xM (by omega)) (by exact rfl) (fun _ _ _ _ => Or.inl rfl) ?_
          rintro _ _ _ ⟨w, rfl, rfl, rfl⟩
          refine c_assign rfl rfl rfl rfl (by conv => lhs; whnf) ?_
          refine c_assign rfl rfl rfl rfl (by conv => lhs; whnf) ?_
          refine can_nil ?_
          refine ps_then ?_
          refine cs_ret ?_
          refine ps_block_ret ?_
          refine ps_then_ret ?_
          rw [show (answerN st sn ai bu ch roots k v p) = (ai, 0) from by rw [answerN, if_neg hc1, if_neg hc4, if_neg hc5, if_pos hc6]]
          apply ps_end2 rfl Tryz.results9 (by conv => lhs; whnf) (by conv => lhs; whnf)
          · exact ⟨_, rfl, rfl, rfl⟩
          · exact (.mk xS xS)
        · simp at hc6
          refine cs_seq ?_
          refine cs_seq_region [0, 1] rfl ?_
          refine c_eql rfl rfl rfl rfl rfl rfl ?_
          refine c_assign rfl rfl rfl rfl (by conv => lhs; whnf) ?_
          refine can_nil ?_
          refine ps_then ?_
          refine cs_cond rfl (fun hc7 => ?_) (fun hc7 => ?_)
          · simp at hc7
            refine cs_seq ?_
            refine cs_seq_region [0, 1, 2, 3, 4, 5, 6, 7] rfl ?_
            first | refine c_loadN rfl rfl rfl Tryz.isAgg33 Tryz.sizeOf33 rfl (ldS rfl rfl xM subAll) (by first | (simp [ne_length, wlist_length]; done) | rfl) ?_ | refine c_loadN (cs := [_, _, _, _, _]) rfl rfl rfl Tryz.isAgg33 Tryz.sizeOf33 rfl (ldS rfl rfl xM (subN (m := 5) (by exact rfl))) rfl ?_ | refine c_loadN rfl rfl rfl Tryz.isAgg33 Tryz.sizeOf33 rfl (ldSC (k := 0) rfl rfl xM subAll) (by first | (simp [ne_length, wlist_length]; done) | rfl) ?_
            refine c_fieldAddr rfl rfl rfl rfl Tryz.underlying35 rfl Tryz.sizeOf3 rfl rfl ?_
            first | refine c_load1 rfl rfl rfl Tryz.isAgg3 rfl (ldS rfl rfl xM (sub1 (by exact rfl))) ?_ | refine c_load1 rfl rfl rfl Tryz.isAgg3 rfl (ldSC (k := 0) rfl rfl xM (sub1 (by exact rfl))) ?_ | refine c_load1 rfl rfl rfl Tryz.isAgg3 rfl (ldSC rfl rfl xM (sub1 (by exact rfl))) ?_
            refine c_call rfl rfl rfl rfl Tryz.call12 (chunk_all s1 s2 s3 vb ch p bu w0 _ _ xM xM xM l4) (by exact rfl) (fun _ _ _ _ => Or.inl rfl) ?_
            rintro _ _ _ ⟨w, rfl, rfl, rfl⟩
            refine c_extract rfl rfl rfl rfl rfl rfl ?_
            refine c_extract rfl rfl rfl rfl rfl rfl ?_
            refine c_assign rfl rfl rfl rfl (by conv => lhs; whnf) ?_
            refine c_assign rfl rfl rfl rfl (by conv => lhs; whnf) ?_
            refine can_nil ?_
            refine ps_then ?_
            refine cs_ret ?_
            refine ps_block_ret ?_
            refine ps_then_ret ?_
            rw [show (answerN st sn ai bu ch roots k v p) = chunkN bu ch p from by rw [answerN, if_neg hc1, if_neg hc4, if_neg hc5, if_neg hc6, if_pos hc7]]
            apply ps_end2 rfl Tryz.results9 (by conv => lhs; whnf) (by conv => lhs; whnf)
            · exact ⟨_, rfl, rfl, rfl⟩
            · exact (.mk xS xS)
          · simp at hc7
            refine cs_skip ?_
            refine ps_block_normal ?_
            refine ps_then ?_
            refine cs_seq ?_
            refine cs_seq_region [0, 1] rfl ?_
            refine c_assign rfl rfl rfl rfl (by conv => lhs; whnf) ?_
            refine c_assign rfl rfl rfl rfl (by conv => lhs; whnf) ?_
            refine can_nil ?_
            refine ps_then ?_
            refine cs_ret ?_
            rw [show (answerN st sn ai bu ch roots k v p) = ([], 1) from by rw [answerN, if_neg hc1, if_neg hc4, if_neg hc5, if_neg hc6, if_neg hc7]]
            refine ps_en (en_nilRd b8) ?_
            rintro _ _ ⟨rfl, rfl⟩
            apply ps_end2 rfl Tryz.results9 (by conv => lhs; whnf) (by conv => lhs; whnf)
            · exact ⟨_, rfl, rfl, rfl⟩
            · exact (.mk xS xS)

end Go.Proofs.YtmodmjekhlnjpaaGreatDoor
namespace Go.Proofs.YtmodmjekhlnjpaaGreatDoor
open Go.RowKit
structure Rl where
  keys : List (List Nat)
  need : Int
def roleR : Rep Rl where
  sz := 2
  K := fun h x cs => ∃ a, cs = [a, .int .i64 x.need] ∧ SV bb h a x.keys
  len := by rintro h x cs ⟨a, rfl, _⟩; rfl
  one := by
    rintro h x cs ⟨a, rfl, A, c, rfl, _⟩ u hu
    simp only [List.mem_cons, List.not_mem_nil, or_false] at hu
    rcases hu with rfl | rfl <;> rfl
  mono := by rintro h h' x cs hh ⟨a, e, h1⟩; exact ⟨a, e, h1.mono hh⟩
def u64 (n : Int) : Nat := (n % 2 ^ 64).toNat
theorem u64_lt (n : Int) : u64 n < 2 ^ 64 := by unfold u64; omega
theorem wrap_u64 (n : Int) : IntKind.u64.wrap n = (u64 n : Int) := by
  unfold u64
  simp only [IntKind.wrap, IntKind.bits, IntKind.signed]
  simp
  omega
def keysNd (ks : List (List Nat)) : Nd := .lst (ks.map .byt)
def roleNd (r : Rl) : Nd := .lst [.num (u64 r.need), keysNd r.keys]
section
variable {w0 : World} {sps : List Sp} {rs : List Fa} {x : Rl} {cs : List Value}
theorem en_role (hm : Kf roleR x cs ∈ rs) : En w0 sps rs fun s r => ∃ A a, cs = [.slice A x.keys.length a, .int .i64 x.need] ∧ sps = s ∧ Rd bb (.slice A x.keys.length a) x.keys :: rs = r := fun W hs => by
  obtain ⟨hb, o, h1, h2, h3, h4⟩ := hs
  obtain ⟨u, e, hu⟩ := h4 _ hm
  obtain ⟨A, a, rfl, hA⟩ := id hu
  refine ⟨_, _, ⟨hb, o, h1, h2, h3, fun r hr => ?_⟩, A, a, e, rfl, rfl⟩
  rcases List.mem_cons.1 hr with rfl | hr
  · exact hu
  · exact h4 r hr
theorem reps3 {α : Type} {dr : Rep α} {hh : Hp} {a b c : α} {cs ds es : List Value} (h1 : dr.K hh a cs) (h2 : dr.K hh b ds) (h3 : dr.K hh c es) : Reps dr hh [a, b, c] (cs ++ ds ++ es) := (reps2 h1 h2).snoc h3
theorem reps4 {α : Type} {dr : Rep α} {hh : Hp} {a b c d : α} {cs ds es fs : List Value} (h1 : dr.K hh a cs) (h2 : dr.K hh b ds) (h3 : dr.K hh c es) (h4 : dr.K hh d fs) : Reps dr hh [a, b, c, d] (cs ++ ds ++ es ++ fs) := (reps3 h1 h2 h3).snoc h4
end
end Go.Proofs.YtmodmjekhlnjpaaGreatDoor
namespace Go.Proofs.YtmodmjekhlnjpaaGreatDoor
open Go.RowKit
theorem wnum_ok (dr : Rep Nd) (n : Nat) (w0 : World) (sps : List Sp) (rs : List Fa) (hn : n < 2 ^ 64) :
    FnOk Tryz.prog 126 #[.int .u64 (n : Int)] w0 sps rs fun r s q => ∃ cs', r = .agg cs'.toArray ∧ sps = s ∧ Kf (mkR dr) (.num n) cs' :: rs = q := by
  refine fn_enter Tryz.func126 rfl Tryz.ntmps126 rfl ?_
  refine cs_seq ?_
  refine cs_seq_region [0] rfl ?_
  refine c_alloc rfl rfl rfl rfl Tryz.zeroValue99 rfl (fun _ => Or.inl rfl) (fun g2 => ?_)
  refine can_nil ?_
  refine ps_then ?_
  refine cs_seq ?_
  refine cs_seq_region [0, 1, 2] rfl ?_
  refine c_move rfl rfl rfl rfl (by conv => lhs; whnf) ?_
  refine c_buildS (cs := [_, _, _, _]) rfl rfl rfl rfl Tryz.underlying99 Tryz.zeroValue99 (by intro w; simp [Tryz.sizeOf3, Tryz.sizeOf22, Tryz.sizeOf96, Tryz.sizeOf97]; rfl) rfl rfl ?_
  refine c_storeB rfl rfl rfl Tryz.sizeOf99 rfl rfl xF (by first | (simp [ne_length, wlist_length]; done) | rfl) (by first | (simp [ne_length, wlist_length]; done) | rfl) (by first | exact ne_one _ _ | rfl | simp [Value.oneCell']) (by (try simp only [List.cons_append, List.nil_append]); exact rfl) (Or.inl rfl) ?_
  refine can_nil ?_
  refine ps_then ?_
  refine cs_ret ?_
  refine ps_en (en_fact (r := Kf (mkR dr) (.num n) [.int .i64 1, .int .u64 (n : Int), .slice none 0 0, .slice none 0 0]) (fun hh hr => mkR_of (x := .num n) hn (SV.nil _ _) (SV.nil _ _))) ?_
  rintro _ _ ⟨rfl, rfl⟩
  apply ps_res1 rfl Tryz.results126 (res_cellN Tryz.isAgg99 Tryz.sizeOf99 rfl xM (by first | (simp [ne_length, wlist_length]; done) | rfl))
  · exact ⟨_, rfl, rfl, rfl⟩
  · exact (.mk xS xS)

theorem num_ok (d : Nat) (n : Int) (w0 : World) (sps : List Sp) (rs : List Fa) :
    FnOk Tryz.prog 108 #[.int .i64 n] w0 sps rs fun r s q => ∃ cs', r = .agg cs'.toArray ∧ sps = s ∧ Kf (ndR (d + 1)) (.num (u64 n)) cs' :: rs = q := by
  refine fn_enter Tryz.func108 rfl Tryz.ntmps108 rfl ?_
  refine cs_seq ?_
  refine cs_seq_region [0] rfl ?_
  refine c_alloc rfl rfl rfl rfl Tryz.zeroValue99 rfl (fun _ => Or.inl rfl) (fun g2 => ?_)
  refine can_nil ?_
  refine ps_then ?_
  refine cs_seq ?_
  refine cs_seq_region [0, 1, 2, 3] rfl ?_
  refine c_move rfl rfl rfl rfl (by conv => lhs; whnf) ?_
  refine c_conv rfl rfl rfl rfl Tryz.underlying2 Tryz.underlying97 rfl ?_
  rw [wrap_u64]
  refine c_call rfl rfl rfl rfl Tryz.call126 (wnum_ok (ndR d) (u64 n) w0 _ _ (u64_lt n)) (by exact rfl) (fun _ _ _ _ => Or.inl rfl) ?_
  rintro _ _ _ ⟨k, rfl, rfl, rfl⟩
  refine can_en (en_four (ndR_sz (d + 1)) (x := .num (u64 n)) (cs := k) xM) ?_
  rintro _ _ ⟨rfl, rfl, ka, kb, kc, kd, rfl, k1, k2, k3, k4⟩
  refine c_storeB (cs := [ka, kb, kc, kd]) rfl rfl rfl Tryz.sizeOf99 rfl rfl xF rfl rfl (all_four k1 k2 k3 k4) (by (try simp only [List.cons_append, List.nil_append]); exact rfl) (Or.inl rfl) ?_
  refine can_nil ?_
  refine ps_then ?_
  refine cs_ret ?_
  apply ps_res1 rfl Tryz.results108 (res_cellN Tryz.isAgg99 Tryz.sizeOf99 rfl xM (by first | (simp [ne_length, wlist_length]; done) | rfl))
  · exact ⟨_, rfl, rfl, rfl⟩
  · exact (.mk xS xS)

theorem allb_ok (v : Value) (xs : List (List Nat)) (w0 : World) (sps : List Sp) (rs : List Fa) (hv : Rd bb v xs ∈ rs) (hl : (encN (.lst (xs.map Nd.byt))).length ≤ 1000000) :
    FnOk Tryz.prog 186 #[v, .func (.func 38) #[] #[]] w0 sps rs fun r s q => ∃ cs', r = .agg cs'.toArray ∧ sps = s ∧ Kf (ndR 1) (.lst (xs.map Nd.byt)) cs' :: rs = q := by
  have hml : (xs.map Nd.byt).length = xs.length := List.length_map ..
  have hel := enc_ls (.lst (xs.map Nd.byt))
  simp only [Nd.ls, List.length_map] at hel
  refine fn_en (en_shape hv) ?_
  rintro _ _ ⟨rfl, rfl, A0, c0, rfl, hcA0, hAA0, hMA0⟩
  refine fn_enter Tryz.func186 rfl Tryz.ntmps186 rfl ?_
  refine cs_seq ?_
  refine cs_seq_region [0] rfl ?_
  refine c_alloc rfl rfl rfl rfl Tryz.zeroValue99 rfl (fun _ => Or.inl rfl) (fun g4 => ?_)
  refine can_nil ?_
  refine ps_then ?_
  refine cs_seq ?_
  refine cs_seq_region [0] rfl ?_
  refine c_assign rfl rfl rfl rfl (by conv => lhs; whnf) ?_
  refine can_nil ?_
  refine ps_then ?_
  refine cs_seq ?_
  refine cs_seq ?_
  refine cs_seq_region [0, 1, 2] rfl ?_
  refine c_move rfl rfl rfl rfl (by conv => lhs; whnf) ?_
  refine c_len rfl rfl rfl rfl Tryz.underlying25 rfl ?_
  refine c_move rfl rfl rfl rfl (by conv => lhs; whnf) ?_
  refine can_nil ?_
  refine ps_then ?_
  refine cs_block ?_
  refine cs_en (en_nilRow (ndR 0) 99) ?_
  rintro _ _ ⟨rfl, rfl⟩
  refine cs_loopS [5, 7, 10, 11, 12, 13, 14, 15, 16, 17, 18, 19, 20] (fun m L s r => ∃ (t : Nat) (v : Value), t ≤ xs.length ∧ m = xs.length - t ∧ L = [(10, .int .i64 (t : Int)), (5, v)] ∧ s = Row (ndR 0) 99 v ((xs.take t).map Nd.byt) :: Bk g4 [.int .i64 0, .int .u64 0, .slice none 0 0, .slice none 0 0] 99 :: sps ∧ rs = r) [(10, .int .i64 (0 : Nat)), (5, .slice none 0 0)] (⟨rfl, rfl, trivial⟩) (⟨0, _, by omega, rfl, rfl, rfl, rfl⟩) ?_
  rintro k0 f0 _ _ _ ⟨t, v, ht, rfl, rfl, rfl, rfl⟩
  refine cs_seq ?_
  refine cs_seq_region [0] rfl ?_
  refine c_lss rfl rfl rfl rfl rfl rfl ?_
  refine can_nil ?_
  refine ps_then ?_
  refine cs_seq ?_
  refine cs_cond rfl (fun hc1 => ?_) (fun hc1 => ?_)
  · simp at hc1
    refine cs_skip ?_
    refine ps_then ?_
    refine cs_seq ?_
    refine cs_block ?_
    refine cs_seq ?_
    refine cs_en (en_openS (d' := b8) (xs := xs) t (by omega) xM) ?_
    rintro _ _ ⟨gg, off, cq, u, heq, rfl, rfl⟩
    injection heq with e1 e2 e3
    subst e1
    refine cs_seq_region [0, 1, 2] rfl ?_
    refine c_indexAddrS1 rfl rfl rfl rfl Tryz.underlying25 Tryz.sizeOf22 rfl rfl xD ?_
    first | refine c_load1 rfl rfl rfl Tryz.isAgg22 rfl (ldS rfl rfl xM (sub1 (by exact rfl))) ?_ | refine c_load1 rfl rfl rfl Tryz.isAgg22 rfl (ldSC (k := 0) rfl rfl xM (sub1 (by exact rfl))) ?_ | refine c_load1 rfl rfl rfl Tryz.isAgg22 rfl (ldSC rfl rfl xM (sub1 (by exact rfl))) ?_
    refine c_assign rfl rfl rfl rfl (by conv => lhs; whnf) ?_
    refine can_nil ?_
    refine ps_then ?_
    refine cs_seq_region [0, 1, 2, 3, 4, 5, 6] rfl ?_
    refine c_move rfl rfl rfl rfl (by conv => lhs; whnf) ?_
    refine c_move rfl rfl rfl rfl (by conv => lhs; whnf) ?_
    refine c_move rfl rfl rfl rfl (by conv => lhs; whnf) ?_
    refine c_callF rfl rfl rfl rfl rfl Tryz.call38 (bytes_ok rep0 _ xs[t] w0 _ _ xM (Nat.le_trans (Nat.le_trans (enc_bs (.byt xs[t])) (enc_el (x := .lst (xs.map Nd.byt)) (List.mem_map_of_mem (List.getElem_mem _)))) hl)) (by exact rfl) (fun _ _ _ _ => Or.inl rfl) ?_
    rintro _ _ _ ⟨k, rfl, rfl, rfl⟩
    refine can_en (en_four (ndR_sz (0)) (x := Nd.byt xs[t]) (cs := k) xM) ?_
    rintro _ _ ⟨rfl, rfl, ka, kb, kc, kd, rfl, k1, k2, k3, k4⟩
    refine c_lit (cs := [_, _, _, _]) rfl rfl rfl rfl Tryz.underlying96 Tryz.sizeOf99 Tryz.zeroValue99 rfl rfl rfl rfl rfl (fun _ => Or.inl rfl) (fun g18 => ?_)
    refine c_append1 (dr := (ndR 0)) (ys := [Nd.byt xs[t]]) rfl rfl rfl rfl (by rw [ndR_sz]; exact sty_nd) rfl rfl (by repeat (first | exact Rem.here | apply Rem.there)) xF rfl (fun hh hr => Reps.one1 (hr (Kf (ndR 0) (Nd.byt xs[t]) [ka, kb, kc, kd]) xM)) (by simp; omega) (fun _ => Or.inl rfl) (fun A19 => ?_)
    refine c_assign rfl rfl rfl rfl (by conv => lhs; whnf) ?_
    refine can_nil ?_
    refine ps_block_normal ?_
    refine ps_then ?_
    refine cs_seq_region [0, 1] rfl ?_
    first | refine c_addI rfl rfl rfl rfl rfl rfl xW ?_ | refine c_add rfl rfl rfl rfl rfl rfl ?_
    refine c_move rfl rfl rfl rfl (by conv => lhs; whnf) ?_
    refine can_nil ?_
    refine ps_en (en_arr (sps' := Row (ndR 0) 99 _ ((xs.take t).map Nd.byt ++ [Nd.byt xs[t]]) :: Bk g4 [.int .i64 0, .int .u64 0, .slice none 0 0, .slice none 0 0] 99 :: sps) (by repeat (first | exact Arr.refl | (refine Arr.cons (by repeat (first | exact Rem.here | apply Rem.there)) ?_) | refine Arr.sub (by repeat (first | exact List.Sublist.refl _ | apply List.Sublist.cons_cons | apply List.Sublist.cons))))) ?_
    rintro _ _ ⟨rfl, rfl⟩
    refine ps_en (en_keep (rs) (by (repeat (refine List.forall_mem_cons.2 ⟨by repeat (first | exact .head _ | assumption | apply List.Mem.tail), ?_⟩)); intro r hr; repeat (first | assumption | apply List.Mem.tail))) ?_
    rintro _ _ ⟨rfl, rfl⟩
    refine ps_roundS [(10, .int .i64 ((t + 1 : Nat) : Int)), (5, _)] ⟨rfl, rfl, trivial⟩ (by repeat (first | exact Mix.base | refine Mix.upd rfl ?_ | refine Mix.upds rfl ?_ | refine Mix.mix rfl ?_ | exact Mix.refl)) (xs.length - (t + 1)) (by omega) (⟨t + 1, _, by omega, rfl, rfl, by rw [map_take_succ _ _ t (by omega)], rfl⟩) (.mk xS xS)
  · simp at hc1
    obtain rfl : t = xs.length := by omega
    rw [List.take_length]
    refine cs_exit ?_
    refine ps_then_exit ?_
    refine ps_then_exit ?_
    refine ps_block_here ?_
    refine ps_then ?_
    refine cs_seq ?_
    refine cs_en (en_rowShape (xs := xs.map Nd.byt) xM) ?_
    rintro _ _ ⟨rfl, rfl, Bl, cl, rfl, -, -, -⟩
    refine cs_en (en_give (xs := xs.map Nd.byt) (by repeat (first | exact Rem.here | apply Rem.there))) ?_
    rintro _ _ ⟨rfl, rfl⟩
    refine cs_seq_region [0, 1, 2] rfl ?_
    refine c_move rfl rfl rfl rfl (by conv => lhs; whnf) ?_
    refine c_call rfl rfl rfl rfl Tryz.call40 (list_ok 0 _ (xs.map Nd.byt) w0 _ _ xM hl) (by exact rfl) (fun _ _ _ _ => Or.inl rfl) ?_
    rintro _ _ _ ⟨z, rfl, rfl, rfl⟩
    refine can_en (en_four (ndR_sz (1)) (x := .lst (xs.map Nd.byt)) (cs := z) xM) ?_
    rintro _ _ ⟨rfl, rfl, za, zb, zc, zd, rfl, z1, z2, z3, z4⟩
    refine c_storeB (cs := [za, zb, zc, zd]) rfl rfl rfl Tryz.sizeOf99 rfl rfl xF rfl rfl (all_four z1 z2 z3 z4) (by (try simp only [List.cons_append, List.nil_append]); exact rfl) (Or.inl rfl) ?_
    refine can_nil ?_
    refine ps_then ?_
    refine cs_ret ?_
    refine ps_en (en_keep (Kf (ndR 1) (.lst (xs.map Nd.byt)) _ :: rs) (by (repeat (refine List.forall_mem_cons.2 ⟨by repeat (first | exact .head _ | assumption | apply List.Mem.tail), ?_⟩)); intro r hr; repeat (first | assumption | apply List.Mem.tail))) ?_
    rintro _ _ ⟨rfl, rfl⟩
    apply ps_res1 rfl Tryz.results186 (res_cellN Tryz.isAgg99 Tryz.sizeOf99 rfl xM (by first | (simp [ne_length, wlist_length]; done) | rfl))
    · exact ⟨_, rfl, rfl, rfl⟩
    · exact (.mk xS xS)

theorem role_ok (x : Rl) (cs : List Value) (w0 : World) (sps : List Sp) (rs : List Fa) (hm : Kf roleR x cs ∈ rs) (hl : (encN (roleNd x)).length ≤ 1000000) :
    FnOk Tryz.prog 110 #[.agg cs.toArray] w0 sps rs fun r s q => ∃ cs', r = .agg cs'.toArray ∧ sps = s ∧ Kf (ndR 2) (roleNd x) cs' :: rs = q := by
  have hk : (encN (keysNd x.keys)).length ≤ 1000000 := Nat.le_trans (enc_el (x := roleNd x) (by simp [roleNd, Nd.ls])) hl
  refine fn_en (en_role hm) ?_
  rintro _ _ ⟨A0, c0, rfl, rfl, rfl⟩
  refine fn_enter Tryz.func110 rfl Tryz.ntmps110 rfl ?_
  refine cs_seq ?_
  refine cs_seq_region [0, 1] rfl ?_
  refine c_box rfl rfl rfl rfl rfl (fun _ => Or.inl rfl) (fun g1 => ?_)
  refine c_alloc rfl rfl rfl rfl Tryz.zeroValue99 rfl (fun _ => Or.inl rfl) (fun g2 => ?_)
  refine can_nil ?_
  refine ps_then ?_
  refine cs_seq ?_
  refine cs_draw_region_at ([Bk g1 [.slice A0 x.keys.length c0, .int .i64 x.need] 46]) [0, 1, 2, 0, 1, 2, 2, 2, 2] [false, false, true, false, false, true, true, true, false] [0, 1, 3, 4, 2, 5, 6, 7, 8] (by kernel_rfl) (by kernel_rfl) (by kernel_rfl) (by kernel_rfl) xQ ?_
  refine c_fieldAddr rfl rfl rfl rfl Tryz.underlying46 rfl Tryz.sizeOf2 rfl rfl ?_
  first | refine c_load1 rfl rfl rfl Tryz.isAgg2 rfl (ldD rfl rfl xE xM (sub1 (by exact rfl))) ?_ | refine c_load1 rfl rfl rfl Tryz.isAgg2 rfl (ldDC (k := 0) rfl rfl xE xM (sub1 (by exact rfl))) ?_ | refine c_load1 rfl rfl rfl Tryz.isAgg2 rfl (ldDC rfl rfl xE xM (sub1 (by exact rfl))) ?_
  refine c_fieldAddr rfl rfl rfl rfl Tryz.underlying46 rfl Tryz.sizeOf25 rfl rfl ?_
  first | refine c_load1 rfl rfl rfl Tryz.isAgg25 rfl (ldD rfl rfl xE xM (sub1 (by exact rfl))) ?_ | refine c_load1 rfl rfl rfl Tryz.isAgg25 rfl (ldDC (k := 0) rfl rfl xE xM (sub1 (by exact rfl))) ?_ | refine c_load1 rfl rfl rfl Tryz.isAgg25 rfl (ldDC rfl rfl xE xM (sub1 (by exact rfl))) ?_
  refine c_call rfl rfl rfl rfl Tryz.call108 (num_ok 0 x.need w0 _ _) (by exact rfl) (by rintro v s r ⟨k, rfl, rfl, rfl⟩; exact Or.inr xE) ?_
  rintro _ _ _ ⟨k, rfl, rfl, rfl⟩
  refine can_en (en_four (ndR_sz (1)) (x := .num (u64 x.need)) (cs := k) xM) ?_
  rintro _ _ ⟨rfl, rfl, ka, kb, kc, kd, rfl, k1, k2, k3, k4⟩
  refine c_call rfl rfl rfl rfl Tryz.call186 (allb_ok _ x.keys w0 _ _ xM hk) (by exact rfl) (by rintro v s r ⟨z, rfl, rfl, rfl⟩; exact Or.inr xE) ?_
  rintro _ _ _ ⟨z, rfl, rfl, rfl⟩
  refine can_en (en_four (ndR_sz (1)) (x := keysNd x.keys) (cs := z) xM) ?_
  rintro _ _ ⟨rfl, rfl, za, zb, zc, zd, rfl, z1, z2, z3, z4⟩
  refine c_lit (cs := [_, _, _, _, _, _, _, _]) rfl rfl rfl rfl Tryz.underlying96 Tryz.sizeOf99 Tryz.zeroValue99 rfl rfl rfl rfl rfl (fun _ => Or.inr xE) (fun g9 => ?_)
  refine can_en (en_asRd (dr := ndR 1) (xs := [.num (u64 x.need), keysNd x.keys]) (by repeat (first | exact Rem.here | apply Rem.there)) (fun hh hr => reps2 (hr (Kf (ndR 1) (.num (u64 x.need)) [ka, kb, kc, kd]) xM) (hr (Kf (ndR 1) (keysNd x.keys) [za, zb, zc, zd]) xM)) rfl (by simp)) ?_
  rintro _ _ ⟨rfl, rfl⟩
  refine c_call rfl rfl rfl rfl Tryz.call40 (list_ok 1 _ [.num (u64 x.need), keysNd x.keys] w0 _ _ xM hl) (by exact rfl) (by rintro v s r ⟨y, rfl, rfl, rfl⟩; exact Or.inr xE) ?_
  rintro _ _ _ ⟨y, rfl, rfl, rfl⟩
  refine can_en (en_four (ndR_sz (2)) (x := roleNd x) (cs := y) xM) ?_
  rintro _ _ ⟨rfl, rfl, ya, yb, yc, yd, rfl, y1, y2, y3, y4⟩
  refine can_forget rfl ?_
  refine c_storeB (cs := [ya, yb, yc, yd]) rfl rfl rfl Tryz.sizeOf99 rfl rfl xF rfl rfl (all_four y1 y2 y3 y4) (by (try simp only [List.cons_append, List.nil_append]); exact rfl) (Or.inl rfl) ?_
  refine can_nil ?_
  refine ps_then ?_
  refine cs_ret ?_
  refine ps_en (en_keep (Kf (ndR 2) (roleNd x) _ :: rs) (by (repeat (refine List.forall_mem_cons.2 ⟨by repeat (first | exact .head _ | assumption | apply List.Mem.tail), ?_⟩)); intro r hr; repeat (first | assumption | apply List.Mem.tail))) ?_
  rintro _ _ ⟨rfl, rfl⟩
  apply ps_res1 rfl Tryz.results110 (res_cellN Tryz.isAgg99 Tryz.sizeOf99 rfl xM (by first | (simp [ne_length, wlist_length]; done) | rfl))
  · exact ⟨_, rfl, rfl, rfl⟩
  · exact (.mk xS xS)

end Go.Proofs.YtmodmjekhlnjpaaGreatDoor
namespace Go.Proofs.YtmodmjekhlnjpaaGreatDoor
open Go.RowKit
theorem allr_ok (v : Value) (xs : List Rl) (w0 : World) (sps : List Sp) (rs : List Fa) (hv : Rd roleR v xs ∈ rs) (hl : (encN (.lst (xs.map roleNd))).length ≤ 1000000) :
    FnOk Tryz.prog 109 #[v, .func (.func 110) #[] #[]] w0 sps rs fun r s q => ∃ cs', r = .agg cs'.toArray ∧ sps = s ∧ Kf (ndR 3) (.lst (xs.map roleNd)) cs' :: rs = q := by
  have hml : (xs.map roleNd).length = xs.length := List.length_map ..
  have hel := enc_ls (.lst (xs.map roleNd))
  simp only [Nd.ls, List.length_map] at hel
  refine fn_en (en_shape hv) ?_
  rintro _ _ ⟨rfl, rfl, A0, c0, rfl, hcA0, hAA0, hMA0⟩
  refine fn_enter Tryz.func109 rfl Tryz.ntmps109 rfl ?_
  refine cs_seq ?_
  refine cs_seq_region [0] rfl ?_
  refine c_alloc rfl rfl rfl rfl Tryz.zeroValue99 rfl (fun _ => Or.inl rfl) (fun g4 => ?_)
  refine can_nil ?_
  refine ps_then ?_
  refine cs_seq ?_
  refine cs_seq_region [0] rfl ?_
  refine c_assign rfl rfl rfl rfl (by conv => lhs; whnf) ?_
  refine can_nil ?_
  refine ps_then ?_
  refine cs_seq ?_
  refine cs_seq ?_
  refine cs_seq_region [0, 1, 2] rfl ?_
  refine c_move rfl rfl rfl rfl (by conv => lhs; whnf) ?_
  refine c_len rfl rfl rfl rfl Tryz.underlying74 rfl ?_
  refine c_move rfl rfl rfl rfl (by conv => lhs; whnf) ?_
  refine can_nil ?_
  refine ps_then ?_
  refine cs_block ?_
  refine cs_en (en_nilRow (ndR 2) 99) ?_
  rintro _ _ ⟨rfl, rfl⟩
  refine cs_loopS [5, 7, 10, 11, 12, 13, 14, 15, 16, 17, 18, 19, 20] (fun m L s r => ∃ (t : Nat) (v : Value), t ≤ xs.length ∧ m = xs.length - t ∧ L = [(10, .int .i64 (t : Int)), (5, v)] ∧ s = Row (ndR 2) 99 v ((xs.take t).map roleNd) :: Bk g4 [.int .i64 0, .int .u64 0, .slice none 0 0, .slice none 0 0] 99 :: sps ∧ rs = r) [(10, .int .i64 (0 : Nat)), (5, .slice none 0 0)] (⟨rfl, rfl, trivial⟩) (⟨0, _, by omega, rfl, rfl, rfl, rfl⟩) ?_
  rintro k0 f0 _ _ _ ⟨t, v, ht, rfl, rfl, rfl, rfl⟩
  refine cs_seq ?_
  refine cs_seq_region [0] rfl ?_
  refine c_lss rfl rfl rfl rfl rfl rfl ?_
  refine can_nil ?_
  refine ps_then ?_
  refine cs_seq ?_
  refine cs_cond rfl (fun hc1 => ?_) (fun hc1 => ?_)
  · simp at hc1
    refine cs_skip ?_
    refine ps_then ?_
    refine cs_seq ?_
    refine cs_block ?_
    refine cs_seq ?_
    refine cs_en (en_open (dr := roleR) (xs := xs) t (by omega) xM) ?_
    rintro _ _ ⟨gg, off, cq, cs1, heq, hcl, rfl, rfl⟩
    injection heq with e1 e2 e3
    subst e1
    refine cs_en (en_role (x := xs[t]) (cs := cs1) xM) ?_
    rintro _ _ ⟨B1, b1, rfl, rfl, rfl⟩
    refine cs_seq_region [0, 1, 2, 3] rfl ?_
    refine c_indexAddrS rfl rfl rfl rfl Tryz.underlying74 Tryz.sizeOf46 rfl rfl xD ?_
    first | refine c_loadN rfl rfl rfl Tryz.isAgg46 Tryz.sizeOf46 rfl (ldS rfl rfl xM subAll) (by first | (simp [ne_length, wlist_length]; done) | rfl) ?_ | refine c_loadN (cs := [_, _]) rfl rfl rfl Tryz.isAgg46 Tryz.sizeOf46 rfl (ldS rfl rfl xM (subN (m := 2) (by exact rfl))) rfl ?_ | refine c_loadN rfl rfl rfl Tryz.isAgg46 Tryz.sizeOf46 rfl (ldSC (k := 0) rfl rfl xM subAll) (by first | (simp [ne_length, wlist_length]; done) | rfl) ?_
    refine c_alloc rfl rfl rfl rfl Tryz.zeroValue46 rfl (fun _ => Or.inl rfl) (fun g7 => ?_)
    refine c_storeB rfl rfl rfl Tryz.sizeOf46 rfl rfl xF (by first | (simp [ne_length, wlist_length]; done) | rfl) (by first | (simp [ne_length, wlist_length]; done) | rfl) (by first | exact ne_one _ _ | rfl | simp [Value.oneCell']) (by (try simp only [List.cons_append, List.nil_append]); exact rfl) (Or.inl rfl) ?_
    refine can_nil ?_
    refine ps_then ?_
    refine cs_seq_region [0, 1, 2, 3, 4, 5, 6] rfl ?_
    refine c_move rfl rfl rfl rfl (by conv => lhs; whnf) ?_
    refine c_move rfl rfl rfl rfl (by conv => lhs; whnf) ?_
    first | refine c_loadN rfl rfl rfl Tryz.isAgg46 Tryz.sizeOf46 rfl (ldS rfl rfl xM subAll) (by first | (simp [ne_length, wlist_length]; done) | rfl) ?_ | refine c_loadN (cs := [_, _]) rfl rfl rfl Tryz.isAgg46 Tryz.sizeOf46 rfl (ldS rfl rfl xM (subN (m := 2) (by exact rfl))) rfl ?_ | refine c_loadN rfl rfl rfl Tryz.isAgg46 Tryz.sizeOf46 rfl (ldSC (k := 0) rfl rfl xM subAll) (by first | (simp [ne_length, wlist_length]; done) | rfl) ?_
    refine c_callF rfl rfl rfl rfl rfl Tryz.call110 (role_ok xs[t] _ w0 _ _ xM (Nat.le_trans (enc_el (x := .lst (xs.map roleNd)) (List.mem_map_of_mem (List.getElem_mem _))) hl)) (by exact rfl) (fun _ _ _ _ => Or.inl rfl) ?_
    rintro _ _ _ ⟨k, rfl, rfl, rfl⟩
    refine can_en (en_four (ndR_sz (2)) (x := roleNd xs[t]) (cs := k) xM) ?_
    rintro _ _ ⟨rfl, rfl, ka, kb, kc, kd, rfl, k1, k2, k3, k4⟩
    refine c_lit (cs := [_, _, _, _]) rfl rfl rfl rfl Tryz.underlying96 Tryz.sizeOf99 Tryz.zeroValue99 rfl rfl rfl rfl rfl (fun _ => Or.inl rfl) (fun g18 => ?_)
    refine c_append1 (dr := (ndR 2)) (ys := [roleNd xs[t]]) rfl rfl rfl rfl (by rw [ndR_sz]; exact sty_nd) rfl rfl (by repeat (first | exact Rem.here | apply Rem.there)) xF rfl (fun hh hr => Reps.one1 (hr (Kf (ndR 2) (roleNd xs[t]) [ka, kb, kc, kd]) xM)) (by simp; omega) (fun _ => Or.inl rfl) (fun A19 => ?_)
    refine c_assign rfl rfl rfl rfl (by conv => lhs; whnf) ?_
    refine can_nil ?_
    refine ps_block_normal ?_
    refine ps_then ?_
    refine cs_seq_region [0, 1] rfl ?_
    first | refine c_addI rfl rfl rfl rfl rfl rfl xW ?_ | refine c_add rfl rfl rfl rfl rfl rfl ?_
    refine c_move rfl rfl rfl rfl (by conv => lhs; whnf) ?_
    refine can_nil ?_
    refine ps_en (en_arr (sps' := Row (ndR 2) 99 _ ((xs.take t).map roleNd ++ [roleNd xs[t]]) :: Bk g4 [.int .i64 0, .int .u64 0, .slice none 0 0, .slice none 0 0] 99 :: sps) (by repeat (first | exact Arr.refl | (refine Arr.cons (by repeat (first | exact Rem.here | apply Rem.there)) ?_) | refine Arr.sub (by repeat (first | exact List.Sublist.refl _ | apply List.Sublist.cons_cons | apply List.Sublist.cons))))) ?_
    rintro _ _ ⟨rfl, rfl⟩
    refine ps_en (en_keep (rs) (by (repeat (refine List.forall_mem_cons.2 ⟨by repeat (first | exact .head _ | assumption | apply List.Mem.tail), ?_⟩)); intro r hr; repeat (first | assumption | apply List.Mem.tail))) ?_
    rintro _ _ ⟨rfl, rfl⟩
    refine ps_roundS [(10, .int .i64 ((t + 1 : Nat) : Int)), (5, _)] ⟨rfl, rfl, trivial⟩ (by repeat (first | exact Mix.base | refine Mix.upd rfl ?_ | refine Mix.upds rfl ?_ | refine Mix.mix rfl ?_ | exact Mix.refl)) (xs.length - (t + 1)) (by omega) (⟨t + 1, _, by omega, rfl, rfl, by rw [map_take_succ _ _ t (by omega)], rfl⟩) (.mk xS xS)
  · simp at hc1
    obtain rfl : t = xs.length := by omega
    rw [List.take_length]
    refine cs_exit ?_
    refine ps_then_exit ?_
    refine ps_then_exit ?_
    refine ps_block_here ?_
    refine ps_then ?_
    refine cs_seq ?_
    refine cs_en (en_rowShape (xs := xs.map roleNd) xM) ?_
    rintro _ _ ⟨rfl, rfl, Bl, cl, rfl, -, -, -⟩
    refine cs_en (en_give (xs := xs.map roleNd) (by repeat (first | exact Rem.here | apply Rem.there))) ?_
    rintro _ _ ⟨rfl, rfl⟩
    refine cs_seq_region [0, 1, 2] rfl ?_
    refine c_move rfl rfl rfl rfl (by conv => lhs; whnf) ?_
    refine c_call rfl rfl rfl rfl Tryz.call40 (list_ok 2 _ (xs.map roleNd) w0 _ _ xM hl) (by exact rfl) (fun _ _ _ _ => Or.inl rfl) ?_
    rintro _ _ _ ⟨z, rfl, rfl, rfl⟩
    refine can_en (en_four (ndR_sz (3)) (x := .lst (xs.map roleNd)) (cs := z) xM) ?_
    rintro _ _ ⟨rfl, rfl, za, zb, zc, zd, rfl, z1, z2, z3, z4⟩
    refine c_storeB (cs := [za, zb, zc, zd]) rfl rfl rfl Tryz.sizeOf99 rfl rfl xF rfl rfl (all_four z1 z2 z3 z4) (by (try simp only [List.cons_append, List.nil_append]); exact rfl) (Or.inl rfl) ?_
    refine can_nil ?_
    refine ps_then ?_
    refine cs_ret ?_
    refine ps_en (en_keep (Kf (ndR 3) (.lst (xs.map roleNd)) _ :: rs) (by (repeat (refine List.forall_mem_cons.2 ⟨by repeat (first | exact .head _ | assumption | apply List.Mem.tail), ?_⟩)); intro r hr; repeat (first | assumption | apply List.Mem.tail))) ?_
    rintro _ _ ⟨rfl, rfl⟩
    apply ps_res1 rfl Tryz.results109 (res_cellN Tryz.isAgg99 Tryz.sizeOf99 rfl xM (by first | (simp [ne_length, wlist_length]; done) | rfl))
    · exact ⟨_, rfl, rfl, rfl⟩
    · exact (.mk xS xS)

theorem rightRole_nil (n : Int) (A : Option Addr) (c : Nat) (w0 : World) (sps : List Sp) (rs : List Fa) :
    FnOk Tryz.prog 185 #[.agg #[.slice A 0 c, .int .i64 n]] w0 sps rs fun r s q => r = .bool false ∧ sps = s ∧ rs = q := by
  refine fn_enter Tryz.func185 rfl Tryz.ntmps185 rfl ?_
  refine cs_seq ?_
  refine cs_seq_region [0, 1] rfl ?_
  refine c_box rfl rfl rfl rfl rfl (fun _ => Or.inl rfl) (fun g1 => ?_)
  refine c_assign rfl rfl rfl rfl (by conv => lhs; whnf) ?_
  refine can_nil ?_
  refine ps_then ?_
  refine cs_seq ?_
  refine cs_seq ?_
  refine cs_seq_region [0, 1, 2, 3] rfl ?_
  refine c_fieldAddr rfl rfl rfl rfl Tryz.underlying46 rfl Tryz.sizeOf25 rfl rfl ?_
  first | refine c_load1 rfl rfl rfl Tryz.isAgg25 rfl (ldS rfl rfl xM (sub1 (by exact rfl))) ?_ | refine c_load1 rfl rfl rfl Tryz.isAgg25 rfl (ldSC (k := 0) rfl rfl xM (sub1 (by exact rfl))) ?_ | refine c_load1 rfl rfl rfl Tryz.isAgg25 rfl (ldSC rfl rfl xM (sub1 (by exact rfl))) ?_
  refine c_len rfl rfl rfl rfl Tryz.underlying25 rfl ?_
  refine c_move rfl rfl rfl rfl (by conv => lhs; whnf) ?_
  refine can_nil ?_
  refine ps_then ?_
  refine cs_block ?_
  refine cs_rounds 1 ?_
  refine rs_succ ?_
  refine cs_seq ?_
  refine cs_seq_region [0] rfl ?_
  refine c_lss rfl rfl rfl rfl rfl rfl ?_
  refine can_nil ?_
  refine ps_then ?_
  refine cs_seq ?_
  refine cs_false rfl ?_
  refine cs_exit ?_
  refine ps_then_exit ?_
  refine ps_then_exit ?_
  refine ps_block_here ?_
  refine ps_then ?_
  refine cs_seq ?_
  refine cs_seq_region [0, 1, 2, 3, 4, 5, 6, 7, 8, 9, 10, 11, 12, 13, 14, 15, 16, 17, 18, 19, 20, 21, 22, 23] rfl ?_
  refine c_fieldAddr rfl rfl rfl rfl Tryz.underlying46 rfl Tryz.sizeOf25 rfl rfl ?_
  first | refine c_load1 rfl rfl rfl Tryz.isAgg25 rfl (ldS rfl rfl xM (sub1 (by exact rfl))) ?_ | refine c_load1 rfl rfl rfl Tryz.isAgg25 rfl (ldSC (k := 0) rfl rfl xM (sub1 (by exact rfl))) ?_ | refine c_load1 rfl rfl rfl Tryz.isAgg25 rfl (ldSC rfl rfl xM (sub1 (by exact rfl))) ?_
  refine c_len rfl rfl rfl rfl Tryz.underlying25 rfl ?_
  refine c_geq rfl rfl rfl rfl rfl rfl ?_
  refine c_move rfl rfl rfl rfl (by conv => lhs; whnf) ?_
  refine can_known 36 false rfl (rfl) ?_
  refine can_skip rfl rfl rfl (Or.inl rfl) ?_
  refine can_skip rfl rfl rfl (Or.inl rfl) ?_
  refine can_skip rfl rfl rfl (Or.inl rfl) ?_
  refine can_skip rfl rfl rfl (Or.inl rfl) ?_
  refine c_pick rfl rfl rfl rfl rfl (by conv => lhs; whnf) ?_
  refine c_move rfl rfl rfl rfl (by conv => lhs; whnf) ?_
  refine can_skip rfl rfl rfl (Or.inl rfl) ?_
  refine can_skip rfl rfl rfl (Or.inl rfl) ?_
  refine can_skip rfl rfl rfl (Or.inl rfl) ?_
  refine c_pick rfl rfl rfl rfl rfl (by conv => lhs; whnf) ?_
  refine c_move rfl rfl rfl rfl (by conv => lhs; whnf) ?_
  refine can_skip rfl rfl rfl (Or.inl rfl) ?_
  refine can_skip rfl rfl rfl (Or.inl rfl) ?_
  refine can_skip rfl rfl rfl (Or.inl rfl) ?_
  refine can_skip rfl rfl rfl (Or.inl rfl) ?_
  refine can_skip rfl rfl rfl (Or.inl rfl) ?_
  refine can_skip rfl rfl rfl (Or.inl rfl) ?_
  refine c_pick rfl rfl rfl rfl rfl (by conv => lhs; whnf) ?_
  refine c_assign rfl rfl rfl rfl (by conv => lhs; whnf) ?_
  refine can_nil ?_
  refine ps_then ?_
  refine cs_ret ?_
  apply ps_end1 rfl Tryz.results185 (by conv => lhs; whnf)
  · exact ⟨rfl, rfl, rfl⟩
  · exact (.mk xS xS)

theorem rightRoot_no (n v e : Int) (vr : Value) (w0 : World) (sps : List Sp) (rs : List Fa) (hv : Rd roleR vr [(⟨[], n⟩ : Rl), (⟨[], n⟩ : Rl), (⟨[], n⟩ : Rl), (⟨[], n⟩ : Rl)] ∈ rs) :
    FnOk Tryz.prog 107 #[.agg #[.int .i64 v, .int .i64 e, vr]] w0 sps rs fun r s q => r = .bool false ∧ sps = s ∧ rs = q := by
  refine fn_en (en_shape hv) ?_
  rintro _ _ ⟨rfl, rfl, A0, c0, rfl, hcA0, hAA0, hMA0⟩
  refine fn_enter Tryz.func107 rfl Tryz.ntmps107 rfl ?_
  refine cs_seq ?_
  refine cs_seq_region [0, 1] rfl ?_
  refine c_box rfl rfl rfl rfl rfl (fun _ => Or.inl rfl) (fun g1 => ?_)
  refine c_assign rfl rfl rfl rfl (by conv => lhs; whnf) ?_
  refine can_nil ?_
  refine ps_then ?_
  refine cs_seq ?_
  refine cs_seq ?_
  refine cs_seq_region [0, 1, 2, 3] rfl ?_
  refine c_fieldAddr rfl rfl rfl rfl Tryz.underlying76 rfl Tryz.sizeOf74 rfl rfl ?_
  first | refine c_load1 rfl rfl rfl Tryz.isAgg74 rfl (ldS rfl rfl xM (sub1 (by exact rfl))) ?_ | refine c_load1 rfl rfl rfl Tryz.isAgg74 rfl (ldSC (k := 0) rfl rfl xM (sub1 (by exact rfl))) ?_ | refine c_load1 rfl rfl rfl Tryz.isAgg74 rfl (ldSC rfl rfl xM (sub1 (by exact rfl))) ?_
  refine c_len rfl rfl rfl rfl Tryz.underlying74 rfl ?_
  refine c_move rfl rfl rfl rfl (by conv => lhs; whnf) ?_
  refine can_nil ?_
  refine ps_then ?_
  refine cs_block ?_
  refine cs_rounds 2 ?_
  refine rs_succ ?_
  refine cs_seq ?_
  refine cs_seq_region [0] rfl ?_
  refine c_lss rfl rfl rfl rfl rfl rfl ?_
  refine can_nil ?_
  refine ps_then ?_
  refine cs_seq ?_
  refine cs_true rfl ?_
  refine cs_skip ?_
  refine ps_then ?_
  refine cs_seq ?_
  refine cs_block ?_
  refine cs_seq ?_
  refine cs_en (en_open (dr := roleR) (xs := [(⟨[], n⟩ : Rl), (⟨[], n⟩ : Rl), (⟨[], n⟩ : Rl), (⟨[], n⟩ : Rl)]) 0 (Nat.le_of_ble_eq_true rfl) xM) ?_
  rintro _ _ ⟨gg, off, cq, cs1, heq, hcl, rfl, rfl⟩
  injection heq with e1 e2 e3
  subst e1
  refine cs_en (en_role (x := (⟨[], n⟩ : Rl)) (cs := cs1) xM) ?_
  rintro _ _ ⟨B1, b1, rfl, rfl, rfl⟩
  refine cs_seq_region [0, 1, 2, 3] rfl ?_
  refine c_indexAddrS rfl rfl rfl rfl Tryz.underlying74 Tryz.sizeOf46 rfl rfl xD ?_
  first | refine c_loadN rfl rfl rfl Tryz.isAgg46 Tryz.sizeOf46 rfl (ldS rfl rfl xM subAll) (by first | (simp [ne_length, wlist_length]; done) | rfl) ?_ | refine c_loadN (cs := [_, _]) rfl rfl rfl Tryz.isAgg46 Tryz.sizeOf46 rfl (ldS rfl rfl xM (subN (m := 2) (by exact rfl))) rfl ?_ | refine c_loadN rfl rfl rfl Tryz.isAgg46 Tryz.sizeOf46 rfl (ldSC (k := 0) rfl rfl xM subAll) (by first | (simp [ne_length, wlist_length]; done) | rfl) ?_
  refine c_alloc rfl rfl rfl rfl Tryz.zeroValue46 rfl (fun _ => Or.inl rfl) (fun g4 => ?_)
  refine c_storeB rfl rfl rfl Tryz.sizeOf46 rfl rfl xF (by first | (simp [ne_length, wlist_length]; done) | rfl) (by first | (simp [ne_length, wlist_length]; done) | rfl) (by first | exact ne_one _ _ | rfl | simp [Value.oneCell']) (by (try simp only [List.cons_append, List.nil_append]); exact rfl) (Or.inl rfl) ?_
  refine can_nil ?_
  refine ps_then ?_
  refine cs_seq ?_
  refine cs_seq_region [0, 1, 2] rfl ?_
  first | refine c_loadN rfl rfl rfl Tryz.isAgg46 Tryz.sizeOf46 rfl (ldS rfl rfl xM subAll) (by first | (simp [ne_length, wlist_length]; done) | rfl) ?_ | refine c_loadN (cs := [_, _]) rfl rfl rfl Tryz.isAgg46 Tryz.sizeOf46 rfl (ldS rfl rfl xM (subN (m := 2) (by exact rfl))) rfl ?_ | refine c_loadN rfl rfl rfl Tryz.isAgg46 Tryz.sizeOf46 rfl (ldSC (k := 0) rfl rfl xM subAll) (by first | (simp [ne_length, wlist_length]; done) | rfl) ?_
  refine c_call rfl rfl rfl rfl Tryz.call185 (rightRole_nil n _ _ w0 _ _) (by exact rfl) (fun _ _ _ _ => Or.inl rfl) ?_
  rintro _ _ _ ⟨rfl, rfl, rfl⟩
  refine c_not rfl rfl rfl rfl rfl ?_
  refine can_nil ?_
  refine ps_then ?_
  refine cs_cond rfl (fun _ => ?_) (fun hc1 => Bool.noConfusion (show false = true from hc1.symm.trans (rfl)))
  refine cs_seq ?_
  refine cs_seq_region [0] rfl ?_
  refine c_assign rfl rfl rfl rfl (by conv => lhs; whnf) ?_
  refine can_nil ?_
  refine ps_then ?_
  refine cs_ret ?_
  refine ps_block_ret ?_
  refine ps_then_ret ?_
  refine ps_then_ret ?_
  refine ps_block_ret ?_
  refine ps_then_ret ?_
  refine ps_en (en_keep (rs) (by (repeat (refine List.forall_mem_cons.2 ⟨by repeat (first | exact .head _ | assumption | apply List.Mem.tail), ?_⟩)); intro r hr; repeat (first | assumption | apply List.Mem.tail))) ?_
  rintro _ _ ⟨rfl, rfl⟩
  apply ps_end1 rfl Tryz.results107 (by conv => lhs; whnf)
  · exact ⟨rfl, rfl, rfl⟩
  · exact (.mk xS xS)

theorem written_no (cs : List Value) (w0 : World) (sps : List Sp) (rs : List Fa) :
    FnOk Tryz.prog 106 #[.bool false, .agg cs.toArray] w0 sps rs fun r s q => r = .tuple #[.slice none 0 0, .int .i64 80] ∧ sps = s ∧ rs = q := by
  refine fn_enter Tryz.func106 rfl Tryz.ntmps106 rfl ?_
  refine cs_seq ?_
  refine cs_seq_region [0, 1, 2] rfl ?_
  refine c_box rfl rfl rfl rfl rfl (fun _ => Or.inl rfl) (fun g3 => ?_)
  refine c_assign rfl rfl rfl rfl (by conv => lhs; whnf) ?_
  refine c_assign rfl rfl rfl rfl (by conv => lhs; whnf) ?_
  refine can_nil ?_
  refine ps_then ?_
  refine cs_seq ?_
  refine cs_seq ?_
  refine cs_seq_region [0, 1] rfl ?_
  refine c_move rfl rfl rfl rfl (by conv => lhs; whnf) ?_
  refine c_not rfl rfl rfl rfl rfl ?_
  refine can_nil ?_
  refine ps_then ?_
  refine cs_cond rfl (fun _ => ?_) (fun hc1 => Bool.noConfusion (show false = true from hc1.symm.trans (rfl)))
  refine cs_seq ?_
  refine cs_seq_region [0, 1] rfl ?_
  refine c_assign rfl rfl rfl rfl (by conv => lhs; whnf) ?_
  refine c_assign rfl rfl rfl rfl (by conv => lhs; whnf) ?_
  refine can_nil ?_
  refine ps_then ?_
  refine cs_ret ?_
  refine ps_then_ret ?_
  apply ps_end2 rfl Tryz.results106 (by conv => lhs; whnf) (by conv => lhs; whnf)
  · exact ⟨rfl, rfl, rfl⟩
  · exact (.mk xS xS)

theorem writeRoot_no (n v e : Int) (vr : Value) (w0 : World) (sps : List Sp) (rs : List Fa) (hv : Rd roleR vr [(⟨[], n⟩ : Rl), (⟨[], n⟩ : Rl), (⟨[], n⟩ : Rl), (⟨[], n⟩ : Rl)] ∈ rs) :
    FnOk Tryz.prog 51 #[.agg #[.int .i64 v, .int .i64 e, vr]] w0 sps rs fun r s q => r = .tuple #[.slice none 0 0, .int .i64 80] ∧ sps = s ∧ rs = q := by
  have hcn := cntB_len (u64 n) (u64_lt n)
  have hcv := cntB_len (u64 v) (u64_lt v)
  have hce := cntB_len (u64 e) (u64_lt e)
  have c0 : cntB 0 = [0] := rfl
  have c1 : (cntB 1).length = 1 := rfl
  have c2 : (cntB 2).length = 1 := rfl
  have c3 : (cntB 3).length = 1 := rfl
  have c4 : (cntB 4).length = 1 := rfl
  have hl : (encN (.lst ([(⟨[], n⟩ : Rl), (⟨[], n⟩ : Rl), (⟨[], n⟩ : Rl), (⟨[], n⟩ : Rl)].map roleNd))).length ≤ 1000 := by
    simp only [List.map_cons, List.map_nil, encN, encL, roleNd, keysNd, List.length_cons, List.length_append, List.length_nil, Nat.zero_add, Nat.reduceAdd, c0, c2, c4]
    omega
  have hl2 : (encN (.lst [.num (u64 v), .num (u64 e), .lst ([(⟨[], n⟩ : Rl), (⟨[], n⟩ : Rl), (⟨[], n⟩ : Rl), (⟨[], n⟩ : Rl)].map roleNd)])).length ≤ 2000 := by
    rw [encN, encL, encL, encL, encL, encN, encN]
    simp only [List.length_cons, List.length_append, List.length_nil, Nat.zero_add, Nat.reduceAdd, c3]
    omega
  refine fn_en (en_shape hv) ?_
  rintro _ _ ⟨rfl, rfl, A0, c0, rfl, hcA0, hAA0, hMA0⟩
  refine fn_enter Tryz.func51 rfl Tryz.ntmps51 rfl ?_
  refine cs_seq ?_
  refine cs_seq_region [0, 1, 2] rfl ?_
  refine c_box rfl rfl rfl rfl rfl (fun _ => Or.inl rfl) (fun g1 => ?_)
  refine c_assign rfl rfl rfl rfl (by conv => lhs; whnf) ?_
  refine c_assign rfl rfl rfl rfl (by conv => lhs; whnf) ?_
  refine can_nil ?_
  refine ps_then ?_
  refine cs_seq ?_
  refine cs_draw_region [1, 2, 0, 1, 2, 0, 1, 2, 0, 1, 2, 2, 2, 2, 0, 0, 0, 0] [false, true, false, false, true, false, false, true, false, false, true, true, true, true, false, false, false, false] [0, 2, 3, 5, 6, 8, 9, 1, 4, 7, 10, 11, 12, 13, 14, 15, 16, 17] (by kernel_rfl) (by kernel_rfl) (by kernel_rfl) (by kernel_rfl) xQ ?_
  first | refine c_loadN rfl rfl rfl Tryz.isAgg76 Tryz.sizeOf76 rfl (ldD rfl rfl xE xM subAll) (by first | (simp [ne_length, wlist_length]; done) | rfl) ?_ | refine c_loadN (cs := [_, _, _]) rfl rfl rfl Tryz.isAgg76 Tryz.sizeOf76 rfl (ldD rfl rfl xE xM (subN (m := 3) (by exact rfl))) rfl ?_ | refine c_loadN rfl rfl rfl Tryz.isAgg76 Tryz.sizeOf76 rfl (ldDC (k := 0) rfl rfl xE xM subAll) (by first | (simp [ne_length, wlist_length]; done) | rfl) ?_
  refine c_fieldAddr rfl rfl rfl rfl Tryz.underlying76 rfl Tryz.sizeOf2 rfl rfl ?_
  first | refine c_load1 rfl rfl rfl Tryz.isAgg2 rfl (ldD rfl rfl xE xM (sub1 (by exact rfl))) ?_ | refine c_load1 rfl rfl rfl Tryz.isAgg2 rfl (ldDC (k := 0) rfl rfl xE xM (sub1 (by exact rfl))) ?_ | refine c_load1 rfl rfl rfl Tryz.isAgg2 rfl (ldDC rfl rfl xE xM (sub1 (by exact rfl))) ?_
  refine c_fieldAddr rfl rfl rfl rfl Tryz.underlying76 rfl Tryz.sizeOf2 rfl rfl ?_
  first | refine c_load1 rfl rfl rfl Tryz.isAgg2 rfl (ldD rfl rfl xE xM (sub1 (by exact rfl))) ?_ | refine c_load1 rfl rfl rfl Tryz.isAgg2 rfl (ldDC (k := 0) rfl rfl xE xM (sub1 (by exact rfl))) ?_ | refine c_load1 rfl rfl rfl Tryz.isAgg2 rfl (ldDC rfl rfl xE xM (sub1 (by exact rfl))) ?_
  refine c_fieldAddr rfl rfl rfl rfl Tryz.underlying76 rfl Tryz.sizeOf74 rfl rfl ?_
  first | refine c_load1 rfl rfl rfl Tryz.isAgg74 rfl (ldD rfl rfl xE xM (sub1 (by exact rfl))) ?_ | refine c_load1 rfl rfl rfl Tryz.isAgg74 rfl (ldDC (k := 0) rfl rfl xE xM (sub1 (by exact rfl))) ?_ | refine c_load1 rfl rfl rfl Tryz.isAgg74 rfl (ldDC rfl rfl xE xM (sub1 (by exact rfl))) ?_
  refine c_call rfl rfl rfl rfl Tryz.call107 (rightRoot_no n v e _ w0 _ _ xM) (by exact rfl) (by rintro v s r ⟨rfl, rfl, rfl⟩; exact Or.inr xE) ?_
  rintro _ _ _ ⟨rfl, rfl, rfl⟩
  refine c_call rfl rfl rfl rfl Tryz.call108 (num_ok 2 v w0 _ _) (by exact rfl) (by rintro v s r ⟨k, rfl, rfl, rfl⟩; exact Or.inr xE) ?_
  rintro _ _ _ ⟨k, rfl, rfl, rfl⟩
  refine can_en (en_four (ndR_sz (3)) (x := .num (u64 v)) (cs := k) xM) ?_
  rintro _ _ ⟨rfl, rfl, ka, kb, kc, kd, rfl, k1, k2, k3, k4⟩
  refine c_call rfl rfl rfl rfl Tryz.call108 (num_ok 2 e w0 _ _) (by exact rfl) (by rintro v s r ⟨j, rfl, rfl, rfl⟩; exact Or.inr xE) ?_
  rintro _ _ _ ⟨j, rfl, rfl, rfl⟩
  refine can_en (en_four (ndR_sz (3)) (x := .num (u64 e)) (cs := j) xM) ?_
  rintro _ _ ⟨rfl, rfl, ja, jb, jc, jd, rfl, j1, j2, j3, j4⟩
  refine c_call rfl rfl rfl rfl Tryz.call109 (allr_ok _ [(⟨[], n⟩ : Rl), (⟨[], n⟩ : Rl), (⟨[], n⟩ : Rl), (⟨[], n⟩ : Rl)] w0 _ _ xM (by omega)) (by exact rfl) (by rintro v s r ⟨z, rfl, rfl, rfl⟩; exact Or.inr xE) ?_
  rintro _ _ _ ⟨z, rfl, rfl, rfl⟩
  refine can_en (en_four (ndR_sz (3)) (x := .lst ([(⟨[], n⟩ : Rl), (⟨[], n⟩ : Rl), (⟨[], n⟩ : Rl), (⟨[], n⟩ : Rl)].map roleNd)) (cs := z) xM) ?_
  rintro _ _ ⟨rfl, rfl, za, zb, zc, zd, rfl, z1, z2, z3, z4⟩
  refine c_lit (cs := [_, _, _, _, _, _, _, _, _, _, _, _]) rfl rfl rfl rfl Tryz.underlying96 Tryz.sizeOf99 Tryz.zeroValue99 rfl rfl rfl rfl rfl (fun _ => Or.inr xE) (fun g15 => ?_)
  refine can_en (en_asRd (dr := ndR 3) (xs := [.num (u64 v), .num (u64 e), .lst ([(⟨[], n⟩ : Rl), (⟨[], n⟩ : Rl), (⟨[], n⟩ : Rl), (⟨[], n⟩ : Rl)].map roleNd)]) (by repeat (first | exact Rem.here | apply Rem.there)) (fun hh hr => reps3 (hr (Kf (ndR 3) (.num (u64 v)) [ka, kb, kc, kd]) xM) (hr (Kf (ndR 3) (.num (u64 e)) [ja, jb, jc, jd]) xM) (hr (Kf (ndR 3) (.lst ([(⟨[], n⟩ : Rl), (⟨[], n⟩ : Rl), (⟨[], n⟩ : Rl), (⟨[], n⟩ : Rl)].map roleNd)) [za, zb, zc, zd]) xM)) rfl (by simp)) ?_
  rintro _ _ ⟨rfl, rfl⟩
  refine c_call rfl rfl rfl rfl Tryz.call40 (list_ok 3 _ [.num (u64 v), .num (u64 e), .lst ([(⟨[], n⟩ : Rl), (⟨[], n⟩ : Rl), (⟨[], n⟩ : Rl), (⟨[], n⟩ : Rl)].map roleNd)] w0 _ _ xM (by omega)) (by exact rfl) (by rintro v s r ⟨y, rfl, rfl, rfl⟩; exact Or.inr xE) ?_
  rintro _ _ _ ⟨y, rfl, rfl, rfl⟩
  refine c_call rfl rfl rfl rfl Tryz.call106 (written_no y w0 _ _) (by exact rfl) (by rintro v s r ⟨rfl, rfl, rfl⟩; exact Or.inr xE) ?_
  rintro _ _ _ ⟨rfl, rfl, rfl⟩
  refine can_forget rfl ?_
  refine c_extract rfl rfl rfl rfl rfl rfl ?_
  refine c_extract rfl rfl rfl rfl rfl rfl ?_
  refine c_assign rfl rfl rfl rfl (by conv => lhs; whnf) ?_
  refine c_assign rfl rfl rfl rfl (by conv => lhs; whnf) ?_
  refine can_nil ?_
  refine ps_then ?_
  refine cs_ret ?_
  refine ps_en (en_keep (rs) (by (repeat (refine List.forall_mem_cons.2 ⟨by repeat (first | exact .head _ | assumption | apply List.Mem.tail), ?_⟩)); intro r hr; repeat (first | assumption | apply List.Mem.tail))) ?_
  rintro _ _ ⟨rfl, rfl⟩
  apply ps_end2 rfl Tryz.results51 (by conv => lhs; whnf) (by conv => lhs; whnf)
  · exact ⟨rfl, rfl, rfl⟩
  · exact (.mk xS xS)

theorem isort_nil (cmp : Value) (w0 : World) (sps : List Sp) (rs : List Fa) : FnOk Tryz.prog 174 #[.slice none 0 0, .int .i64 0, .int .i64 0, cmp] w0 sps rs fun r s q => r = .tuple #[] ∧ sps = s ∧ rs = q := by
  refine fn_enter Tryz.func174 rfl Tryz.ntmps174 rfl ?_
  refine cs_seq ?_
  refine cs_seq_region [0, 1, 2] rfl ?_
  refine c_move rfl rfl rfl rfl (by conv => lhs; whnf) ?_
  first | refine c_addI rfl rfl rfl rfl rfl rfl xW ?_ | refine c_add rfl rfl rfl rfl rfl rfl ?_
  refine c_assign rfl rfl rfl rfl (by conv => lhs; whnf) ?_
  refine can_nil ?_
  refine ps_then ?_
  refine cs_block ?_
  refine cs_rounds 1 ?_
  refine rs_succ ?_
  refine cs_seq ?_
  refine cs_seq ?_
  refine cs_seq_region [0, 1, 2] rfl ?_
  refine c_move rfl rfl rfl rfl (by conv => lhs; whnf) ?_
  refine c_move rfl rfl rfl rfl (by conv => lhs; whnf) ?_
  refine c_lss rfl rfl rfl rfl rfl rfl ?_
  refine can_nil ?_
  refine ps_then ?_
  refine cs_false rfl ?_
  refine cs_exit ?_
  refine ps_then_exit ?_
  refine ps_then_exit ?_
  refine ps_block_here ?_
  apply ps_end0 rfl Tryz.results174
  · exact ⟨rfl, rfl, rfl⟩
  · exact (.mk xS xS)

theorem pdq_nil (k : Int) (cmp : Value) (w0 : World) (sps : List Sp) (rs : List Fa) : FnOk Tryz.prog 103 #[.slice none 0 0, .int .i64 0, .int .i64 0, .int .i64 k, cmp] w0 sps rs fun r s q => r = .tuple #[] ∧ sps = s ∧ rs = q := by
  refine fn_enter Tryz.func103 rfl Tryz.ntmps103 rfl ?_
  refine cs_seq ?_
  refine cs_seq_region [0] rfl ?_
  refine c_assign rfl rfl rfl rfl (by conv => lhs; whnf) ?_
  refine can_nil ?_
  refine ps_then ?_
  refine cs_seq ?_
  refine cs_seq_region [0] rfl ?_
  refine c_assign rfl rfl rfl rfl (by conv => lhs; whnf) ?_
  refine can_nil ?_
  refine ps_then ?_
  refine cs_block ?_
  refine cs_rounds 2 ?_
  refine rs_succ ?_
  refine cs_block ?_
  refine cs_seq ?_
  refine cs_seq_region [0, 1, 2, 3] rfl ?_
  refine c_move rfl rfl rfl rfl (by conv => lhs; whnf) ?_
  refine c_move rfl rfl rfl rfl (by conv => lhs; whnf) ?_
  first | refine c_subI rfl rfl rfl rfl rfl rfl xW ?_ | refine c_sub rfl rfl rfl rfl rfl rfl ?_
  refine c_assign rfl rfl rfl rfl (by conv => lhs; whnf) ?_
  refine can_nil ?_
  refine ps_then ?_
  refine cs_seq ?_
  refine cs_seq ?_
  refine cs_seq_region [0, 1] rfl ?_
  refine c_move rfl rfl rfl rfl (by conv => lhs; whnf) ?_
  refine c_leq rfl rfl rfl rfl rfl rfl ?_
  refine can_nil ?_
  refine ps_then ?_
  refine cs_cond rfl (fun _ => ?_) (fun hc1 => Bool.noConfusion (show false = true from hc1.symm.trans (rfl)))
  refine cs_seq ?_
  refine cs_seq_region [0, 1, 2, 3, 4] rfl ?_
  refine c_move rfl rfl rfl rfl (by conv => lhs; whnf) ?_
  refine c_move rfl rfl rfl rfl (by conv => lhs; whnf) ?_
  refine c_move rfl rfl rfl rfl (by conv => lhs; whnf) ?_
  refine c_move rfl rfl rfl rfl (by conv => lhs; whnf) ?_
  refine c_call rfl rfl rfl rfl Tryz.call174 (isort_nil _ w0 _ _) (by exact rfl) (fun _ _ _ _ => Or.inl rfl) ?_
  rintro _ _ _ ⟨rfl, rfl, rfl⟩
  refine can_nil ?_
  refine ps_then ?_
  refine cs_ret ?_
  refine ps_then_ret ?_
  refine ps_block_ret ?_
  refine ps_then_ret ?_
  refine ps_block_ret ?_
  apply ps_end0 rfl Tryz.results103
  · exact ⟨rfl, rfl, rfl⟩
  · exact (.mk xS xS)

theorem sort_nil (cmp : Value) (w0 : World) (sps : List Sp) (rs : List Fa) : FnOk Tryz.prog 47 #[.slice none 0 0, cmp] w0 sps rs fun r s q => r = .tuple #[] ∧ sps = s ∧ rs = q := by
  refine fn_enter Tryz.func47 rfl Tryz.ntmps47 rfl ?_
  refine cs_seq ?_
  refine cs_seq_region [0, 1, 2] rfl ?_
  refine c_move rfl rfl rfl rfl (by conv => lhs; whnf) ?_
  refine c_len rfl rfl rfl rfl Tryz.underlying25 rfl ?_
  refine c_assign rfl rfl rfl rfl (by conv => lhs; whnf) ?_
  refine can_nil ?_
  refine ps_then ?_
  refine cs_seq_region [0, 1, 2, 3, 4, 5, 6] rfl ?_
  refine c_move rfl rfl rfl rfl (by conv => lhs; whnf) ?_
  refine c_move rfl rfl rfl rfl (by conv => lhs; whnf) ?_
  refine c_move rfl rfl rfl rfl (by conv => lhs; whnf) ?_
  refine n_conv (p := 0) rfl rfl rfl rfl Tryz.underlying3 Tryz.underlying174 rfl rfl ?_
  refine c_call rfl rfl rfl rfl Tryz.call104 (len_ok 0 w0 _ _ (by decide)) (by exact rfl) (fun _ _ _ _ => Or.inl rfl) ?_
  rintro _ _ _ ⟨rfl, rfl, rfl⟩
  refine c_move rfl rfl rfl rfl (by conv => lhs; whnf) ?_
  refine c_call rfl rfl rfl rfl Tryz.call103 (pdq_nil _ _ w0 _ _) (by exact rfl) (fun _ _ _ _ => Or.inl rfl) ?_
  rintro _ _ _ ⟨rfl, rfl, rfl⟩
  refine can_nil ?_
  apply ps_end0 rfl Tryz.results47
  · exact ⟨rfl, rfl, rfl⟩
  · exact (.mk xS xS)

theorem compact_nil (eq : Value) (w0 : World) (sps : List Sp) (rs : List Fa) : FnOk Tryz.prog 49 #[.slice none 0 0, eq] w0 sps rs fun r s q => r = .slice none 0 0 ∧ sps = s ∧ rs = q := by
  refine fn_enter Tryz.func49 rfl Tryz.ntmps49 rfl ?_
  refine cs_seq ?_
  refine cs_seq_region [0] rfl ?_
  refine c_assign rfl rfl rfl rfl (by conv => lhs; whnf) ?_
  refine can_nil ?_
  refine ps_then ?_
  refine cs_seq ?_
  refine cs_seq ?_
  refine cs_seq_region [0, 1, 2] rfl ?_
  refine c_move rfl rfl rfl rfl (by conv => lhs; whnf) ?_
  refine c_len rfl rfl rfl rfl Tryz.underlying25 rfl ?_
  refine c_lss rfl rfl rfl rfl rfl rfl ?_
  refine can_nil ?_
  refine ps_then ?_
  refine cs_cond rfl (fun _ => ?_) (fun hc1 => Bool.noConfusion (show false = true from hc1.symm.trans (rfl)))
  refine cs_seq ?_
  refine cs_seq_region [0, 1] rfl ?_
  refine c_move rfl rfl rfl rfl (by conv => lhs; whnf) ?_
  refine c_assign rfl rfl rfl rfl (by conv => lhs; whnf) ?_
  refine can_nil ?_
  refine ps_then ?_
  refine cs_ret ?_
  refine ps_then_ret ?_
  apply ps_end1 rfl Tryz.results49 (by conv => lhs; whnf)
  · exact ⟨rfl, rfl, rfl⟩
  · exact (.mk xS xS)

theorem role_none (w0 : World) (sps : List Sp) (rs : List Fa) : FnOk Tryz.prog 16 #[.agg #[.slice none 0 0, .int .i64 0]] w0 sps rs fun r s q => r = .tuple #[.agg #[.slice none 0 0, .int .i64 0], .int .i64 80] ∧ sps = s ∧ rs = q := by
  refine fn_enter Tryz.func16 rfl Tryz.ntmps16 rfl ?_
  refine cs_seq ?_
  refine cs_seq_region [0, 1, 2] rfl ?_
  refine c_box rfl rfl rfl rfl rfl (fun _ => Or.inl rfl) (fun g1 => ?_)
  refine c_alloc rfl rfl rfl rfl Tryz.zeroValue46 rfl (fun _ => Or.inl rfl) (fun g2 => ?_)
  refine c_assign rfl rfl rfl rfl (by conv => lhs; whnf) ?_
  refine can_nil ?_
  refine ps_then ?_
  refine cs_seq ?_
  refine cs_seq_region [0, 1, 2, 3, 4] rfl ?_
  refine c_fieldAddr rfl rfl rfl rfl Tryz.underlying49 rfl Tryz.sizeOf2 rfl rfl ?_
  first | refine c_load1 rfl rfl rfl Tryz.isAgg2 rfl (ldS rfl rfl xM (sub1 (by exact rfl))) ?_ | refine c_load1 rfl rfl rfl Tryz.isAgg2 rfl (ldSC (k := 0) rfl rfl xM (sub1 (by exact rfl))) ?_ | refine c_load1 rfl rfl rfl Tryz.isAgg2 rfl (ldSC rfl rfl xM (sub1 (by exact rfl))) ?_
  refine c_buildS (cs := [_, _]) rfl rfl rfl rfl Tryz.underlying46 Tryz.zeroValue46 (by intro w; simp [Tryz.sizeOf2, Tryz.sizeOf25]; rfl) rfl rfl ?_
  refine c_alloc rfl rfl rfl rfl Tryz.zeroValue46 rfl (fun _ => Or.inl rfl) (fun g4 => ?_)
  refine c_storeB rfl rfl rfl Tryz.sizeOf46 rfl rfl xF (by first | (simp [ne_length, wlist_length]; done) | rfl) (by first | (simp [ne_length, wlist_length]; done) | rfl) (by first | exact ne_one _ _ | rfl | simp [Value.oneCell']) (by (try simp only [List.cons_append, List.nil_append]); exact rfl) (Or.inl rfl) ?_
  refine can_nil ?_
  refine ps_then ?_
  refine cs_seq ?_
  refine cs_seq ?_
  refine cs_seq_region [0, 1, 2, 3] rfl ?_
  refine c_fieldAddr rfl rfl rfl rfl Tryz.underlying49 rfl Tryz.sizeOf25 rfl rfl ?_
  first | refine c_load1 rfl rfl rfl Tryz.isAgg25 rfl (ldS rfl rfl xM (sub1 (by exact rfl))) ?_ | refine c_load1 rfl rfl rfl Tryz.isAgg25 rfl (ldSC (k := 0) rfl rfl xM (sub1 (by exact rfl))) ?_ | refine c_load1 rfl rfl rfl Tryz.isAgg25 rfl (ldSC rfl rfl xM (sub1 (by exact rfl))) ?_
  refine c_len rfl rfl rfl rfl Tryz.underlying25 rfl ?_
  refine c_move rfl rfl rfl rfl (by conv => lhs; whnf) ?_
  refine can_nil ?_
  refine ps_then ?_
  refine cs_block ?_
  refine cs_rounds 1 ?_
  refine rs_succ ?_
  refine cs_seq ?_
  refine cs_seq_region [0] rfl ?_
  refine c_lss rfl rfl rfl rfl rfl rfl ?_
  refine can_nil ?_
  refine ps_then ?_
  refine cs_seq ?_
  refine cs_false rfl ?_
  refine cs_exit ?_
  refine ps_then_exit ?_
  refine ps_then_exit ?_
  refine ps_block_here ?_
  refine ps_then ?_
  refine cs_seq ?_
  refine cs_seq_region [0, 1, 2] rfl ?_
  refine c_fieldAddr rfl rfl rfl rfl Tryz.underlying46 rfl Tryz.sizeOf25 rfl rfl ?_
  first | refine c_load1 rfl rfl rfl Tryz.isAgg25 rfl (ldS rfl rfl xM (sub1 (by exact rfl))) ?_ | refine c_load1 rfl rfl rfl Tryz.isAgg25 rfl (ldSC (k := 0) rfl rfl xM (sub1 (by exact rfl))) ?_ | refine c_load1 rfl rfl rfl Tryz.isAgg25 rfl (ldSC rfl rfl xM (sub1 (by exact rfl))) ?_
  refine c_call rfl rfl rfl rfl Tryz.call47 (sort_nil _ w0 _ _) (by exact rfl) (fun _ _ _ _ => Or.inl rfl) ?_
  rintro _ _ _ ⟨rfl, rfl, rfl⟩
  refine can_nil ?_
  refine ps_then ?_
  refine cs_seq ?_
  refine cs_seq_region [0, 1, 2, 3, 4] rfl ?_
  refine c_fieldAddr rfl rfl rfl rfl Tryz.underlying46 rfl Tryz.sizeOf25 rfl rfl ?_
  first | refine c_load1 rfl rfl rfl Tryz.isAgg25 rfl (ldS rfl rfl xM (sub1 (by exact rfl))) ?_ | refine c_load1 rfl rfl rfl Tryz.isAgg25 rfl (ldSC (k := 0) rfl rfl xM (sub1 (by exact rfl))) ?_ | refine c_load1 rfl rfl rfl Tryz.isAgg25 rfl (ldSC rfl rfl xM (sub1 (by exact rfl))) ?_
  refine c_call rfl rfl rfl rfl Tryz.call49 (compact_nil _ w0 _ _) (by exact rfl) (fun _ _ _ _ => Or.inl rfl) ?_
  rintro _ _ _ ⟨rfl, rfl, rfl⟩
  refine c_fieldAddr rfl rfl rfl rfl Tryz.underlying46 rfl Tryz.sizeOf25 rfl rfl ?_
  refine c_store1 rfl rfl rfl Tryz.sizeOf25 rfl (by conv => lhs; whnf) xF rfl (by first | exact Nat.le_of_ble_eq_true rfl | (simp [ne_length, wlist_length] <;> omega)) (by (try simp only [List.set_cons_zero, List.set_cons_succ]); exact rfl) (by (try simp only [List.cons_append, List.nil_append]); exact rfl) (Or.inl rfl) ?_
  refine can_nil ?_
  refine ps_then ?_
  refine cs_seq ?_
  refine cs_seq ?_
  refine cs_seq_region [0, 1, 2, 3, 4, 5, 6, 7, 8, 9, 10, 11] rfl ?_
  first | refine c_loadN rfl rfl rfl Tryz.isAgg46 Tryz.sizeOf46 rfl (ldS rfl rfl xM subAll) (by first | (simp [ne_length, wlist_length]; done) | rfl) ?_ | refine c_loadN (cs := [_, _]) rfl rfl rfl Tryz.isAgg46 Tryz.sizeOf46 rfl (ldS rfl rfl xM (subN (m := 2) (by exact rfl))) rfl ?_ | refine c_loadN rfl rfl rfl Tryz.isAgg46 Tryz.sizeOf46 rfl (ldSC (k := 0) rfl rfl xM subAll) (by first | (simp [ne_length, wlist_length]; done) | rfl) ?_
  first | refine c_loadN rfl rfl rfl Tryz.isAgg46 Tryz.sizeOf46 rfl (ldS rfl rfl xM subAll) (by first | (simp [ne_length, wlist_length]; done) | rfl) ?_ | refine c_loadN (cs := [_, _]) rfl rfl rfl Tryz.isAgg46 Tryz.sizeOf46 rfl (ldS rfl rfl xM (subN (m := 2) (by exact rfl))) rfl ?_ | refine c_loadN rfl rfl rfl Tryz.isAgg46 Tryz.sizeOf46 rfl (ldSC (k := 0) rfl rfl xM subAll) (by first | (simp [ne_length, wlist_length]; done) | rfl) ?_
  first | refine c_loadN rfl rfl rfl Tryz.isAgg46 Tryz.sizeOf46 rfl (ldS rfl rfl xM subAll) (by first | (simp [ne_length, wlist_length]; done) | rfl) ?_ | refine c_loadN (cs := [_, _]) rfl rfl rfl Tryz.isAgg46 Tryz.sizeOf46 rfl (ldS rfl rfl xM (subN (m := 2) (by exact rfl))) rfl ?_ | refine c_loadN rfl rfl rfl Tryz.isAgg46 Tryz.sizeOf46 rfl (ldSC (k := 0) rfl rfl xM subAll) (by first | (simp [ne_length, wlist_length]; done) | rfl) ?_
  first | refine c_loadN rfl rfl rfl Tryz.isAgg46 Tryz.sizeOf46 rfl (ldS rfl rfl xM subAll) (by first | (simp [ne_length, wlist_length]; done) | rfl) ?_ | refine c_loadN (cs := [_, _]) rfl rfl rfl Tryz.isAgg46 Tryz.sizeOf46 rfl (ldS rfl rfl xM (subN (m := 2) (by exact rfl))) rfl ?_ | refine c_loadN rfl rfl rfl Tryz.isAgg46 Tryz.sizeOf46 rfl (ldSC (k := 0) rfl rfl xM subAll) (by first | (simp [ne_length, wlist_length]; done) | rfl) ?_
  refine c_lit (cs := [_, _, _, _, _, _, _, _]) rfl rfl rfl rfl Tryz.underlying74 Tryz.sizeOf46 Tryz.zeroValue46 rfl rfl rfl rfl rfl (fun _ => Or.inl rfl) (fun g48 => ?_)
  refine can_en (en_asRd (dr := roleR) (xs := [(⟨[], 0⟩ : Rl), (⟨[], 0⟩ : Rl), (⟨[], 0⟩ : Rl), (⟨[], 0⟩ : Rl)]) (by repeat (first | exact Rem.here | apply Rem.there)) (fun hh hr => reps4 ⟨_, rfl, SV.nil _ _⟩ ⟨_, rfl, SV.nil _ _⟩ ⟨_, rfl, SV.nil _ _⟩ ⟨_, rfl, SV.nil _ _⟩) rfl (by simp)) ?_
  rintro _ _ ⟨rfl, rfl⟩
  refine c_buildS (cs := [_, _, _]) rfl rfl rfl rfl Tryz.underlying76 Tryz.zeroValue76 (by intro w; simp [Tryz.sizeOf2, Tryz.sizeOf74]; rfl) rfl rfl ?_
  refine c_call rfl rfl rfl rfl Tryz.call51 (writeRoot_no 0 1 0 _ w0 _ _ xM) (by exact rfl) (fun _ _ _ _ => Or.inl rfl) ?_
  rintro _ _ _ ⟨rfl, rfl, rfl⟩
  refine c_move rfl rfl rfl rfl (by conv => lhs; whnf) ?_
  refine c_extract rfl rfl rfl rfl rfl rfl ?_
  refine c_extract rfl rfl rfl rfl rfl rfl ?_
  refine c_assign rfl rfl rfl rfl (by conv => lhs; whnf) ?_
  refine c_assign rfl rfl rfl rfl (by conv => lhs; whnf) ?_
  refine can_nil ?_
  refine ps_then ?_
  refine cs_seq ?_
  refine cs_seq_region [0, 1] rfl ?_
  refine c_move rfl rfl rfl rfl (by conv => lhs; whnf) ?_
  refine c_eql rfl rfl rfl rfl rfl rfl ?_
  refine can_nil ?_
  refine ps_then ?_
  refine cs_cond rfl (fun _ => ?_) (fun hc1 => Bool.noConfusion (show false = true from hc1.symm.trans (rfl)))
  refine cs_seq ?_
  refine cs_seq_region [0, 1, 2] rfl ?_
  refine c_buildS (cs := [_, _]) rfl rfl rfl rfl Tryz.underlying46 Tryz.zeroValue46 (by intro w; simp [Tryz.sizeOf2, Tryz.sizeOf25]; rfl) rfl rfl ?_
  refine c_storeB rfl rfl rfl Tryz.sizeOf46 rfl rfl xF (by first | (simp [ne_length, wlist_length]; done) | rfl) (by first | (simp [ne_length, wlist_length]; done) | rfl) (by first | exact ne_one _ _ | rfl | simp [Value.oneCell']) (by (try simp only [List.cons_append, List.nil_append]); exact rfl) (Or.inl rfl) ?_
  refine c_assign rfl rfl rfl rfl (by conv => lhs; whnf) ?_
  refine can_nil ?_
  refine ps_then ?_
  refine cs_ret ?_
  refine ps_then_ret ?_
  refine ps_en (en_keep (rs) (by (repeat (refine List.forall_mem_cons.2 ⟨by repeat (first | exact .head _ | assumption | apply List.Mem.tail), ?_⟩)); intro r hr; repeat (first | assumption | apply List.Mem.tail))) ?_
  rintro _ _ ⟨rfl, rfl⟩
  apply ps_res2 rfl Tryz.results16 (res_cellN Tryz.isAgg46 Tryz.sizeOf46 rfl xM (by first | (simp [ne_length, wlist_length]; done) | rfl)) (res_tmp rfl)
  · exact ⟨rfl, rfl, rfl⟩
  · exact (.mk xS xS)

end Go.Proofs.YtmodmjekhlnjpaaGreatDoor
namespace Go.Proofs.YtmodmjekhlnjpaaGreatDoor
open Go.RowKit Lf
/-- As many rounds as anything here takes. -/
def K0 : Nat := 1099511627776
theorem wr {x : Int} (h1 : -9223372036854775808 ≤ x) (h2 : x ≤ 9223372036854775807) : IntKind.wrap .i64 x = x := by
  rw [IntKind.wrap_i64]; omega
theorem wr_nat {x : Nat} (h2 : x ≤ 9223372036854775807) : IntKind.wrap .i64 (x : Int) = (x : Int) := wr (by omega) (by omega)
theorem getO_nat {α : Type} {xs : List α} {i : Nat} (h : i < xs.length) : getO xs (i : Int) = some xs[i] := by
  simp [getO, h]
theorem getO_D {α : Type} {xs : List α} {i : Nat} (d : α) (h : i < xs.length) : getO xs (i : Int) = some (xs.getD i d) := by
  rw [getO_nat h, List.getD_eq_getElem?_getD, List.getElem?_eq_getElem h]; rfl
theorem appO_ok {α : Type} {xs ys : List α} (h : xs.length + ys.length ≤ 1099511627776) : appO xs ys = some (xs ++ ys) := if_pos h
theorem subO_ok {α : Type} {xs : List α} {i j : Nat} (h1 : i ≤ j) (h2 : j ≤ xs.length) : subO xs (i : Int) (j : Int) = some ((xs.take j).drop i) := by
  unfold subO
  rw [if_pos ⟨by omega, by omega, by omega⟩]
  simp
theorem setO_ok {α : Type} {xs : List α} {i : Nat} {y : α} (h : i < xs.length) : setO xs (i : Int) y = some (xs.set i y) := by
  unfold setO
  rw [if_pos ⟨by omega, by omega⟩]
  simp
theorem chk_ok {β : Type} {b : Bool} {x : Option β} (h : b = true) : chk b x = x := by rw [h]; rfl
theorem bif_T {β : Type} {b : Bool} {x y : β} (h : b = true) : (bif b then x else y) = x := by rw [h]; rfl
theorem bif_F {β : Type} {b : Bool} {x y : β} (h : b = false) : (bif b then x else y) = y := by rw [h]; rfl
theorem dT {p : Prop} [Decidable p] (h : p) : decide p = true := decide_eq_true h
theorem dF {p : Prop} [Decidable p] (h : ¬ p) : decide p = false := decide_eq_false h
theorem orN_lt {b x y : Nat} (hx : x < 2 ^ b) (hy : y < 2 ^ b) : orN b x y = x ||| y := by rw [orN, Nat.mod_eq_of_lt hx, Nat.mod_eq_of_lt hy]
theorem andN_lt {b x y : Nat} (hx : x < 2 ^ b) (hy : y < 2 ^ b) : andN b x y = x &&& y := by rw [andN, Nat.mod_eq_of_lt hx, Nat.mod_eq_of_lt hy]
theorem xorN_lt {b x y : Nat} (hx : x < 2 ^ b) (hy : y < 2 ^ b) : xorN b x y = x ^^^ y := by rw [xorN, Nat.mod_eq_of_lt hx, Nat.mod_eq_of_lt hy]
theorem notN_lt {b x : Nat} (hx : x < 2 ^ b) : notN b x = 2 ^ b - 1 - x := by rw [notN, Nat.mod_eq_of_lt hx]
theorem usub64 {x y : Nat} (h : y ≤ x) (hx : x < 2 ^ 64) : usub .u64 x y = x - y := by
  unfold usub
  rw [show ((x : Int) - (y : Int)) = ((x - y : Nat) : Int) by omega, wrap_u_lt rfl (by show _ < 2 ^ 64; omega)]
  simp
theorem toU64 {x : Nat} (hx : x < 2 ^ 64) : toU .u64 (x : Int) = x := by
  unfold toU
  rw [wrap_u_lt rfl hx]; simp
theorem bR_r {ρ σ τ : Type} (s : σ) (w : ρ → τ) (f : σ → Option τ) : bindR (some (.inr s)) w f = f s := rfl
theorem tdiv_nat (a b : Nat) : ((a : Int)).tdiv (b : Int) = ((a / b : Nat) : Int) := by rw [Int.tdiv_eq_ediv_of_nonneg (by omega), ← Int.natCast_ediv]
theorem tmod_nat (a b : Nat) : ((a : Int)).tmod (b : Int) = ((a % b : Nat) : Int) := by rw [Int.tmod_eq_emod_of_nonneg (by omega), ← Int.natCast_emod]
end Go.Proofs.YtmodmjekhlnjpaaGreatDoor
namespace Go.Proofs.YtmodmjekhlnjpaaGreatDoor
open Go.RowKit
theorem rturn (b x n : Nat) (hb : b ≤ 64) (hn : n ≤ b) (hx : x < 2 ^ b) : (x / 2 ^ n ||| x * 2 ^ (b - n) % 2 ^ 64) % 2 ^ b = sturn b x n := by
  rw [Nat.or_mod_two_pow, Nat.mod_eq_of_lt (div_lt n hx), sturn, Nat.mod_mod_of_dvd _ (Nat.pow_dvd_pow 2 hb)]
theorem rchoice (b e f g : Nat) (he : e < 2 ^ b) : (e &&& f) ||| ((2 ^ b - 1 - e) &&& g) = (e &&& f) ^^^ ((2 ^ b - 1 - e) &&& g) := by
  apply Nat.eq_of_testBit_eq
  intro i
  simp only [Nat.testBit_or, Nat.testBit_xor, Nat.testBit_and]
  have h : (2 ^ b - 1 - e).testBit i = (decide (i < b) && !e.testBit i) := by
    rw [Nat.sub_sub, Nat.add_comm, Nat.testBit_two_pow_sub_succ he]
  rw [h]
  cases e.testBit i <;> simp
theorem rmost (a b c : Nat) : (a &&& b) ||| (a &&& c) ||| (b &&& c) = (a &&& b) ^^^ (a &&& c) ^^^ (b &&& c) := by
  apply Nat.eq_of_testBit_eq
  intro i
  simp only [Nat.testBit_or, Nat.testBit_xor, Nat.testBit_and]
  cases a.testBit i <;> cases b.testBit i <;> cases c.testBit i <;> rfl
section
variable {w0 : World} {sps : List Sp} {rs : List Fa}
end
theorem exp_eq32 (a c s0 s1 : Nat) : ((((a + c) % 2 ^ 64 + s0) % 2 ^ 64 + s1) % 2 ^ 64) % 2 ^ 32 = (((a + s0) % 2 ^ 32 + c) % 2 ^ 32 + s1) % 2 ^ 32 := by omega
theorem exp_eq64 (a c s0 s1 : Nat) : ((((a + c) % 2 ^ 64 + s0) % 2 ^ 64 + s1) % 2 ^ 64) % 2 ^ 64 = (((a + s0) % 2 ^ 64 + c) % 2 ^ 64 + s1) % 2 ^ 64 := by omega
theorem rnd_a32 (h S1 ch k x S0 mj : Nat) : ((((((h + S1) % 2 ^ 64 + ch) % 2 ^ 64 + k) % 2 ^ 64 + x) % 2 ^ 64 + S0) % 2 ^ 64 + mj) % 2 ^ 64 % 2 ^ 32 = (((((h + S1) % 2 ^ 32 + ch) % 2 ^ 32 + k) % 2 ^ 32 + x) % 2 ^ 32 + (S0 + mj) % 2 ^ 32) % 2 ^ 32 := by omega
theorem rnd_a64 (h S1 ch k x S0 mj : Nat) : ((((((h + S1) % 2 ^ 64 + ch) % 2 ^ 64 + k) % 2 ^ 64 + x) % 2 ^ 64 + S0) % 2 ^ 64 + mj) % 2 ^ 64 % 2 ^ 64 = (((((h + S1) % 2 ^ 64 + ch) % 2 ^ 64 + k) % 2 ^ 64 + x) % 2 ^ 64 + (S0 + mj) % 2 ^ 64) % 2 ^ 64 := by omega
theorem rnd_e32 (d h S1 ch k x : Nat) : (d + ((((h + S1) % 2 ^ 64 + ch) % 2 ^ 64 + k) % 2 ^ 64 + x) % 2 ^ 64) % 2 ^ 64 % 2 ^ 32 = (d + ((((h + S1) % 2 ^ 32 + ch) % 2 ^ 32 + k) % 2 ^ 32 + x) % 2 ^ 32) % 2 ^ 32 := by omega
theorem rnd_e64 (d h S1 ch k x : Nat) : (d + ((((h + S1) % 2 ^ 64 + ch) % 2 ^ 64 + k) % 2 ^ 64 + x) % 2 ^ 64) % 2 ^ 64 % 2 ^ 64 = (d + ((((h + S1) % 2 ^ 64 + ch) % 2 ^ 64 + k) % 2 ^ 64 + x) % 2 ^ 64) % 2 ^ 64 := by omega
def hN (i : Nat) : List Nat := (startN.take i).map (· / 4294967296) ++ startN.drop i
theorem hN_set : ∀ i, i < 8 → (hN i).set i ((hN i).getD i 0 / 4294967296) = hN (i + 1) := by decide
theorem hN_len : ∀ i, i < 9 → (hN i).length = 8 := by decide
theorem hN_lt : ∀ i, i < 9 → ∀ x ∈ hN i, x < 2 ^ 64 := by decide
theorem constN_64 : ∀ x ∈ constN, x < 2 ^ 64 := by decide
theorem kn32_eq (t : Nat) : constN.getD t 0 / 4294967296 = kn32 t := by
  have h : constN.getD t 0 < 2 ^ 64 := getD_lt (by decide) constN_64 t
  rw [kn32, Nat.mod_eq_of_lt]
  omega
theorem vadd_get (b : Nat) (h v : V8) (i : Nat) (hi : i < 8) : (v8l (vadd b h v)).getD i 0 = ((v8l h).getD i 0 + (v8l v).getD i 0) % 2 ^ b := by
  match i, hi with
  | 0, _ => rfl
  | 1, _ => rfl
  | 2, _ => rfl
  | 3, _ => rfl
  | 4, _ => rfl
  | 5, _ => rfl
  | 6, _ => rfl
  | 7, _ => rfl
theorem v8l_take (h : V8) (i : Nat) (hi : i < 8) : (v8l h).take (i + 1) = (v8l h).take i ++ [(v8l h).getD i 0] := by
  rw [List.take_succ_eq_append_getElem (show i < (v8l h).length from hi)]
  simp [List.getD_eq_getElem?_getD, List.getElem?_eq_getElem (show i < (v8l h).length from hi)]
theorem pad_mod4 (m : List Nat) : (m ++ padN 4 m.length).length % 64 = 0 := by
  rw [List.length_append, padN_length _ _ (by decide)]
  unfold padLen; omega
theorem pad_mod8 (m : List Nat) : (m ++ padN 8 m.length).length % 128 = 0 := by
  rw [List.length_append, padN_length _ _ (by decide)]
  unfold padLen; omega
theorem rnds_zero (p : Shp) (kn : Nat → Nat) (w : List Nat) (v : V8) : rnds p kn w v 0 = v := rfl
theorem blks_zero (p : Shp) (kn : Nat → Nat) (h : V8) (xs : List Nat) : blks p kn h xs 0 = h := rfl
/-- The document's padding. -/
def zerosN (sz n : Nat) : Nat := (16 * sz - (n + (1 + 2 * sz)) % (16 * sz)) % (16 * sz)
theorem rpad_step (s x i : Nat) (hi : i < s) : x / 2 ^ (8 * i) % 2 ^ 8 :: (beB s x).drop (s - i) = (beB s x).drop (s - (i + 1)) := by
  rw [List.drop_eq_getElem_cons (i := s - (i + 1)) (by rw [beB_length]; omega)]
  congr 1
  · simp only [beB, List.getElem_map, List.getElem_range]
    congr 3; omega
  · congr 1; omega
theorem beB_16 (x : Nat) (h : x < 2 ^ 64) : beB 16 x = List.replicate 8 0 ++ beB 8 x := by
  apply List.ext_getElem (by simp [beB_length])
  intro i h1 h2
  rw [beB_length] at h1
  by_cases hi : i < 8
  · rw [List.getElem_append_left (by simpa using hi)]
    simp only [beB, List.getElem_map, List.getElem_range, List.getElem_replicate]
    rw [Nat.div_eq_of_lt (Nat.lt_of_lt_of_le h (Nat.pow_le_pow_right (by decide) (by omega)))]
  · rw [List.getElem_append_right (by simp; omega)]
    simp only [beB, List.getElem_map, List.getElem_range, List.length_replicate]
    congr 3; omega
theorem rpad_eq4 (n : Nat) : 128 :: List.replicate (zerosN 4 n) 0 ++ beB 8 (8 * n) = padN 4 n := by
  rw [padN, List.cons_append]
  congr 3
  unfold padLen zerosN; omega
theorem rpad_eq8 (n : Nat) (h : 8 * n < 2 ^ 64) : 128 :: List.replicate (zerosN 8 n) 0 ++ beB 16 (8 * n) = padN 8 n := by
  rw [padN, beB_16 _ h, List.cons_append, ← List.append_assoc, List.replicate_append_replicate]
  congr 3
  unfold padLen zerosN; omega
end Go.Proofs.YtmodmjekhlnjpaaGreatDoor
namespace Go.Proofs.YtmodmjekhlnjpaaGreatDoor
open Go.RowKit Lf
def md : Nat → Nat := fun b => if b = 32 then 4294967296 else 0
theorem p_cut (K : Nat) {b x : Nat} (hb : b = 32 ∨ b = 64) (hx : x < 2 ^ 64) : lf_ref02_Words_cut K (md b) b x = some (x % 2 ^ b) := by
  rcases hb with rfl | rfl
  · rfl
  · rw [Nat.mod_eq_of_lt hx]; rfl
theorem le64 {b x : Nat} (hb : b = 32 ∨ b = 64) (hx : x < 2 ^ b) : x < 2 ^ 64 := by
  rcases hb with rfl | rfl
  · exact Nat.lt_of_lt_of_le hx (by decide)
  · exact hx
theorem p_turn (K : Nat) {b x n : Nat} (hb : b = 32 ∨ b = 64) (hn : n ≤ b) (hx : x < 2 ^ b) : lf_ref02_Words_turn K (md b) b x n = some (sturn b x n) := by
  have hb64 : b ≤ 64 := by omega
  unfold lf_ref02_Words_turn
  rw [usub64 hn (by omega), Nat.min_eq_left (by omega), Nat.min_eq_left (by omega), orN_lt (div_lt _ (le64 hb hx)) (Nat.mod_lt _ (by decide)),
    p_cut K hb (Nat.or_lt_two_pow (div_lt _ (le64 hb hx)) (Nat.mod_lt _ (by decide))), rturn b x n hb64 hn hx]
  rfl
theorem p_small (K : Nat) {b x : Nat} {r : Nat × Nat × Nat} (hb : b = 32 ∨ b = 64) (h1 : r.1 ≤ b) (h2 : r.2.1 ≤ b) (h3 : r.2.2 ≤ b) (hx : x < 2 ^ b) : lf_ref02_Words_small K (md b) b x r.1 r.2.1 r.2.2 = some (ssm b r x) := by
  unfold lf_ref02_Words_small
  rw [p_turn K hb h1 hx, p_turn K hb h2 hx]
  simp only [Option.bind_some]
  rw [Nat.min_eq_left (by omega), xorN_lt (le64 hb (sturn_lt _ hx)) (le64 hb (sturn_lt _ hx)), xorN_lt (Nat.xor_lt_two_pow (le64 hb (sturn_lt _ hx)) (le64 hb (sturn_lt _ hx))) (div_lt _ (le64 hb hx))]
  rfl
theorem p_big (K : Nat) {b x : Nat} {r : Nat × Nat × Nat} (hb : b = 32 ∨ b = 64) (h1 : r.1 ≤ b) (h2 : r.2.1 ≤ b) (h3 : r.2.2 ≤ b) (hx : x < 2 ^ b) : lf_ref02_Words_big K (md b) b x r.1 r.2.1 r.2.2 = some (sbg b r x) := by
  unfold lf_ref02_Words_big
  rw [p_turn K hb h1 hx, p_turn K hb h2 hx, p_turn K hb h3 hx]
  simp only [Option.bind_some]
  rw [xorN_lt (le64 hb (sturn_lt _ hx)) (le64 hb (sturn_lt _ hx)), xorN_lt (Nat.xor_lt_two_pow (le64 hb (sturn_lt _ hx)) (le64 hb (sturn_lt _ hx))) (le64 hb (sturn_lt _ hx))]
  rfl
/-- A word of a block. -/
theorem p_word (K : Nat) {b sz : Nat} (hb : b = 8 * sz) (hs : sz = 4 ∨ sz = 8) (xs : List Nat) (hxs : ∀ x ∈ xs, x < 256) (t : Nat) (ht : (t + 1) * sz ≤ xs.length) (hl : xs.length ≤ 1000) : ∀ (d k i : Nat), i + d = sz → d < k →
    lf_ref02_Words_expand_l1 K b xs (t : Int) k (beN (((xs.drop (t * sz)).take sz).take i)) (i : Int) = some (beN ((xs.drop (t * sz)).take sz), (sz : Int)) := by
  have hts : t ≤ (t + 1) * sz := by rcases hs with rfl | rfl <;> omega
  have e1 : ((b / 8 % 2 ^ 64 : Nat)) = sz := by rcases hs with rfl | rfl <;> (subst hb; rfl)
  have e2 : (IntKind.wrap .i64 ((((b / 8 % 2 ^ 64) : Nat) : Int))) = (sz : Int) := by rw [e1]; exact wr_nat (by omega)
  have hlen : ((xs.drop (t * sz)).take sz).length = sz := by rw [Nat.succ_mul] at ht; simp; omega
  intro d
  induction d with
  | zero =>
    intro k i hi hk
    obtain ⟨k, rfl⟩ : ∃ m, k = m + 1 := ⟨k - 1, by omega⟩
    rw [lf_ref02_Words_expand_l1.eq_2, e2, bif_F (dF (by omega))]
    obtain rfl : i = sz := by omega
    rw [List.take_of_length_le (by omega)]
  | succ d ih =>
    intro k i hi hk
    obtain ⟨k, rfl⟩ : ∃ m, k = m + 1 := ⟨k - 1, by omega⟩
    have hi' : i < sz := by omega
    rw [lf_ref02_Words_expand_l1.eq_2, e2, bif_T (dT (by omega))]
    rw [Nat.succ_mul] at ht
    have e3 : IntKind.wrap .i64 (IntKind.wrap .i64 ((t : Int) * (sz : Int)) + (i : Int)) = ((t * sz + i : Nat) : Int) := by
      rw [← Int.natCast_mul, wr_nat (by omega), ← Int.natCast_add, wr_nat (by omega)]
    rw [e3, getO_D 0 (by omega)]
    simp only [Option.bind_some]
    have hx : xs.getD (t * sz + i) 0 < 256 := getD_lt (by decide) hxs _
    have hbe : beN (((xs.drop (t * sz)).take sz).take i) < 256 ^ i := by
      have := beN_lt (((xs.drop (t * sz)).take sz).take i) (fun x hx => hxs x (List.mem_of_mem_drop (List.mem_of_mem_take (List.mem_of_mem_take hx))))
      rw [List.length_take, hlen, Nat.min_eq_left (by omega)] at this
      exact this
    have hp : 256 ^ i * 256 ≤ 2 ^ 64 := by
      rw [← Nat.pow_succ]
      exact Nat.le_trans (Nat.pow_le_pow_right (by decide) (show i + 1 ≤ 8 by omega)) (by decide)
    have h5 := take_beN ((xs.drop (t * sz)).take sz) i (by omega)
    have e4 : ((beN (((xs.drop (t * sz)).take sz).take i) * 256 % 2 ^ 64 + xs.getD (t * sz + i) 0 % 2 ^ 64) % 2 ^ 64) = beN (((xs.drop (t * sz)).take sz).take (i + 1)) := by
      rw [h5]
      have : ((xs.drop (t * sz)).take sz).getD i 0 = xs.getD (t * sz + i) 0 := by
        simp only [List.getD_eq_getElem?_getD, List.getElem?_take, if_pos hi', List.getElem?_drop]
      rw [this, Nat.mod_eq_of_lt (show xs.getD (t * sz + i) 0 < 2 ^ 64 by omega), Nat.mod_eq_of_lt (show beN _ * 256 < 2 ^ 64 by omega), Nat.mod_eq_of_lt (by omega)]
    rw [e4, show (i : Int) + 1 = ((i + 1 : Nat) : Int) by omega, wr_nat (by omega)]
    exact ih k (i + 1) (by omega) (by omega)
theorem p_ex0 (K : Nat) (hK : K0 ≤ K) (p : Shp) (hp : p = sh32 ∨ p = sh64) (xs : List Nat) (hxs : ∀ x ∈ xs, x < 256) (hl : xs.length = 16 * p.sz) : ∀ (d k t : Nat), t + d = 16 → d < k →
    lf_ref02_Words_expand_l0 K p.b xs k (wlist p xs t) (t : Int) = some (wlist p xs 16, (16 : Int)) := by
  have hb : p.b = 8 * p.sz := by rcases hp with rfl | rfl <;> rfl
  have hs : p.sz = 4 ∨ p.sz = 8 := by rcases hp with rfl | rfl <;> decide
  intro d
  induction d with
  | zero =>
    intro k t ht hk
    obtain ⟨k, rfl⟩ : ∃ m, k = m + 1 := ⟨k - 1, by omega⟩
    obtain rfl : t = 16 := by omega
    rw [lf_ref02_Words_expand_l0.eq_2, bif_F (dF (by decide))]; rfl
  | succ d ih =>
    intro k t ht hk
    obtain ⟨k, rfl⟩ : ∃ m, k = m + 1 := ⟨k - 1, by omega⟩
    rw [lf_ref02_Words_expand_l0.eq_2, bif_T (dT (by omega))]
    have h1 := p_word K hb hs xs hxs t (by rcases hs with h | h <;> rw [h] at hl ⊢ <;> omega) (by omega) p.sz K 0 (by omega) (by unfold K0 at hK; omega)
    rw [show beN (((xs.drop (t * p.sz)).take p.sz).take 0) = 0 from rfl] at h1
    rw [show (0 : Int) = ((0 : Nat) : Int) from rfl, h1]
    simp only [Option.bind_some, un2]
    rw [appO_ok (by rw [wlist_length]; simp; omega)]
    simp only [Option.bind_some]
    rw [show (t : Int) + 1 = ((t + 1 : Nat) : Int) by omega, wr_nat (by omega)]
    have h2 : wlist p xs t ++ [beN ((xs.drop (t * p.sz)).take p.sz)] = wlist p xs (t + 1) := by
      rw [wlist]
      have := wnext_lo p xs (wlist p xs t) (by rw [wlist_length]; omega)
      rw [this, wlist_length]; rfl
    rw [h2]
    exact ih k (t + 1) (by omega) (by omega)
theorem p_ex3 (K : Nat) (p : Shp) (hp : p = sh32 ∨ p = sh64) (xs : List Nat) (hxs : ∀ x ∈ xs, x < 256) : ∀ (d k t : Nat), t + d = p.rounds → 16 ≤ t → d < k →
    lf_ref02_Words_expand_l3 K (md p.b) p.b (p.rounds : Int) k (wlist p xs t) (t : Int) = some (wlist p xs p.rounds, (p.rounds : Int)) := by
  have hr80 : p.rounds ≤ 80 := by rcases hp with rfl | rfl <;> decide
  have hb : p.b = 32 ∨ p.b = 64 := by rcases hp with rfl | rfl <;> decide
  have hlt := wlist_lt p xs hxs (by rcases hp with rfl | rfl <;> decide)
  intro d
  induction d with
  | zero =>
    intro k t ht h16 hk
    obtain ⟨k, rfl⟩ : ∃ m, k = m + 1 := ⟨k - 1, by omega⟩
    obtain rfl : t = p.rounds := by omega
    rw [lf_ref02_Words_expand_l3.eq_2, bif_F (dF (by omega))]
  | succ d ih =>
    intro k t ht h16 hk
    obtain ⟨k, rfl⟩ : ∃ m, k = m + 1 := ⟨k - 1, by omega⟩
    rw [lf_ref02_Words_expand_l3.eq_2, bif_T (dT (by omega))]
    have hw := wlist_length p xs t
    have hg : ∀ j, (wlist p xs t).getD j 0 < 2 ^ p.b := fun j => getD_lt (Nat.two_pow_pos _) (hlt t) j
    have gi : ∀ j : Nat, 1 ≤ j → j ≤ 16 → getO (wlist p xs t) (IntKind.wrap .i64 ((t : Int) - (j : Int))) = some ((wlist p xs t).getD (t - j) 0) := by
      intro j h1 h2
      rw [wr (by omega) (by omega), show (t : Int) - (j : Int) = ((t - j : Nat) : Int) by omega, getO_D 0 (by omega)]
    have g16 := gi 16 (by decide) (by decide)
    have g7 := gi 7 (by decide) (by decide)
    have g15 := gi 15 (by decide) (by decide)
    have g2 := gi 2 (by decide) (by decide)
    replace g16 : getO (wlist p xs t) (IntKind.wrap .i64 ((t : Int) - 16)) = _ := g16
    replace g7 : getO (wlist p xs t) (IntKind.wrap .i64 ((t : Int) - 7)) = _ := g7
    replace g15 : getO (wlist p xs t) (IntKind.wrap .i64 ((t : Int) - 15)) = _ := g15
    replace g2 : getO (wlist p xs t) (IntKind.wrap .i64 ((t : Int) - 2)) = _ := g2
    rw [show (t : Int) + 1 = ((t + 1 : Nat) : Int) by omega, wr_nat (by omega), g16, g7, g15, g2]
    simp only [Option.bind_some]
    have hn := wnext_hi p xs (wlist p xs t) (by omega)
    rw [hw] at hn
    have hstep : wlist p xs t ++ [wnext p xs (wlist p xs t)] = wlist p xs (t + 1) := rfl
    rcases hp with rfl | rfl
    · rw [bif_T (by decide)]
      have s0 := p_small K (b := 32) (r := (7, 18, 3)) (.inl rfl) (by decide) (by decide) (by decide) (hg (t - 15))
      have s1 := p_small K (b := 32) (r := (17, 19, 10)) (.inl rfl) (by decide) (by decide) (by decide) (hg (t - 2))
      simp only [show sh32.b = 32 from rfl] at *
      rw [s0]; simp only [Option.bind_some]
      rw [s1]; simp only [Option.bind_some]
      rw [p_cut K (.inl rfl) (Nat.mod_lt _ (by decide))]; simp only [Option.bind_some]
      rw [exp_eq32, appO_ok (by rw [hw]; simp; omega)]; simp only [Option.bind_some]
      rw [show sh32.s0 = (7, 18, 3) from rfl, show sh32.s1 = (17, 19, 10) from rfl] at hn
      rw [← hn, hstep]
      exact ih k (t + 1) (by omega) (by omega) (by omega)
    · rw [bif_F (by decide)]
      have s0 := p_small K (b := 64) (r := (1, 8, 7)) (.inr rfl) (by decide) (by decide) (by decide) (hg (t - 15))
      have s1 := p_small K (b := 64) (r := (19, 61, 6)) (.inr rfl) (by decide) (by decide) (by decide) (hg (t - 2))
      simp only [show sh64.b = 64 from rfl] at *
      rw [s0]; simp only [Option.bind_some]
      rw [s1]; simp only [Option.bind_some]
      rw [p_cut K (.inr rfl) (Nat.mod_lt _ (by decide))]; simp only [Option.bind_some]
      rw [exp_eq64, appO_ok (by rw [hw]; simp; omega)]; simp only [Option.bind_some]
      rw [show sh64.s0 = (1, 8, 7) from rfl, show sh64.s1 = (19, 61, 6) from rfl] at hn
      rw [← hn, hstep]
      exact ih k (t + 1) (by omega) (by omega) (by omega)
theorem p_expand (K : Nat) (hK : K0 ≤ K) (p : Shp) (hp : p = sh32 ∨ p = sh64) (xs : List Nat) (hxs : ∀ x ∈ xs, x < 256) (hl : xs.length = 16 * p.sz) : lf_ref02_Words_expand K (md p.b) p.b xs = some (wlist p xs p.rounds) := by
  unfold lf_ref02_Words_expand
  have h0 := p_ex0 K hK p hp xs hxs hl 16 K 0 (by omega) (by unfold K0 at hK; omega)
  have h3 := p_ex3 K p hp xs hxs (p.rounds - 16) K 16 (by rcases hp with rfl | rfl <;> decide) (by omega) (by unfold K0 at hK; rcases hp with rfl | rfl <;> (show _ - 16 < K; simp [sh32, sh64]; omega))
  rw [show ([] : List Nat) = wlist p xs 0 from rfl, show (0 : Int) = ((0 : Nat) : Int) from rfl, h0]
  simp only [Option.bind_some, un2]
  have hr : (bif decide (md p.b ≠ 0) then some (64 : Int) else some 80) = some (p.rounds : Int) := by rcases hp with rfl | rfl <;> rfl
  rw [hr]; simp only [Option.bind_some]
  rw [show (16 : Int) = ((16 : Nat) : Int) from rfl, h3]
  rfl
theorem p_round (K : Nat) (p : Shp) (hp : p = sh32 ∨ p = sh64) (v : V8) (hv : V8lt p.b v) (k x : Nat) (hk : k < 2 ^ 64) (hx : x < 2 ^ 64) : lf_ref02_Words_round K (md p.b) p.b (v8l v) k x = some (v8l (rnd p v (if p.b = 32 then k / 4294967296 else k) x)) := by
  have hb : p.b = 32 ∨ p.b = 64 := by rcases hp with rfl | rfl <;> decide
  obtain ⟨ha, hB, hc, hd, he, hf, hg, hh⟩ := hv
  unfold lf_ref02_Words_round
  have g : ∀ (j : Nat) (y : Nat), (v8l v)[j]? = some y → getO (v8l v) (j : Int) = some y := fun j y h => by
    have h1 := (List.getElem?_eq_some_iff.1 h)
    rw [getO_nat h1.1, h1.2]
  have g0 : getO (v8l v) (0 : Int) = some v.a := g 0 _ rfl
  have g1 : getO (v8l v) (1 : Int) = some v.b := g 1 _ rfl
  have g2 : getO (v8l v) (2 : Int) = some v.c := g 2 _ rfl
  have g3 : getO (v8l v) (3 : Int) = some v.d := g 3 _ rfl
  have g4 : getO (v8l v) (4 : Int) = some v.e := g 4 _ rfl
  have g5 : getO (v8l v) (5 : Int) = some v.f := g 5 _ rfl
  have g6 : getO (v8l v) (6 : Int) = some v.g := g 6 _ rfl
  have g7 : getO (v8l v) (7 : Int) = some v.h := g 7 _ rfl
  rw [g0, g1, g2, g3, g4, g5, g6, g7]
  simp only [Option.bind_some]
  have m64 := fun y => @le64 p.b y hb
  have hm : andN 64 v.a v.b = v.a &&& v.b := andN_lt (m64 _ ha) (m64 _ hB)
  have hm2 : andN 64 v.a v.c = v.a &&& v.c := andN_lt (m64 _ ha) (m64 _ hc)
  have hm3 : andN 64 v.b v.c = v.b &&& v.c := andN_lt (m64 _ hB) (m64 _ hc)
  have hm4 : andN 64 v.e v.f = v.e &&& v.f := andN_lt (m64 _ he) (m64 _ hf)
  have l1 : v.a &&& v.b < 2 ^ 64 := Nat.and_lt_two_pow _ (m64 _ hB)
  have l2 : v.a &&& v.c < 2 ^ 64 := Nat.and_lt_two_pow _ (m64 _ hc)
  have l3 : v.b &&& v.c < 2 ^ 64 := Nat.and_lt_two_pow _ (m64 _ hc)
  have l4 : v.e &&& v.f < 2 ^ 64 := Nat.and_lt_two_pow _ (m64 _ hf)
  rw [hm, hm2, hm3, hm4, orN_lt l1 l2, orN_lt (Nat.or_lt_two_pow l1 l2) l3, rmost, notN_lt (m64 _ he)]
  rcases hp with rfl | rfl
  · simp only [show sh32.b = 32 from rfl] at *
    rw [bif_T (by decide)]
    have b1 := p_big K (b := 32) (r := (6, 11, 25)) (.inl rfl) (by decide) (by decide) (by decide) he
    have b2 := p_big K (b := 32) (r := (2, 13, 22)) (.inl rfl) (by decide) (by decide) (by decide) ha
    rw [b1]; simp only [Option.bind_some]
    rw [b2]; simp only [Option.bind_some, un2, lett]
    rw [p_cut K (.inl rfl) (compl_lt 64 v.e)]; simp only [Option.bind_some]
    have e1 : (2 ^ 64 - 1 - v.e) % 2 ^ 32 = 2 ^ 32 - 1 - v.e := by omega
    rw [e1, andN_lt (Nat.lt_of_lt_of_le (compl_lt 32 v.e) (by decide)) (m64 _ hg), orN_lt l4 (Nat.and_lt_two_pow _ (m64 _ hg)), rchoice 32 v.e v.f v.g he]
    rw [p_cut K (.inl rfl) (Nat.mod_lt _ (by decide)), p_cut K (.inl rfl) (Nat.mod_lt _ (by decide))]; simp only [Option.bind_some]
    rw [Nat.mod_eq_of_lt (show k / 4294967296 < 2 ^ 64 by omega)]
    rw [rnd_e32]
    have h6 := rnd_a32 v.h (sbg 32 (6, 11, 25) v.e) ((v.e &&& v.f) ^^^ ((2 ^ 32 - 1 - v.e) &&& v.g)) (k / 4294967296) x (sbg 32 (2, 13, 22) v.a) ((v.a &&& v.b) ^^^ (v.a &&& v.c) ^^^ (v.b &&& v.c))
    rw [h6]
    rfl
  · simp only [show sh64.b = 64 from rfl] at *
    rw [bif_F (by decide)]
    have b1 := p_big K (b := 64) (r := (14, 18, 41)) (.inr rfl) (by decide) (by decide) (by decide) he
    have b2 := p_big K (b := 64) (r := (28, 34, 39)) (.inr rfl) (by decide) (by decide) (by decide) ha
    rw [b1]; simp only [Option.bind_some]
    rw [b2]; simp only [Option.bind_some, un2, lett]
    rw [p_cut K (.inr rfl) (compl_lt 64 v.e)]; simp only [Option.bind_some]
    have e1 : (2 ^ 64 - 1 - v.e) % 2 ^ 64 = 2 ^ 64 - 1 - v.e := by omega
    rw [e1, andN_lt (compl_lt 64 v.e) hg, orN_lt l4 (Nat.and_lt_two_pow _ hg), rchoice 64 v.e v.f v.g he]
    rw [p_cut K (.inr rfl) (Nat.mod_lt _ (by decide)), p_cut K (.inr rfl) (Nat.mod_lt _ (by decide))]; simp only [Option.bind_some]
    rw [rnd_e64]
    have h6 := rnd_a64 v.h (sbg 64 (14, 18, 41) v.e) ((v.e &&& v.f) ^^^ ((2 ^ 64 - 1 - v.e) &&& v.g)) k x (sbg 64 (28, 34, 39) v.a) ((v.a &&& v.b) ^^^ (v.a &&& v.c) ^^^ (v.b &&& v.c))
    rw [h6]
    rfl
def knOf (p : Shp) : Nat → Nat := if p.b = 32 then kn32 else kn64
theorem kn_eq (p : Shp) (hp : p = sh32 ∨ p = sh64) (t : Nat) : (if p.b = 32 then constN.getD t 0 / 4294967296 else constN.getD t 0) = knOf p t := by
  rcases hp with rfl | rfl
  · exact kn32_eq t
  · show constN.getD t 0 = kn64 t
    simp [kn64]
theorem p_rounds (K : Nat) (p : Shp) (hp : p = sh32 ∨ p = sh64) (xs : List Nat) (hxs : ∀ x ∈ xs, x < 256) (v : V8) (hv : V8lt p.b v) : ∀ (d k t : Nat), t + d = p.rounds → d < k →
    lf_ref02_Sum_l4 K (md p.b) p.b constN (wlist p xs p.rounds) k (v8l (rnds p (knOf p) (wlist p xs p.rounds) v t)) (t : Int) = some (v8l (rnds p (knOf p) (wlist p xs p.rounds) v p.rounds), (p.rounds : Int)) := by
  have hr80 : p.rounds ≤ 80 := by rcases hp with rfl | rfl <;> decide
  have hb : p.b = 32 ∨ p.b = 64 := by rcases hp with rfl | rfl <;> decide
  have hlt := wlist_lt p xs hxs (by rcases hp with rfl | rfl <;> decide)
  intro d
  induction d with
  | zero =>
    intro k t ht hk
    obtain ⟨k, rfl⟩ : ∃ m, k = m + 1 := ⟨k - 1, by omega⟩
    obtain rfl : t = p.rounds := by omega
    rw [lf_ref02_Sum_l4.eq_2, wlist_length, bif_F (dF (by omega))]
  | succ d ih =>
    intro k t ht hk
    obtain ⟨k, rfl⟩ : ∃ m, k = m + 1 := ⟨k - 1, by omega⟩
    rw [lf_ref02_Sum_l4.eq_2, wlist_length, bif_T (dT (by omega)), getO_D 0 (show t < constN.length by rw [show constN.length = 80 from rfl]; omega), getO_D 0 (by rw [wlist_length]; omega)]
    simp only [Option.bind_some]
    rw [p_round K p hp _ (rnds_lt _ _ hv t) _ _ (getD_lt (by decide) constN_64 t) (Nat.lt_of_lt_of_le (getD_lt (Nat.two_pow_pos _) (hlt _) t) (Nat.pow_le_pow_right (by decide) (by omega))), kn_eq p hp]
    simp only [Option.bind_some]
    rw [show (t : Int) + 1 = ((t + 1 : Nat) : Int) by omega, wr_nat (by omega)]
    exact ih k (t + 1) (by omega) (by omega)
theorem p_add (K : Nat) (p : Shp) (hp : p = sh32 ∨ p = sh64) (h v : V8) (hh : V8lt p.b h) (hv : V8lt p.b v) : ∀ (d k t : Nat), t + d = 8 → d < k →
    lf_ref02_Sum_l5 K (md p.b) p.b (v8l h) (v8l v) k ((v8l (vadd p.b h v)).take t) (t : Int) = some (v8l (vadd p.b h v), (8 : Int)) := by
  have hb : p.b = 32 ∨ p.b = 64 := by rcases hp with rfl | rfl <;> decide
  intro d
  induction d with
  | zero =>
    intro k t ht hk
    obtain ⟨k, rfl⟩ : ∃ m, k = m + 1 := ⟨k - 1, by omega⟩
    obtain rfl : t = 8 := by omega
    rw [lf_ref02_Sum_l5.eq_2, bif_F (dF (by decide))]; rfl
  | succ d ih =>
    intro k t ht hk
    obtain ⟨k, rfl⟩ : ∃ m, k = m + 1 := ⟨k - 1, by omega⟩
    have ht8 : t < 8 := by omega
    rw [lf_ref02_Sum_l5.eq_2, bif_T (dT (by omega)), getO_D 0 (show t < (v8l h).length from ht8), getO_D 0 (show t < (v8l v).length from ht8)]
    simp only [Option.bind_some]
    rw [p_cut K hb (Nat.mod_lt _ (by decide))]
    simp only [Option.bind_some]
    have e1 : ((v8l h).getD t 0 + (v8l v).getD t 0) % 2 ^ 64 % 2 ^ p.b = (v8l (vadd p.b h v)).getD t 0 := by
      rw [vadd_get p.b h v t ht8]
      rcases hb with hb | hb <;> rw [hb] <;> omega
    rw [e1, appO_ok (by simp; omega)]
    simp only [Option.bind_some]
    rw [← v8l_take _ t ht8, show (t : Int) + 1 = ((t + 1 : Nat) : Int) by omega, wr_nat (by omega)]
    exact ih k (t + 1) (by omega) (by omega)
theorem p_tell7 (K : Nat) (sz : Nat) (hs : sz = 4 ∨ sz = 8) (z : List Nat) (i : Nat) (hi : i < z.length) (pre : List Nat) (hp : pre.length ≤ 1000) : ∀ (d k q : Nat), q + d = sz → d < k →
    lf_ref02_Sum_l7 K z (i : Int) k (pre ++ (beB sz (z.getD i 0)).take q) (8 * ((sz : Int) - (q : Int)) - 8) = some (pre ++ beB sz (z.getD i 0), -8) := by
  intro d
  induction d with
  | zero =>
    intro k q hq hk
    obtain ⟨k, rfl⟩ : ∃ m, k = m + 1 := ⟨k - 1, by omega⟩
    obtain rfl : q = sz := by omega
    rw [lf_ref02_Sum_l7.eq_2, bif_F (dF (by omega)), List.take_of_length_le (Nat.le_of_eq (beB_length _ _))]
    simp
  | succ d ih =>
    intro k q hq hk
    obtain ⟨k, rfl⟩ : ∃ m, k = m + 1 := ⟨k - 1, by omega⟩
    have hq' : q < sz := by omega
    rw [lf_ref02_Sum_l7.eq_2, bif_T (dT (by omega)), getO_D 0 hi]
    simp only [Option.bind_some]
    rw [show 8 * ((sz : Int) - (q : Int)) - 8 = ((8 * (sz - 1 - q) : Nat) : Int) by omega, toU64 (by omega), Nat.min_eq_left (by omega), appO_ok (by simp [beB_length]; omega)]
    simp only [Option.bind_some]
    rw [List.append_assoc, ← beB_take sz _ q hq', show ((8 * (sz - 1 - q) : Nat) : Int) - 8 = 8 * ((sz : Int) - ((q + 1 : Nat) : Int)) - 8 by omega, wr (by omega) (by omega)]
    exact ih k (q + 1) (by omega) (by omega)
theorem p_tell6 (K : Nat) (hK : K0 ≤ K) (sz : Nat) (hs : sz = 4 ∨ sz = 8) (h : V8) : ∀ (d k i : Nat), i + d = 8 → d < k →
    lf_ref02_Sum_l6 K (8 * sz) (v8l h) k (tellN sz ((v8l h).take i)) (i : Int) = some (tellN sz (v8l h), (8 : Int)) := by
  intro d
  induction d with
  | zero =>
    intro k i hi hk
    obtain ⟨k, rfl⟩ : ∃ m, k = m + 1 := ⟨k - 1, by omega⟩
    obtain rfl : i = 8 := by omega
    rw [lf_ref02_Sum_l6.eq_2, bif_F (dF (by decide))]; rfl
  | succ d ih =>
    intro k i hi hk
    obtain ⟨k, rfl⟩ : ∃ m, k = m + 1 := ⟨k - 1, by omega⟩
    have hi8 : i < (v8l h).length := show i < 8 by omega
    rw [lf_ref02_Sum_l6.eq_2, bif_T (dT (by omega))]
    simp only [lett]
    have h7 := p_tell7 K sz hs (v8l h) i hi8 (tellN sz ((v8l h).take i)) (by rw [tellN_length, List.length_take]; rcases hs with rfl | rfl <;> omega) sz K 0 (by omega) (by unfold K0 at hK; omega)
    rw [List.take_zero, List.append_nil] at h7
    have e0 : IntKind.wrap .i64 (IntKind.wrap .i64 ((8 * sz : Nat) : Int) - 8) = 8 * ((sz : Int) - ((0 : Nat) : Int)) - 8 := by rw [wr_nat (by omega), wr (by omega) (by omega)]; omega
    rw [e0, h7]
    simp only [Option.bind_some, un2]
    rw [← tellN_take sz _ i hi8, show (i : Int) + 1 = ((i + 1 : Nat) : Int) by omega, wr_nat (by omega)]
    exact ih k (i + 1) (by omega) (by omega)
theorem p_half (K : Nat) : ∀ (d k i : Nat), i + d = 8 → d < k → lf_ref02_Sum_l2 K 4294967296 k (i : Int) (hN i) = some ((8 : Int), hN 8) := by
  intro d
  induction d with
  | zero =>
    intro k i hi hk
    obtain ⟨k, rfl⟩ : ∃ m, k = m + 1 := ⟨k - 1, by omega⟩
    obtain rfl : i = 8 := by omega
    rw [lf_ref02_Sum_l2.eq_2, bif_F (dF (by decide))]; rfl
  | succ d ih =>
    intro k i hi hk
    obtain ⟨k, rfl⟩ : ∃ m, k = m + 1 := ⟨k - 1, by omega⟩
    have hl := hN_len i (by omega)
    have hx : (hN i).getD i 0 < 2 ^ 64 := getD_lt (by decide) (hN_lt i (by omega)) i
    rw [lf_ref02_Sum_l2.eq_2, bif_T (dT (by omega)), bif_T (by decide), getO_D 0 (by omega)]
    simp only [Option.bind_some]
    rw [setO_ok (by omega)]
    simp only [Option.bind_some]
    rw [Nat.mod_eq_of_lt (show (hN i).getD i 0 / 4294967296 < 2 ^ 64 by omega), hN_set i (by omega), show (i : Int) + 1 = ((i + 1 : Nat) : Int) by omega, wr_nat (by omega)]
    exact ih k (i + 1) (by omega) (by omega)
theorem p_blocks (K : Nat) (hK : K0 ≤ K) (p : Shp) (hp : p = sh32 ∨ p = sh64) (h : V8) (hh : V8lt p.b h) (xs : List Nat) (hxs : ∀ x ∈ xs, x < 256) (n : Nat) (hl : xs.length = n * (16 * p.sz)) (hn : xs.length ≤ 2000000) : ∀ (d k j : Nat), j + d = n → d < k →
    lf_ref02_Sum_l3 K (64 * p.sz : Nat) (md p.b) p.b xs constN k (v8l (blks p (knOf p) h xs j)) ((j * (16 * p.sz) : Nat) : Int) = some (v8l (blks p (knOf p) h xs n), ((n * (16 * p.sz) : Nat) : Int)) := by
  have hb : p.b = 32 ∨ p.b = 64 := by rcases hp with rfl | rfl <;> decide
  have hs : p.sz = 4 ∨ p.sz = 8 := by rcases hp with rfl | rfl <;> decide
  have e4 : IntKind.wrap .i64 (((64 * p.sz : Nat) : Int).tdiv 4) = ((16 * p.sz : Nat) : Int) := by
    rw [show (4 : Int) = ((4 : Nat) : Int) from rfl, tdiv_nat, show 64 * p.sz / 4 = 16 * p.sz by omega, wr_nat (by omega)]
  intro d
  induction d with
  | zero =>
    intro k j hj hk
    obtain ⟨k, rfl⟩ : ∃ m, k = m + 1 := ⟨k - 1, by omega⟩
    obtain rfl : j = n := by omega
    rw [lf_ref02_Sum_l3.eq_2, bif_F (dF (by omega))]
  | succ d ih =>
    intro k j hj hk
    obtain ⟨k, rfl⟩ : ∃ m, k = m + 1 := ⟨k - 1, by omega⟩
    have hj1 : (j + 1) * (16 * p.sz) ≤ n * (16 * p.sz) := Nat.mul_le_mul_right _ (by omega)
    have hj2 : (j + 1) * (16 * p.sz) = j * (16 * p.sz) + 16 * p.sz := Nat.succ_mul _ _
    rw [lf_ref02_Sum_l3.eq_2, bif_T (dT (by omega)), e4]
    rw [show ((j * (16 * p.sz) : Nat) : Int) + ((16 * p.sz : Nat) : Int) = (((j + 1) * (16 * p.sz) : Nat) : Int) by omega, wr_nat (by omega), subO_ok (by omega) (by omega)]
    simp only [Option.bind_some]
    have hblk : (xs.take ((j + 1) * (16 * p.sz))).drop (j * (16 * p.sz)) = (xs.drop (j * (16 * p.sz))).take (16 * p.sz) := by
      rw [List.drop_take, hj2]; congr 1; omega
    rw [hblk]
    have hbx : ∀ x ∈ (xs.drop (j * (16 * p.sz))).take (16 * p.sz), x < 256 := fun x hx => hxs x (List.mem_of_mem_drop (List.mem_of_mem_take hx))
    rw [p_expand K hK p hp _ hbx (by simp; omega)]
    simp only [Option.bind_some]
    have hbl : V8lt p.b (blks p (knOf p) h xs j) := blks_lt hh j
    have h4 := p_rounds K p hp _ hbx (blks p (knOf p) h xs j) hbl p.rounds K 0 (by omega) (by unfold K0 at hK; rcases hp with rfl | rfl <;> (simp [sh32, sh64]; omega))
    rw [rnds_zero] at h4
    rw [show (0 : Int) = ((0 : Nat) : Int) from rfl, h4]
    simp only [Option.bind_some, un2]
    have h5 := p_add K p hp (blks p (knOf p) h xs j) (rnds p (knOf p) (wlist p ((xs.drop (j * (16 * p.sz))).take (16 * p.sz)) p.rounds) (blks p (knOf p) h xs j) p.rounds) hbl (rnds_lt _ _ hbl _) 8 K 0 (by omega) (by unfold K0 at hK; omega)
    rw [List.take_zero] at h5
    rw [h5]
    simp only [Option.bind_some, lett]
    have hsucc : vadd p.b (blks p (knOf p) h xs j) (rnds p (knOf p) (wlist p ((xs.drop (j * (16 * p.sz))).take (16 * p.sz)) p.rounds) (blks p (knOf p) h xs j) p.rounds) = blks p (knOf p) h xs (j + 1) := rfl
    rw [hsucc]
    exact ih k (j + 1) (by omega) (by omega)
theorem p_paz (K : Nat) (n sz : Nat) (hs : sz = 4 ∨ sz = 8) (hn : n ≤ 1048576) : ∀ (d k j : Nat), j + d = zerosN sz n → d < k →
    lf_ref02_Pad_l0 K (n : Int) ((64 * sz : Nat) : Int) k (128 :: List.replicate j 0) = some (128 :: List.replicate (zerosN sz n) 0) := by
  have hz : zerosN sz n < 16 * sz := by unfold zerosN; exact Nat.mod_lt _ (by omega)
  have e4 : IntKind.wrap .i64 (((64 * sz : Nat) : Int).tdiv 4) = ((16 * sz : Nat) : Int) := by
    rw [show (4 : Int) = ((4 : Nat) : Int) from rfl, tdiv_nat, show 64 * sz / 4 = 16 * sz by omega, wr_nat (by omega)]
  have e32 : IntKind.wrap .i64 (((64 * sz : Nat) : Int).tdiv 32) = ((2 * sz : Nat) : Int) := by
    rw [show (32 : Int) = ((32 : Nat) : Int) from rfl, tdiv_nat, show 64 * sz / 32 = 2 * sz by omega, wr_nat (by omega)]
  intro d
  induction d with
  | zero =>
    intro k j hj hk
    obtain ⟨k, rfl⟩ : ∃ m, k = m + 1 := ⟨k - 1, by omega⟩
    obtain rfl : j = zerosN sz n := by omega
    rw [lf_ref02_Pad_l0.eq_2, e4, e32, chk_ok (dT (by omega))]
    simp only [List.length_cons, List.length_replicate]
    rw [← Int.natCast_add, wr_nat (by omega), ← Int.natCast_add, wr_nat (by omega), tmod_nat, bif_F (dF ?_)]
    intro h
    apply h
    have : (n + (zerosN sz n + 1) + 2 * sz) % (16 * sz) = 0 := by
      rcases hs with rfl | rfl <;> (unfold zerosN; omega)
    rw [this]; rfl
  | succ d ih =>
    intro k j hj hk
    obtain ⟨k, rfl⟩ : ∃ m, k = m + 1 := ⟨k - 1, by omega⟩
    rw [lf_ref02_Pad_l0.eq_2, e4, e32, chk_ok (dT (by omega))]
    simp only [List.length_cons, List.length_replicate]
    rw [← Int.natCast_add, wr_nat (by omega), ← Int.natCast_add, wr_nat (by omega), tmod_nat, bif_T (dT ?_), appO_ok (by simp; omega)]
    · simp only [Option.bind_some]
      rw [show 128 :: List.replicate j 0 ++ [0] = 128 :: List.replicate (j + 1) 0 by rw [List.cons_append, List.replicate_succ']]
      exact ih k (j + 1) (by omega) (by omega)
    · have : (n + (j + 1) + 2 * sz) % (16 * sz) ≠ 0 := by
        have hj' : j < zerosN sz n := by omega
        rcases hs with rfl | rfl <;> (unfold zerosN at hj'; omega)
      omega
theorem p_pat (K : Nat) (x sz : Nat) (hs : sz = 4 ∨ sz = 8) (hx : x < 2 ^ 64) : ∀ (d k i : Nat), i + d = 2 * sz → d < k →
    lf_ref02_Pad_l1 K ((64 * sz : Nat) : Int) k ((beB (2 * sz) x).drop (2 * sz - i)) (x / 2 ^ (8 * i)) (i : Int) = some (beB (2 * sz) x, x / 2 ^ (8 * (2 * sz)), ((2 * sz : Nat) : Int)) := by
  have e32 : IntKind.wrap .i64 (((64 * sz : Nat) : Int).tdiv 32) = ((2 * sz : Nat) : Int) := by
    rw [show (32 : Int) = ((32 : Nat) : Int) from rfl, tdiv_nat, show 64 * sz / 32 = 2 * sz by omega, wr_nat (by omega)]
  intro d
  induction d with
  | zero =>
    intro k i hi hk
    obtain ⟨k, rfl⟩ : ∃ m, k = m + 1 := ⟨k - 1, by omega⟩
    obtain rfl : i = 2 * sz := by omega
    rw [lf_ref02_Pad_l1.eq_2, e32, bif_F (dF (by omega)), Nat.sub_self, List.drop_zero]
  | succ d ih =>
    intro k i hi hk
    obtain ⟨k, rfl⟩ : ∃ m, k = m + 1 := ⟨k - 1, by omega⟩
    rw [lf_ref02_Pad_l1.eq_2, e32, bif_T (dT (by omega)), appO_ok (by simp [beB_length]; omega)]
    simp only [Option.bind_some]
    have h1 : x / 2 ^ (8 * i) < 2 ^ 64 := Nat.lt_of_le_of_lt (Nat.div_le_self _ _) hx
    have h2 : x / 2 ^ (8 * i) / 256 % 2 ^ 64 = x / 2 ^ (8 * (i + 1)) := by
      rw [Nat.mod_eq_of_lt (by omega), Nat.mul_add, Nat.pow_add, ← Nat.div_div_eq_div_mul]
    rw [h2, show x / 2 ^ (8 * i) % 256 % 2 ^ 8 = x / 2 ^ (8 * i) % 2 ^ 8 from Nat.mod_mod _ _, List.singleton_append, rpad_step (2 * sz) x i (by omega), show (i : Int) + 1 = ((i + 1 : Nat) : Int) by omega, wr_nat (by omega)]
    exact ih k (i + 1) (by omega) (by omega)
theorem p_pbz (K : Nat) (n sz : Nat) (hs : sz = 4 ∨ sz = 8) (hn : n ≤ 1048576) : ∀ (d k j : Nat), j + d = zerosN sz n → d < k →
    lf_ref02_Pad_l2 K (n : Int) ((64 * sz : Nat) : Int) k (128 :: List.replicate j 0) = some (128 :: List.replicate (zerosN sz n) 0) := by
  have hz : zerosN sz n < 16 * sz := by unfold zerosN; exact Nat.mod_lt _ (by omega)
  have e4 : IntKind.wrap .i64 (((64 * sz : Nat) : Int).tdiv 4) = ((16 * sz : Nat) : Int) := by
    rw [show (4 : Int) = ((4 : Nat) : Int) from rfl, tdiv_nat, show 64 * sz / 4 = 16 * sz by omega, wr_nat (by omega)]
  have e32 : IntKind.wrap .i64 (((64 * sz : Nat) : Int).tdiv 32) = ((2 * sz : Nat) : Int) := by
    rw [show (32 : Int) = ((32 : Nat) : Int) from rfl, tdiv_nat, show 64 * sz / 32 = 2 * sz by omega, wr_nat (by omega)]
  intro d
  induction d with
  | zero =>
    intro k j hj hk
    obtain ⟨k, rfl⟩ : ∃ m, k = m + 1 := ⟨k - 1, by omega⟩
    obtain rfl : j = zerosN sz n := by omega
    rw [lf_ref02_Pad_l2.eq_2, e4, e32, chk_ok (dT (by omega))]
    simp only [List.length_cons, List.length_replicate]
    rw [← Int.natCast_add, wr_nat (by omega), ← Int.natCast_add, wr_nat (by omega), tmod_nat, bif_F (dF ?_)]
    intro h
    apply h
    have : (n + (zerosN sz n + 1) + 2 * sz) % (16 * sz) = 0 := by
      rcases hs with rfl | rfl <;> (unfold zerosN; omega)
    rw [this]; rfl
  | succ d ih =>
    intro k j hj hk
    obtain ⟨k, rfl⟩ : ∃ m, k = m + 1 := ⟨k - 1, by omega⟩
    rw [lf_ref02_Pad_l2.eq_2, e4, e32, chk_ok (dT (by omega))]
    simp only [List.length_cons, List.length_replicate]
    rw [← Int.natCast_add, wr_nat (by omega), ← Int.natCast_add, wr_nat (by omega), tmod_nat, bif_T (dT ?_), appO_ok (by simp; omega)]
    · simp only [Option.bind_some]
      rw [show 128 :: List.replicate j 0 ++ [0] = 128 :: List.replicate (j + 1) 0 by rw [List.cons_append, List.replicate_succ']]
      exact ih k (j + 1) (by omega) (by omega)
    · have : (n + (j + 1) + 2 * sz) % (16 * sz) ≠ 0 := by
        have hj' : j < zerosN sz n := by omega
        rcases hs with rfl | rfl <;> (unfold zerosN at hj'; omega)
      omega
theorem p_pbt (K : Nat) (x sz : Nat) (hs : sz = 4 ∨ sz = 8) (hx : x < 2 ^ 64) : ∀ (d k i : Nat), i + d = 2 * sz → d < k →
    lf_ref02_Pad_l3 K ((64 * sz : Nat) : Int) k ((beB (2 * sz) x).drop (2 * sz - i)) (x / 2 ^ (8 * i)) (i : Int) = some (beB (2 * sz) x, x / 2 ^ (8 * (2 * sz)), ((2 * sz : Nat) : Int)) := by
  have e32 : IntKind.wrap .i64 (((64 * sz : Nat) : Int).tdiv 32) = ((2 * sz : Nat) : Int) := by
    rw [show (32 : Int) = ((32 : Nat) : Int) from rfl, tdiv_nat, show 64 * sz / 32 = 2 * sz by omega, wr_nat (by omega)]
  intro d
  induction d with
  | zero =>
    intro k i hi hk
    obtain ⟨k, rfl⟩ : ∃ m, k = m + 1 := ⟨k - 1, by omega⟩
    obtain rfl : i = 2 * sz := by omega
    rw [lf_ref02_Pad_l3.eq_2, e32, bif_F (dF (by omega)), Nat.sub_self, List.drop_zero]
  | succ d ih =>
    intro k i hi hk
    obtain ⟨k, rfl⟩ : ∃ m, k = m + 1 := ⟨k - 1, by omega⟩
    rw [lf_ref02_Pad_l3.eq_2, e32, bif_T (dT (by omega)), appO_ok (by simp [beB_length]; omega)]
    simp only [Option.bind_some]
    have h1 : x / 2 ^ (8 * i) < 2 ^ 64 := Nat.lt_of_le_of_lt (Nat.div_le_self _ _) hx
    have h2 : x / 2 ^ (8 * i) / 256 % 2 ^ 64 = x / 2 ^ (8 * (i + 1)) := by
      rw [Nat.mod_eq_of_lt (by omega), Nat.mul_add, Nat.pow_add, ← Nat.div_div_eq_div_mul]
    rw [h2, show x / 2 ^ (8 * i) % 256 % 2 ^ 8 = x / 2 ^ (8 * i) % 2 ^ 8 from Nat.mod_mod _ _, List.singleton_append, rpad_step (2 * sz) x i (by omega), show (i : Int) + 1 = ((i + 1 : Nat) : Int) by omega, wr_nat (by omega)]
    exact ih k (i + 1) (by omega) (by omega)
theorem p_pad (K : Nat) (hK : K0 ≤ K) (n sz : Nat) (hs : sz = 4 ∨ sz = 8) (hn : n ≤ 1048576) : lf_ref02_Pad K (n : Int) ((64 * sz : Nat) : Int) = some (padN sz n, 0) := by
  have hx : (toU .u64 (n : Int) * 8) % 2 ^ 64 = 8 * n := by rw [toU64 (by omega), Nat.mod_eq_of_lt (by omega)]; omega
  have hz : zerosN sz n < 16 * sz := by unfold zerosN; exact Nat.mod_lt _ (by omega)
  have hk : 200 < K := by unfold K0 at hK; omega
  unfold lf_ref02_Pad
  rw [hx]
  have d0 : (beB (2 * sz) (8 * n)).drop (2 * sz - 0) = [] := List.drop_of_length_le (by rw [beB_length]; omega)
  rcases hs with rfl | rfl
  · have t1 := p_pbz K n 4 (.inl rfl) hn (zerosN 4 n) K 0 (by omega) (by omega)
    have t2 := p_pbt K (8 * n) 4 (.inl rfl) (by omega) 8 K 0 (by omega) (by omega)
    rw [d0, Nat.mul_zero, Nat.pow_zero, Nat.div_one] at t2
    rw [List.replicate_zero] at t1
    rw [bif_F (dF (by decide)), bif_F (dF (by omega)), bif_F (dF (by omega)), t1]
    simp only [Option.bind_some]
    rw [show (0 : Int) = ((0 : Nat) : Int) from rfl, t2]
    simp only [Option.bind_some, un2]
    rw [appO_ok (by simp [beB_length]; omega), rpad_eq4]
    rfl
  · have t1 := p_paz K n 8 (.inr rfl) hn (zerosN 8 n) K 0 (by omega) (by omega)
    have t2 := p_pat K (8 * n) 8 (.inr rfl) (by omega) 16 K 0 (by omega) (by omega)
    rw [d0, Nat.mul_zero, Nat.pow_zero, Nat.div_one] at t2
    rw [List.replicate_zero] at t1
    rw [bif_T (dT (by decide)), bif_F (dF (by decide)), bif_F (dF (by omega)), bif_F (dF (by omega)), t1]
    simp only [Option.bind_some]
    rw [show (0 : Int) = ((0 : Nat) : Int) from rfl, t2]
    simp only [Option.bind_some, un2]
    rw [appO_ok (by simp [beB_length]; omega), rpad_eq8 n (by omega)]
    rfl
theorem hN_8 : hN 8 = v8l st32 := by decide
theorem starts_64 : startN = v8l st64 := by decide
theorem p_sum (K : Nat) (hK : K0 ≤ K) (p : Shp) (hp : p = sh32 ∨ p = sh64) (m : List Nat) (hm : ∀ x ∈ m, x < 256) (hl : m.length ≤ 1048576) : lf_ref02_Sum K m ((64 * p.sz : Nat) : Int) = some (digestS p (knOf p) (if p.b = 32 then st32 else st64) m, 0) := by
  have hs : p.sz = 4 ∨ p.sz = 8 := by rcases hp with rfl | rfl <;> decide
  have hk : 4000000 < K := by unfold K0 at hK; omega
  unfold lf_ref02_Sum
  rw [bif_F (dF (by omega))]
  have hw : (bif decide (((64 * p.sz : Nat) : Int) = 256) then some (4294967296, 32) else some (0, 64)) = some (md p.b, p.b) := by rcases hp with rfl | rfl <;> rfl
  rw [hw]
  simp only [Option.bind_some, un2]
  rw [p_pad K hK m.length p.sz hs hl]
  simp only [Option.bind_some]
  have hpl := padN_length p.sz m.length (by omega)
  have hpl2 := padLen_le p.sz m.length (by omega)
  rw [appO_ok (by simp; omega)]
  simp only [Option.bind_some, List.nil_append]
  rw [appO_ok (by rw [hpl]; omega)]
  simp only [Option.bind_some]
  rw [show lf_ref02_constants K = some constN from rfl, show lf_ref02_starts K = some startN from rfl]
  simp only [Option.bind_some]
  have hst : ((lf_ref02_Sum_l2 K (md p.b) K 0 startN).bind fun qz1 => some qz1.2) = some (v8l (if p.b = 32 then st32 else st64)) := by
    rcases hp with rfl | rfl
    · have h := p_half K 8 K 0 (by omega) (by omega)
      rw [show hN 0 = startN from rfl] at h
      show ((lf_ref02_Sum_l2 K 4294967296 K (0 : Int) startN).bind _) = _
      rw [show (0 : Int) = ((0 : Nat) : Int) from rfl, h, hN_8]; rfl
    · obtain ⟨k, rfl⟩ : ∃ m, K = m + 1 := ⟨K - 1, by omega⟩
      show ((lf_ref02_Sum_l2 (k + 1) 0 (k + 1) (0 : Int) startN).bind _) = _
      rw [lf_ref02_Sum_l2.eq_2, bif_T (dT (by decide)), bif_F (dF (by decide)), starts_64]; rfl
  rw [hst]
  simp only [Option.bind_some]
  have hall : ∀ x ∈ m ++ padN p.sz m.length, x < 256 := fun x hx => (List.mem_append.1 hx).elim (hm x) (padN_lt _ _ x)
  have hmod : (m ++ padN p.sz m.length).length % (16 * p.sz) = 0 := by
    rcases hs with h | h <;> rw [h]
    · exact pad_mod4 m
    · exact pad_mod8 m
  have hfull : (m ++ padN p.sz m.length).length = full p (m ++ padN p.sz m.length) * (16 * p.sz) := by
    have := Nat.div_add_mod (m ++ padN p.sz m.length).length (16 * p.sz)
    rw [hmod, Nat.add_zero, Nat.mul_comm] at this
    exact this.symm
  have hh : V8lt p.b (if p.b = 32 then st32 else st64) := by
    rcases hp with rfl | rfl
    · exact st32_lt
    · exact st64_lt
  have hln : (m ++ padN p.sz m.length).length ≤ 2000000 := by rw [List.length_append, hpl]; omega
  have hfl : full p (m ++ padN p.sz m.length) ≤ 2000000 := Nat.le_trans (Nat.div_le_self _ _) hln
  have h3 := p_blocks K hK p hp (if p.b = 32 then st32 else st64) hh _ hall _ hfull hln (full p (m ++ padN p.sz m.length)) K 0 (by omega) (by omega)
  rw [Nat.zero_mul] at h3
  rw [show (0 : Int) = ((0 : Nat) : Int) from rfl, blks_zero] at *
  rw [h3]
  simp only [Option.bind_some]
  have hbs : p.b = 8 * p.sz := by rcases hp with rfl | rfl <;> rfl
  have h6 := p_tell6 K hK p.sz hs (blks p (knOf p) (if p.b = 32 then st32 else st64) (m ++ padN p.sz m.length) (full p (m ++ padN p.sz m.length))) 8 K 0 (by omega) (by omega)
  rw [← hbs, List.take_zero] at h6
  rw [show ([] : List Nat) = tellN p.sz [] from rfl, h6]
  rfl
theorem p_hash (K : Nat) (hK : K0 ≤ K) (m : List Nat) (hm : ∀ x ∈ m, x < 256) (hl : m.length ≤ 1048576) : lf_ref02_Hash256 K m = some (dig32 m) := by
  unfold lf_ref02_Hash256
  have h := p_sum K hK sh32 (.inl rfl) m hm hl
  rw [show ((64 * sh32.sz : Nat) : Int) = 256 from rfl] at h
  rw [h]; rfl
end Go.Proofs.YtmodmjekhlnjpaaGreatDoor
namespace Go.Proofs.YtmodmjekhlnjpaaGreatDoor
open Go.RowKit Lf
def bts (l : List Nat) : Prop := ∀ x ∈ l, x < 256
theorem dig32_lt (m : List Nat) : bts (dig32 m) := tellN_lt _ _
theorem bts_app {a b : List Nat} (ha : bts a) (hb : bts b) : bts (a ++ b) := fun x hx => (List.mem_append.1 hx).elim (ha x) (hb x)
theorem bts_cons {a : Nat} {b : List Nat} (ha : a < 256) (hb : bts b) : bts (a :: b) := fun x hx => (List.mem_cons.1 hx).elim (fun h => h ▸ ha) (hb x)
theorem bts_nil : bts [] := fun _ h => by cases h
theorem p_eight0 (K n : Nat) (hn : n < 2 ^ 64) : ∀ (d k i : Nat), i + d = 8 → d < k → lf_ref06_Eight_l0 K k ((beB 8 n).drop (8 - i)) (n / 2 ^ (8 * i)) (i : Int) = some (beB 8 n, n / 2 ^ 64, (8 : Int)) := by
  intro d
  induction d with
  | zero =>
    intro k i hi hk
    obtain ⟨k, rfl⟩ : ∃ m, k = m + 1 := ⟨k - 1, by omega⟩
    obtain rfl : i = 8 := by omega
    rw [lf_ref06_Eight_l0.eq_2, bif_F (dF (by decide)), Nat.sub_self, List.drop_zero]; rfl
  | succ d ih =>
    intro k i hi hk
    obtain ⟨k, rfl⟩ : ∃ m, k = m + 1 := ⟨k - 1, by omega⟩
    rw [lf_ref06_Eight_l0.eq_2, bif_T (dT (by omega)), appO_ok (by simp [beB_length]; omega)]
    simp only [Option.bind_some]
    have h1 : n / 2 ^ (8 * i) < 2 ^ 64 := Nat.lt_of_le_of_lt (Nat.div_le_self _ _) hn
    have h2 : n / 2 ^ (8 * i) / 256 % 2 ^ 64 = n / 2 ^ (8 * (i + 1)) := by
      rw [Nat.mod_eq_of_lt (by omega), Nat.mul_add, Nat.pow_add, ← Nat.div_div_eq_div_mul]
    rw [h2, show n / 2 ^ (8 * i) % 256 % 2 ^ 8 = n / 2 ^ (8 * i) % 2 ^ 8 from Nat.mod_mod _ _, List.singleton_append, rpad_step 8 n i (by omega), show (i : Int) + 1 = ((i + 1 : Nat) : Int) by omega, wr_nat (by omega)]
    exact ih k (i + 1) (by omega) (by omega)
theorem p_eight (K : Nat) (hK : K0 ≤ K) (n : Nat) (hn : n < 2 ^ 63) : lf_ref06_Eight K (n : Int) = some (beB 8 n) := by
  unfold lf_ref06_Eight
  have h := p_eight0 K n (by omega) 8 K 0 (by omega) (by unfold K0 at hK; omega)
  rw [List.drop_of_length_le (by rw [beB_length]; omega), Nat.mul_zero, Nat.pow_zero, Nat.div_one] at h
  rw [toU64 (by omega), show (0 : Int) = ((0 : Nat) : Int) from rfl, h]
  rfl
theorem p_join (K : Nat) (a b c : List Nat) (h : a.length + b.length + c.length ≤ 1000000) : lf_ref06_join K a b c = some (a ++ b ++ c) := by
  unfold lf_ref06_join
  rw [appO_ok (by simp; omega)]; simp only [Option.bind_some, List.nil_append]
  rw [appO_ok (by omega)]; simp only [Option.bind_some]
  rw [appO_ok (by simp; omega)]; rfl
theorem p_leaf (K : Nat) (hK : K0 ≤ K) (i : Nat) (hi : i < 2 ^ 63) (c : List Nat) (hc : bts c) (hl : c.length ≤ 1024) : lf_ref06_Leaf K (i : Int) c = some (leafN i c, 0) := by
  unfold lf_ref06_Leaf lf_ref06_LeafText
  rw [bif_F (dF (by omega)), bif_F (dF (by omega)), p_eight K hK i hi]
  simp only [Option.bind_some]
  rw [p_join K _ _ _ (by simp [beB_length]; omega)]
  simp only [Option.bind_some]
  rw [p_hash K hK _ (bts_app (bts_app (bts_cons (by decide) bts_nil) (beB_lt _ _)) hc) (by simp [beB_length]; omega)]
  rfl
theorem p_half0 (K n : Nat) (h2 : 2 ≤ n) (hn : n ≤ 1000000) : ∀ (d k j : Nat), n ≤ 2 ^ j + d → 2 ^ j < n → d < k → lf_ref06_Half_l0 K (n : Int) k ((2 ^ j : Nat) : Int) = some (halfN n : Int) := by
  intro d
  induction d with
  | zero => intro k j h1 h3; omega
  | succ d ih =>
    intro k j h1 h3 hk
    obtain ⟨k, rfl⟩ : ∃ m, k = m + 1 := ⟨k - 1, by omega⟩
    have hp := Nat.two_pow_pos j
    have e1 : IntKind.wrap .i64 (((2 ^ j : Nat) : Int) * 2) = ((2 ^ (j + 1) : Nat) : Int) := by
      rw [show ((2 ^ j : Nat) : Int) * 2 = ((2 ^ (j + 1) : Nat) : Int) by rw [Nat.pow_succ]; omega]
      exact wr_nat (by rw [Nat.pow_succ]; omega)
    rw [lf_ref06_Half_l0.eq_2, e1]
    by_cases h4 : 2 ^ (j + 1) < n
    · rw [bif_T (dT (by omega))]
      exact ih k (j + 1) (by rw [Nat.pow_succ]; omega) h4 (by omega)
    · rw [bif_F (dF (by omega)), half_unique n j h3 (by rw [Nat.pow_succ] at h4; omega)]
theorem p_halfM (K : Nat) (hK : K0 ≤ K) (n : Nat) (h2 : 2 ≤ n) (hn : n ≤ 1000000) : lf_ref06_Half K (n : Int) = some (halfN n : Int) := by
  unfold lf_ref06_Half
  have h := p_half0 K n h2 hn n K 0 (by omega) (by simp; omega) (by unfold K0 at hK; omega)
  rw [show ((2 ^ 0 : Nat) : Int) = 1 from rfl] at h
  rw [h]; rfl
def good (l : List (List Nat)) : Prop := ∀ x ∈ l, x.length = 32 ∧ bts x
theorem good_take {l : List (List Nat)} (h : good l) (n : Nat) : good (l.take n) := fun x hx => h x (List.mem_of_mem_take hx)
theorem good_drop {l : List (List Nat)} (h : good l) (n : Nat) : good (l.drop n) := fun x hx => h x (List.mem_of_mem_drop hx)
theorem top_good {l : List (List Nat)} (h : good l) : bts (topN l) := by
  by_cases h1 : l.length ≤ 1
  · rw [top_one h1]
    cases l with
    | nil => exact bts_nil
    | cons x l => exact (h x List.mem_cons_self).2
  · rw [top_two h1]; exact dig32_lt _
theorem top_le {l : List (List Nat)} (h : good l) : (topN l).length ≤ 32 := by
  by_cases h0 : 0 < l.length
  · rw [top_length _ l rfl h0 fun x hx => (h x hx).1]; exact Nat.le_refl _
  · obtain rfl : l = [] := List.eq_nil_of_length_eq_zero (by omega)
    rw [top_one (by simp)]; simp
theorem p_top (K : Nat) (hK : K0 ≤ K) : ∀ (k : Nat) (l : List (List Nat)), l.length < k → l.length ≤ 100000 → good l → ∃ all, lf_ref06_Top K k l = some (topN l, all) ∧ all.length ≤ l.length - 1 := by
  intro k
  induction k with
  | zero => intro l h; omega
  | succ k ih =>
    intro l hlt hl hg
    rw [lf_ref06_Top.eq_2]
    unfold lf_ref06_Top_b
    by_cases h0 : l.length = 0
    · obtain rfl : l = [] := List.eq_nil_of_length_eq_zero h0
      exact ⟨[], by rw [bif_T (dT (by simp)), top_one (by simp)]; rfl, by simp⟩
    rw [bif_F (dF (by omega))]
    by_cases h1 : l.length = 1
    · refine ⟨[], ?_, by simp⟩
      rw [bif_T (dT (by omega)), show (0 : Int) = ((0 : Nat) : Int) from rfl, getO_nat (by omega), top_one (by omega)]
      cases l with
      | nil => simp at h0
      | cons x l => rfl
    rw [bif_F (dF (by omega)), p_halfM K hK l.length (by omega) (by omega)]
    simp only [Option.bind_some]
    have ha := half_lt l.length (by omega)
    have hb := half_pos l.length
    rw [show (0 : Int) = ((0 : Nat) : Int) from rfl, subO_ok (by omega) (by omega), subO_ok (by omega) (by omega)]
    simp only [Option.bind_some, List.drop_zero, List.take_length]
    obtain ⟨a1, e1, l1⟩ := ih (l.take (halfN l.length)) (by simp; omega) (by simp; omega) (good_take hg _)
    obtain ⟨a2, e2, l2⟩ := ih (l.drop (halfN l.length)) (by simp; omega) (by simp; omega) (good_drop hg _)
    rw [List.length_take] at l1
    rw [List.length_drop] at l2
    rw [e1]; simp only [Option.bind_some, un2]
    rw [e2]; simp only [Option.bind_some]
    have t1 := top_le (good_take hg (halfN l.length))
    have t2 := top_le (good_drop hg (halfN l.length))
    unfold lf_ref06_NodeText
    rw [p_join K _ _ _ (by simp; omega)]
    simp only [Option.bind_some]
    rw [appO_ok (by simp; omega)]; simp only [Option.bind_some, List.nil_append]
    rw [appO_ok (by omega)]; simp only [Option.bind_some]
    rw [appO_ok (by simp; omega)]; simp only [Option.bind_some]
    rw [p_hash K hK _ (bts_app (bts_app (bts_cons (by decide) bts_nil) (top_good (good_take hg _))) (top_good (good_drop hg _))) (by simp; omega)]
    refine ⟨a1 ++ a2 ++ [[1] ++ topN (l.take (halfN l.length)) ++ topN (l.drop (halfN l.length))], ?_, ?_⟩
    · simp only [Option.bind_some]
      rw [top_two (l := l) (by omega)]; rfl
    · simp
      omega
theorem p_walk (K : Nat) (hK : K0 ≤ K) : ∀ (k : Nat) (l : List (List Nat)) (p : Nat), l.length < k → l.length ≤ 100000 → p ≤ 9223372036854775807 → good l → lf_ref06_walk K k l (p : Int) = some (walkN l p) := by
  intro k
  induction k with
  | zero => intro l p h; omega
  | succ k ih =>
    intro l p hlt hl hpm hg
    rw [lf_ref06_walk.eq_2]
    unfold lf_ref06_walk_b
    by_cases h1 : l.length ≤ 1
    · rw [bif_T (dT (by omega)), walk_one h1]
    rw [bif_F (dF (by omega)), p_halfM K hK l.length (by omega) (by omega)]
    simp only [Option.bind_some]
    have ha := half_lt l.length (by omega)
    have hb := half_pos l.length
    have hk : l.length < K := by unfold K0 at hK; omega
    obtain ⟨a1, e1, _⟩ := p_top K hK K (l.take (halfN l.length)) (by simp; omega) (by simp; omega) (good_take hg _)
    obtain ⟨a2, e2, _⟩ := p_top K hK K (l.drop (halfN l.length)) (by simp; omega) (by simp; omega) (good_drop hg _)
    by_cases hp : p < halfN l.length
    · rw [bif_T (dT (by omega)), subO_ok (by omega) (by omega)]
      simp only [Option.bind_some, List.take_length]
      rw [e2]; simp only [Option.bind_some, un2]
      rw [show (0 : Int) = ((0 : Nat) : Int) from rfl, subO_ok (by omega) (by omega)]
      simp only [Option.bind_some, List.drop_zero]
      have hw := walk_len _ (l.take (halfN l.length)) p rfl
      rw [ih (l.take (halfN l.length)) p (by simp; omega) (by simp; omega) hpm (good_take hg _)]
      simp only [Option.bind_some]
      rw [appO_ok (by simp at hw ⊢; omega), walk_lo (by omega) hp]; rfl
    · rw [bif_F (dF (by omega)), show (0 : Int) = ((0 : Nat) : Int) from rfl, subO_ok (by omega) (by omega)]
      simp only [Option.bind_some, List.drop_zero]
      rw [e1]; simp only [Option.bind_some, un2]
      rw [subO_ok (by omega) (by omega)]
      simp only [Option.bind_some, List.take_length]
      have hw := walk_len _ (l.drop (halfN l.length)) (p - halfN l.length) rfl
      rw [show (p : Int) - (halfN l.length : Int) = ((p - halfN l.length : Nat) : Int) by omega, wr_nat (by omega), ih (l.drop (halfN l.length)) _ (by simp; omega) (by simp; omega) (by omega) (good_drop hg _)]
      simp only [Option.bind_some]
      rw [appO_ok (by simp at hw ⊢; omega), walk_hi (by omega) hp]; rfl
theorem p_ok (K : Nat) (l : List (List Nat)) (hg : good l) : ∀ (d k i : Nat), i + d = l.length → l.length ≤ 100000 → d < k → lf_ref06_ok_l0 K l k 0 (i : Int) = some (.inr (0, (l.length : Int))) := by
  intro d
  induction d with
  | zero =>
    intro k i hi hl hk
    obtain ⟨k, rfl⟩ : ∃ m, k = m + 1 := ⟨k - 1, by omega⟩
    obtain rfl : i = l.length := by omega
    rw [lf_ref06_ok_l0.eq_2, bif_F (dF (by omega))]
  | succ d ih =>
    intro k i hi hl hk
    obtain ⟨k, rfl⟩ : ∃ m, k = m + 1 := ⟨k - 1, by omega⟩
    rw [lf_ref06_ok_l0.eq_2, bif_T (dT (by omega)), getO_nat (by omega)]
    simp only [Option.bind_some]
    have := (hg l[i] (List.getElem_mem _)).1
    rw [bif_F (dF (by rw [this]; decide)), show (i : Int) + 1 = ((i + 1 : Nat) : Int) by omega, wr_nat (by omega)]
    exact ih k (i + 1) (by omega) hl (by omega)
theorem p_prove (K : Nat) (hK : K0 ≤ K) (l : List (List Nat)) (hg : good l) (hl : l.length ≤ 4096) (p : Nat) (hp : p < l.length) : lf_ref06_Prove K l (p : Int) = some (walkN l p, 0) := by
  have hk : 100000 < K := by unfold K0 at hK; omega
  unfold lf_ref06_Prove lf_ref06_ok
  have ho := p_ok K l hg l.length K 0 (by omega) (by omega) (by omega)
  replace ho : lf_ref06_ok_l0 K l K 0 0 = some (.inr (0, (l.length : Int))) := ho
  rw [bif_F (dF (by omega)), ho]
  simp only [bR_r, un2, Option.bind_some]
  rw [bif_F (dF (by decide)), bif_F (dF (by omega)), bif_F (dF (by omega)), p_walk K hK K l p (by omega) (by omega) (by omega) hg]
  rfl
theorem p_count (K c : Nat) (hc : 0 < c) (hc2 : c ≤ 1024) : ∀ (d k : Nat) (x n : Int), x ≤ d → -10000 ≤ x → x ≤ 200000 → 0 ≤ n → n + d ≤ 1000000 → d < k → ∃ z, lf_ref06_Count_l0 K (c : Int) k x n = some z := by
  intro d
  induction d with
  | zero =>
    intro k x n h1 h2 h3 h4 h5 hk
    obtain ⟨k, rfl⟩ : ∃ m, k = m + 1 := ⟨k - 1, by omega⟩
    exact ⟨_, by rw [lf_ref06_Count_l0.eq_2, bif_F (dF (by omega))]⟩
  | succ d ih =>
    intro k x n h1 h2 h3 h4 h5 hk
    obtain ⟨k, rfl⟩ : ∃ m, k = m + 1 := ⟨k - 1, by omega⟩
    rw [lf_ref06_Count_l0.eq_2]
    by_cases hx : x > 0
    · rw [bif_T (dT hx), wr (by omega) (by omega), wr (by omega) (by omega)]
      exact ih k _ _ (by omega) (by omega) (by omega) (by omega) (by omega) (by omega)
    · exact ⟨_, by rw [bif_F (dF hx)]⟩
theorem p_cut0 (K c : Nat) (hc : 0 < c) (hc2 : c ≤ 1024) (b : List Nat) (hb : b.length ≤ 131072) : ∀ (d k i : Nat), b.length ≤ i * c + d → i * c < b.length → d < k →
    ∃ j, lf_ref06_Cut_l0 K (c : Int) k (b.drop (i * c)) ((cutN c b).take i) = some (b.drop (j * c), (cutN c b).take j) ∧ j * c < b.length ∧ b.length ≤ (j + 1) * c := by
  intro d
  induction d with
  | zero => intro k i h1 h2; omega
  | succ d ih =>
    intro k i h1 h2 hk
    obtain ⟨k, rfl⟩ : ∃ m, k = m + 1 := ⟨k - 1, by omega⟩
    rw [lf_ref06_Cut_l0.eq_2, List.length_drop]
    by_cases h3 : b.length - i * c > c
    · have h4 : (i + 1) * c = i * c + c := Nat.succ_mul i c
      have hi : i < cntN b.length c := (Nat.le_div_iff_mul_le hc).2 (by rw [Nat.succ_mul]; omega)
      have hcl := cut_length c b
      have hcb : cntN b.length c ≤ 200000 := Nat.le_trans (Nat.div_le_self _ _) (by omega)
      rw [bif_T (dT (by omega)), show (0 : Int) = ((0 : Nat) : Int) from rfl, subO_ok (by omega) (by rw [List.length_drop]; omega), subO_ok (by omega) (by rw [List.length_drop]; omega)]
      simp only [Option.bind_some, List.drop_zero]
      rw [appO_ok (by simp; omega)]
      simp only [Option.bind_some]
      rw [← cut_take c b i hi, List.take_of_length_le (by rw [List.length_drop]; omega), List.drop_drop, ← h4]
      exact ih k (i + 1) (by omega) (by omega) (by omega)
    · exact ⟨i, by rw [bif_F (dF (by omega))], h2, by rw [Nat.succ_mul]; omega⟩
theorem p_cutM (K : Nat) (hK : K0 ≤ K) (b : List Nat) (c : Nat) (hc : 64 ≤ c) (hc2 : c ≤ 1024) (hb : b.length ≤ 131072) : lf_ref06_Cut K b (c : Int) = some (cutN c b, 0) := by
  have hk : 2000000 < K := by unfold K0 at hK; omega
  unfold lf_ref06_Cut lf_ref06_Count
  rw [bif_F (dF (by omega)), bif_F (dF (by omega)), bif_F (dF (by omega)), bif_F (dF (by omega))]
  obtain ⟨⟨z1, z2⟩, hz⟩ := p_count K c (by omega) hc2 b.length K (b.length : Int) 0 (by omega) (by omega) (by omega) (by omega) (by omega) (by omega)
  rw [hz]
  simp only [Option.bind_some, un2]
  rw [bif_F (dF (by decide))]
  by_cases h0 : b.length = 0
  · obtain rfl : b = [] := List.eq_nil_of_length_eq_zero h0
    obtain ⟨k, rfl⟩ : ∃ m, K = m + 1 := ⟨K - 1, by omega⟩
    rw [lf_ref06_Cut_l0.eq_2, bif_F (dF (by simp))]
    simp only [Option.bind_some]
    rw [bif_F (dF (by simp))]
    have : cutN c [] = [] := List.eq_nil_of_length_eq_zero (by rw [cut_length]; exact Nat.div_eq_of_lt (by simp; omega))
    rw [this]
  · obtain ⟨j, e, h1, h2⟩ := p_cut0 K c (by omega) hc2 b hb b.length K 0 (by omega) (by omega) (by omega)
    rw [Nat.zero_mul, List.drop_zero, List.take_zero] at e
    rw [e]
    simp only [Option.bind_some]
    have h3 : (j + 1) * c = j * c + c := Nat.succ_mul j c
    have hj : cntN b.length c = j + 1 := by
      have ha : j + 1 ≤ cntN b.length c := (Nat.le_div_iff_mul_le (by omega)).2 (by omega)
      have hb' : cntN b.length c < j + 2 := (Nat.div_lt_iff_lt_mul (by omega)).2 (by rw [show j + 2 = (j + 1) + 1 from rfl, Nat.succ_mul]; omega)
      omega
    have hcb : cntN b.length c ≤ 200000 := Nat.le_trans (Nat.div_le_self _ _) (by omega)
    rw [bif_T (dT (by rw [List.length_drop]; omega)), appO_ok (by rw [List.length_take, cut_length]; simp; omega)]
    simp only [Option.bind_some]
    have h4 := cut_take c b j (by omega)
    rw [List.take_of_length_le (i := j + 1) (by rw [cut_length]; omega), List.take_of_length_le (i := c) (by rw [List.length_drop]; omega)] at h4
    rw [← h4]
theorem p_cutE (K : Nat) (b : List Nat) (c : Int) (hb : b.length ≤ 131072) (hc : c < 64 ∨ c > 1024) : lf_ref06_Cut K b c = some ([], 1) := by
  unfold lf_ref06_Cut lf_ref06_Count
  rw [bif_F (dF (by omega))]
  rcases hc with hc | hc
  · rw [bif_T (dT hc)]; rfl
  · rw [bif_F (dF (by omega)), bif_T (dT hc)]; rfl
theorem cut_bts {c : Nat} {b : List Nat} (hb : bts b) (i : Nat) : bts ((b.drop (i * c)).take c) := fun x hx => hb x (List.mem_of_mem_drop (List.mem_of_mem_take hx))
theorem p_leaves0 (K : Nat) (hK : K0 ≤ K) (b : List Nat) (hb : bts b) (c : Nat) (hc : 64 ≤ c) (hc2 : c ≤ 1024) (hl : b.length ≤ 131072) : ∀ (d k i : Nat), i + d = cntN b.length c → d < k →
    lf_ref06_Leaves_l0 K (cutN c b) k ((leavesN c b).take i) (i : Int) = some (leavesN c b, (cntN b.length c : Int)) := by
  have hcb : cntN b.length c ≤ 200000 := Nat.le_trans (Nat.div_le_self _ _) (by omega)
  intro d
  induction d with
  | zero =>
    intro k i hi hk
    obtain ⟨k, rfl⟩ : ∃ m, k = m + 1 := ⟨k - 1, by omega⟩
    obtain rfl : i = cntN b.length c := by omega
    rw [lf_ref06_Leaves_l0.eq_2, cut_length, bif_F (dF (by omega)), List.take_of_length_le (Nat.le_of_eq (leaves_length c b))]
  | succ d ih =>
    intro k i hi hk
    obtain ⟨k, rfl⟩ : ∃ m, k = m + 1 := ⟨k - 1, by omega⟩
    have hi' : i < (cutN c b).length := by rw [cut_length]; omega
    rw [lf_ref06_Leaves_l0.eq_2, cut_length, bif_T (dT (by omega)), getO_nat hi', cut_get c b i hi']
    simp only [Option.bind_some]
    rw [p_leaf K hK i (by omega) (pieceN c b i) (cut_bts hb i) (Nat.le_trans (piece_len c b i) hc2)]
    simp only [Option.bind_some, un2]
    rw [appO_ok (by rw [List.length_take, leaves_length]; simp; omega)]
    simp only [Option.bind_some]
    rw [← leaves_take c b i (by omega), show (i : Int) + 1 = ((i + 1 : Nat) : Int) by omega, wr_nat (by omega)]
    exact ih k (i + 1) (by omega) (by omega)
theorem p_leaves (K : Nat) (hK : K0 ≤ K) (b : List Nat) (hb : bts b) (c : Nat) (hc : 64 ≤ c) (hc2 : c ≤ 1024) (hl : b.length ≤ 131072) : lf_ref06_Leaves K b (c : Int) = some (leavesN c b, 0) := by
  have hcb : cntN b.length c ≤ 200000 := Nat.le_trans (Nat.div_le_self _ _) (by omega)
  unfold lf_ref06_Leaves
  rw [p_cutM K hK b c hc hc2 hl]
  simp only [Option.bind_some, un2]
  have h := p_leaves0 K hK b hb c hc hc2 hl (cntN b.length c) K 0 (by omega) (by unfold K0 at hK; omega)
  rw [List.take_zero] at h
  rw [show (0 : Int) = ((0 : Nat) : Int) from rfl, h]
  rfl
theorem leaves_good (c : Nat) (b : List Nat) : good (leavesN c b) := by
  intro x hx
  obtain ⟨i, _, rfl⟩ := List.mem_map.1 hx
  exact ⟨dig32_length _, dig32_lt _⟩
end Go.Proofs.YtmodmjekhlnjpaaGreatDoor
namespace Go.Proofs.YtmodmjekhlnjpaaGreatDoor
open Go.RowKit Lf
mutual
def gOf : Nd → GNode
  | .num n => .mk 1 n [] []
  | .byt b => .mk 2 0 b []
  | .lst l => .mk 3 0 [] (gOfL l)
def gOfL : List Nd → List GNode
  | [] => []
  | x :: l => gOf x :: gOfL l
end
theorem gOfL_map : ∀ l : List Nd, gOfL l = l.map gOf
  | [] => by rw [gOfL]; rfl
  | x :: l => by rw [gOfL, gOfL_map l]; rfl
mutual
def dpN : Nd → Nat
  | .num _ => 1
  | .byt _ => 1
  | .lst l => 1 + dpL l
def dpL : List Nd → Nat
  | [] => 0
  | x :: l => max (dpN x) (dpL l)
end
theorem dp_mem : ∀ {l : List Nd} {y : Nd}, y ∈ l → dpN y ≤ dpL l
  | x :: l, y, h => by
    rw [dpL]
    rcases List.mem_cons.1 h with rfl | h
    · exact Nat.le_max_left _ _
    · exact Nat.le_trans (dp_mem h) (Nat.le_max_right _ _)
theorem cnt_pos (x : Nd) : 1 ≤ cntNd x := by cases x <;> simp [cntNd]
theorem cnt_mem : ∀ {l : List Nd} {y : Nd}, y ∈ l → cntNd y ≤ cntL l
  | x :: l, y, h => by
    rw [cntL]
    rcases List.mem_cons.1 h with rfl | h
    · omega
    · have := cnt_mem h; omega
theorem cntL_len : ∀ l : List Nd, l.length ≤ cntL l
  | [] => by simp
  | x :: l => by have := cntL_len l; have := cnt_pos x; simp only [cntL, List.length_cons]; omega
theorem p_cnt0 (K : Nat) : ∀ (d k m : Nat) (out : List Nat) (i : Nat), (leN m).length ≤ d → d < k → m < 2 ^ 64 → out.length + d ≤ 1000 → i + d ≤ 1000 → lf_ref03_Count_l0 K k m out (i : Int) = some (0, (leN m).reverse ++ out, ((i + (leN m).length : Nat) : Int)) := by
  intro d
  induction d with
  | zero =>
    intro k m out i h1 hk hm ho hi
    obtain ⟨k, rfl⟩ : ∃ m, k = m + 1 := ⟨k - 1, by omega⟩
    have h0 : m = 0 := by
      cases m with
      | zero => rfl
      | succ m => rw [leN_pos (by omega)] at h1; simp at h1
    subst h0
    rw [lf_ref03_Count_l0.eq_2, bif_F (dF (by decide)), leN_zero]; simp
  | succ d ih =>
    intro k m out i h1 hk hm ho hi
    obtain ⟨k, rfl⟩ : ∃ m, k = m + 1 := ⟨k - 1, by omega⟩
    rw [lf_ref03_Count_l0.eq_2]
    by_cases h0 : m = 0
    · subst h0
      rw [bif_F (dF (by decide)), leN_zero]; simp
    · rw [bif_T (dT (by omega)), appO_ok (by simp; omega)]
      simp only [Option.bind_some]
      rw [leN_pos (by omega), List.length_cons] at h1
      rw [Nat.mod_eq_of_lt (show m / 256 < 2 ^ 64 by omega), show m % 256 % 2 ^ 8 = m % 256 from Nat.mod_mod _ _, show (i : Int) + 1 = ((i + 1 : Nat) : Int) by omega, wr_nat (by omega), ih k (m / 256) _ (i + 1) (by omega) (by omega) (by omega) (by simp; omega) (by omega), leN_pos (show 0 < m by omega)]
      simp
      omega
theorem toU8 {x : Nat} (hx : x < 2 ^ 8) : toU .u8 (x : Int) = x := by
  unfold toU
  rw [wrap_u_lt rfl hx]; simp
theorem p_cnt (K : Nat) (hK : K0 ≤ K) (n : Nat) (hn : n < 2 ^ 64) : lf_ref03_Count K n = some (cntB n) := by
  unfold lf_ref03_Count
  by_cases h : n < 192
  · rw [bif_T (dT h), cntB_lo h, Nat.mod_eq_of_lt (by omega)]
  · have hl := leN_len 8 n (by omega)
    rw [bif_F (dF h), show (0 : Int) = ((0 : Nat) : Int) from rfl, p_cnt0 K 8 K n [] 0 hl (by unfold K0 at hK; omega) hn (by simp) (by omega)]
    simp only [Option.bind_some, un2, List.append_nil, Nat.zero_add]
    rw [show (191 : Int) + ((leN n).length : Int) = ((191 + (leN n).length : Nat) : Int) by omega, wr_nat (by omega), toU8 (by omega), appO_ok (by simp; omega)]
    simp only [Option.bind_some]
    rw [cntB_hi h]; simp
/-- A value that is built right is. -/
theorem p_right_l1 (K : Nat) (self : Int → Nat → List Nat → List GNode → Option Bool) (l : List Nd) (hs : ∀ y ∈ l, self (gOf y).kind (gOf y).num (gOf y).bytes (gOf y).list = some true) (hl : l.length ≤ 1000000) : ∀ (d k i : Nat), i + d = l.length → d < k →
    lf_ref03_Right_l1 K self (l.map gOf) k false (i : Int) = some (.inr (false, (l.length : Int))) := by
  intro d
  induction d with
  | zero =>
    intro k i hi hk
    obtain ⟨k, rfl⟩ : ∃ m, k = m + 1 := ⟨k - 1, by omega⟩
    obtain rfl : i = l.length := by omega
    rw [lf_ref03_Right_l1.eq_2, List.length_map, bif_F (dF (by omega))]
  | succ d ih =>
    intro k i hi hk
    obtain ⟨k, rfl⟩ : ∃ m, k = m + 1 := ⟨k - 1, by omega⟩
    rw [lf_ref03_Right_l1.eq_2, List.length_map, bif_T (dT (by omega)), getO_nat (by simp; omega)]
    simp only [Option.bind_some, List.getElem_map]
    rw [hs _ (List.getElem_mem _)]
    simp only [Option.bind_some, Bool.not_true, cond_false]
    rw [show (i : Int) + 1 = ((i + 1 : Nat) : Int) by omega, wr_nat (by omega)]
    exact ih k (i + 1) (by omega) (by omega)
theorem p_right (K : Nat) (hK : K0 ≤ K) : ∀ (k : Nat) (x : Nd), cntNd x ≤ k → cntNd x ≤ 1000000 → lf_ref03_Right K k (gOf x).kind (gOf x).num (gOf x).bytes (gOf x).list = some true := by
  have hk2 : 1000000 < K := by unfold K0 at hK; omega
  intro k
  induction k with
  | zero => intro x h; have := cnt_pos x; omega
  | succ k ih =>
    intro x hx hm
    rw [lf_ref03_Right.eq_2]
    obtain ⟨k', hk'⟩ : ∃ m, K = m + 1 := ⟨K - 1, by omega⟩
    cases x with
    | num n =>
      show lf_ref03_Right_b K (lf_ref03_Right K k) 1 n [] [] = some true
      unfold lf_ref03_Right_b
      rw [bif_F (dF (by decide)), bif_F (dF (by decide)), bif_F (dF (by decide)), bif_T (dT (by decide)), bif_F (dF (by decide)), bif_T (dT (by decide)), bif_F (dF (by decide)), hk', lf_ref03_Right_l4.eq_2, bif_F (dF (by decide))]
      rfl
    | byt b =>
      show lf_ref03_Right_b K (lf_ref03_Right K k) 2 0 b [] = some true
      unfold lf_ref03_Right_b
      rw [bif_F (dF (by decide)), bif_F (dF (by decide)), bif_T (dT (by decide)), bif_F (dF (by decide)), bif_F (dF (by decide)), bif_T (dT (by decide)), bif_F (dF (by decide)), hk', lf_ref03_Right_l2.eq_2, bif_F (dF (by decide))]
      rfl
    | lst l =>
      show lf_ref03_Right_b K (lf_ref03_Right K k) 3 0 [] (gOfL l) = some true
      rw [gOfL_map]
      unfold lf_ref03_Right_b
      rw [cntNd] at hx hm
      have hl := cntL_len l
      have h1 := p_right_l1 K (lf_ref03_Right K k) l (fun y hy => ih y (by have := cnt_mem hy; omega) (by have := cnt_mem hy; omega)) (by omega) l.length K 0 (by omega) (by omega)
      replace h1 : lf_ref03_Right_l1 K (lf_ref03_Right K k) (l.map gOf) K false 0 = some (.inr (false, (l.length : Int))) := h1
      rw [bif_F (dF (by decide)), bif_F (dF (by decide)), bif_T (dT (by decide)), bif_F (dF (by decide)), bif_T (dT (by decide)), bif_F (dF (by decide)), bif_F (dF (by decide)), h1]
      rfl
/-- All values in one, each with its depth. -/
theorem p_all (K : Nat) (hK : K0 ≤ K) : ∀ (k : Nat) (x : Nd) (deep : Nat), cntNd x ≤ k → cntNd x ≤ 1000000 → deep + dpN x ≤ 1000000 → ∃ l d, lf_ref03_all K k (gOf x).kind (gOf x).num (gOf x).bytes (gOf x).list (deep : Int) = some (l, d) ∧ l.length = cntNd x ∧ d.length = cntNd x ∧
    (∀ y ∈ l, y.bytes.length ≤ (encN x).length) ∧ (∀ z ∈ d, z < (deep : Int) + dpN x) := by
  have hk2 : 1000000 < K := by unfold K0 at hK; omega
  intro k
  induction k with
  | zero => intro x deep h; have := cnt_pos x; omega
  | succ k ih =>
    intro x deep hx hm hdp
    rw [lf_ref03_all.eq_2]
    obtain ⟨k', hk'⟩ : ∃ m, K = m + 1 := ⟨K - 1, by omega⟩
    cases x with
    | num n =>
      show ∃ l d, lf_ref03_all_b K (lf_ref03_all K k) 1 n [] [] (deep : Int) = some (l, d) ∧ _
      refine ⟨[.mk 1 n [] []], [(deep : Int)], ?_, rfl, rfl, ?_, ?_⟩
      · unfold lf_ref03_all_b
        rw [hk', lf_ref03_all_l0.eq_2, bif_F (dF (by decide))]; rfl
      · intro y hy; rw [List.mem_singleton.1 hy]; simp [GNode.bytes]
      · intro z hz; rw [List.mem_singleton.1 hz, dpN]; omega
    | byt b =>
      show ∃ l d, lf_ref03_all_b K (lf_ref03_all K k) 2 0 b [] (deep : Int) = some (l, d) ∧ _
      refine ⟨[.mk 2 0 b []], [(deep : Int)], ?_, rfl, rfl, ?_, ?_⟩
      · unfold lf_ref03_all_b
        rw [hk', lf_ref03_all_l0.eq_2, bif_F (dF (by decide))]; rfl
      · intro y hy; rw [List.mem_singleton.1 hy]; exact enc_bs (.byt b)
      · intro z hz; rw [List.mem_singleton.1 hz, dpN]; omega
    | lst l =>
      show ∃ l' d, lf_ref03_all_b K (lf_ref03_all K k) 3 0 [] (gOfL l) (deep : Int) = some (l', d) ∧ _
      rw [gOfL_map]
      unfold lf_ref03_all_b
      rw [cntNd] at hx hm
      rw [dpN] at hdp
      have hl := cntL_len l
      -- the loop
      have loop : ∀ (d k2 i : Nat) (x1 : List GNode) (x2 : List Int), i + d = l.length → d < k2 → x1.length = 1 + cntL (l.take i) → x2.length = 1 + cntL (l.take i) → (∀ y ∈ x1, y.bytes.length ≤ (encN (.lst l)).length) → (∀ z ∈ x2, z < (deep : Int) + (1 + dpL l : Nat)) →
          ∃ a b, lf_ref03_all_l0 K (lf_ref03_all K k) (l.map gOf) (deep : Int) k2 x1 x2 (i : Int) = some (a, b, (l.length : Int)) ∧ a.length = 1 + cntL l ∧ b.length = 1 + cntL l ∧ (∀ y ∈ a, y.bytes.length ≤ (encN (.lst l)).length) ∧ (∀ z ∈ b, z < (deep : Int) + (1 + dpL l : Nat)) := by
        intro d
        induction d with
        | zero =>
          intro k2 i x1 x2 hi hk h1 h2 h3 h4
          obtain ⟨k2, rfl⟩ : ∃ m, k2 = m + 1 := ⟨k2 - 1, by omega⟩
          obtain rfl : i = l.length := by omega
          rw [List.take_length] at h1 h2
          exact ⟨x1, x2, by rw [lf_ref03_all_l0.eq_2, List.length_map, bif_F (dF (by omega))], h1, h2, h3, h4⟩
        | succ d ihd =>
          intro k2 i x1 x2 hi hk h1 h2 h3 h4
          obtain ⟨k2, rfl⟩ : ∃ m, k2 = m + 1 := ⟨k2 - 1, by omega⟩
          have hil : i < l.length := by omega
          have hmem := List.getElem_mem hil
          have hcm := cnt_mem hmem
          have hdm := dp_mem hmem
          obtain ⟨a, b, e, g1, g2, g3, g4⟩ := ih l[i] (deep + 1) (by omega) (by omega) (by omega)
          have htk := cntL_take l i hil
          have hle := cntL_le l (i + 1)
          rw [lf_ref03_all_l0.eq_2, List.length_map, bif_T (dT (by omega)), getO_nat (by simp; omega)]
          simp only [Option.bind_some, List.getElem_map]
          rw [show (deep : Int) + 1 = ((deep + 1 : Nat) : Int) by omega, wr_nat (by omega), e]
          simp only [Option.bind_some, un2]
          rw [appO_ok (by omega), appO_ok (by omega)]
          simp only [Option.bind_some]
          rw [show (i : Int) + 1 = ((i + 1 : Nat) : Int) by omega, wr_nat (by omega)]
          refine ihd k2 (i + 1) _ _ (by omega) (by omega) (by simp; omega) (by simp; omega) (fun y hy => ?_) (fun z hz => ?_)
          · rcases List.mem_append.1 hy with hy | hy
            · exact h3 y hy
            · exact Nat.le_trans (g3 y hy) (enc_el (x := .lst l) hmem)
          · rcases List.mem_append.1 hz with hz | hz
            · exact h4 z hz
            · have := g4 z hz; omega
      obtain ⟨a, b, e, g1, g2, g3, g4⟩ := loop l.length K 0 [.mk 3 0 [] (l.map gOf)] [(deep : Int)] (by omega) (by omega) (by simp [cntL]) (by simp [cntL]) (by intro y hy; rw [List.mem_singleton.1 hy]; simp [GNode.bytes]) (by intro z hz; rw [List.mem_singleton.1 hz]; omega)
      refine ⟨a, b, ?_, by rw [g1, cntNd], by rw [g2, cntNd], g3, fun z hz => by have := g4 z hz; rw [dpN]; exact this⟩
      replace e : lf_ref03_all_l0 K (lf_ref03_all K k) (l.map gOf) (deep : Int) K [.mk 3 0 [] (l.map gOf)] [(deep : Int)] 0 = _ := e
      rw [e]; rfl
mutual
def nmOk : Nd → Prop
  | .num n => n < 2 ^ 64
  | .byt _ => True
  | .lst l => nmOkL l
def nmOkL : List Nd → Prop
  | [] => True
  | x :: l => nmOk x ∧ nmOkL l
end
theorem nmOk_mem : ∀ {l : List Nd} {y : Nd}, nmOkL l → y ∈ l → nmOk y
  | x :: l, y, h, hy => by
    rw [nmOkL] at h
    rcases List.mem_cons.1 hy with rfl | hy
    · exact h.1
    · exact nmOk_mem h.2 hy
theorem p_bytes (K : Nat) (hK : K0 ≤ K) : ∀ (k : Nat) (x : Nd), cntNd x ≤ k → cntNd x ≤ 1000000 → (encN x).length ≤ 1000000 → nmOk x → lf_ref03_bytes K k (gOf x).kind (gOf x).num (gOf x).bytes (gOf x).list = some (encN x) := by
  have hk2 : 1000000 < K := by unfold K0 at hK; omega
  intro k
  induction k with
  | zero => intro x h; have := cnt_pos x; omega
  | succ k ih =>
    intro x hx hm he hn
    rw [lf_ref03_bytes.eq_2]
    have u8 : ∀ n : Nat, n < 256 → toU .u8 (n : Int) = n := fun n h => toU8 (by omega)
    cases x with
    | num n =>
      show lf_ref03_bytes_b K (lf_ref03_bytes K k) 1 n [] [] = some (encN (.num n))
      rw [nmOk] at hn
      unfold lf_ref03_bytes_b
      rw [bif_T (dT (by decide)), p_cnt K hK n hn]
      simp only [Option.bind_some]
      have hc := cntB_len n hn
      rw [appO_ok (by simp; omega)]
      rfl
    | byt b =>
      show lf_ref03_bytes_b K (lf_ref03_bytes K k) 2 0 b [] = some (encN (.byt b))
      unfold lf_ref03_bytes_b
      have hb := enc_bs (.byt b)
      simp only [Nd.bs] at hb
      have hc := cntB_len b.length (by omega)
      rw [bif_F (dF (by decide)), bif_T (dT (by decide)), toU64 (by omega), p_cnt K hK _ (by omega)]
      simp only [Option.bind_some]
      rw [appO_ok (by simp; omega)]; simp only [Option.bind_some]
      rw [appO_ok (by simp; omega), encN]
      rfl
    | lst l =>
      show lf_ref03_bytes_b K (lf_ref03_bytes K k) 3 0 [] (gOfL l) = some (encN (.lst l))
      rw [gOfL_map]
      rw [cntNd] at hx hm
      rw [nmOk] at hn
      have hl := cntL_len l
      have hc := cntB_len l.length (by omega)
      have hel : (encN (.lst l)).length = 1 + (cntB l.length).length + (encL l).length := by rw [encN]; simp; omega
      have loop : ∀ (d k2 i : Nat), i + d = l.length → d < k2 → lf_ref03_bytes_l0 K (lf_ref03_bytes K k) (l.map gOf) k2 (3 :: cntB l.length ++ encL (l.take i)) (i : Int) = some (encN (.lst l), (l.length : Int)) := by
        intro d
        induction d with
        | zero =>
          intro k2 i hi hk
          obtain ⟨k2, rfl⟩ : ∃ m, k2 = m + 1 := ⟨k2 - 1, by omega⟩
          obtain rfl : i = l.length := by omega
          rw [lf_ref03_bytes_l0.eq_2, List.length_map, bif_F (dF (by omega)), List.take_length, encN]; rfl
        | succ d ihd =>
          intro k2 i hi hk
          obtain ⟨k2, rfl⟩ : ∃ m, k2 = m + 1 := ⟨k2 - 1, by omega⟩
          have hil : i < l.length := by omega
          have hmem := List.getElem_mem hil
          have hcm := cnt_mem hmem
          have hem := encL_mem hmem
          rw [lf_ref03_bytes_l0.eq_2, List.length_map, bif_T (dT (by omega)), getO_nat (by simp; omega)]
          simp only [Option.bind_some, List.getElem_map]
          rw [ih l[i] (by omega) (by omega) (by omega) (nmOk_mem hn hmem)]
          simp only [Option.bind_some]
          have h1 := encL_take l i hil
          have h2 := encL_le l (i + 1)
          rw [h1, List.length_append] at h2
          rw [appO_ok (by simp; omega)]
          simp only [Option.bind_some]
          rw [List.append_assoc, ← h1, show (i : Int) + 1 = ((i + 1 : Nat) : Int) by omega, wr_nat (by omega)]
          exact ihd k2 (i + 1) (by omega) (by omega)
      have h0 := loop l.length K 0 (by omega) (by omega)
      rw [List.take_zero, encL, List.append_nil] at h0
      unfold lf_ref03_bytes_b
      rw [bif_F (dF (by decide)), bif_F (dF (by decide)), List.length_map, toU64 (by omega), p_cnt K hK _ (by omega)]
      simp only [Option.bind_some]
      rw [appO_ok (by simp; omega)]
      simp only [Option.bind_some]
      replace h0 : lf_ref03_bytes_l0 K (lf_ref03_bytes K k) (l.map gOf) K ([toU .u8 3] ++ cntB l.length) 0 = _ := h0
      rw [h0]; rfl
theorem p_write (K : Nat) (hK : K0 ≤ K) (x : Nd) (hd : dpN x ≤ 16) (hc : cntNd x ≤ 16384) (he : (encN x).length ≤ 65536) (hn : nmOk x) : lf_ref03_Write K (gOf x).kind (gOf x).num (gOf x).bytes (gOf x).list 65536 16 16384 65536 = some (encN x, 0) := by
  have hk2 : 1000000 < K := by unfold K0 at hK; omega
  unfold lf_ref03_Write
  rw [p_right K hK K x (by omega) (by omega)]
  simp only [Option.bind_some, Bool.not_true, cond_false]
  obtain ⟨l, d, e, h1, h2, h3, h4⟩ := p_all K hK K x 1 (by omega) (by omega) (by omega)
  replace e : lf_ref03_all K K (gOf x).kind (gOf x).num (gOf x).bytes (gOf x).list 1 = _ := e
  rw [e]
  simp only [Option.bind_some, un2]
  have loop : ∀ (m k i : Nat), i + m = l.length → m < k → lf_ref03_Write_l0 K 16 16384 65536 l d k [] 0 (i : Int) = some (.inr ([], 0, (l.length : Int))) := by
    intro m
    induction m with
    | zero =>
      intro k i hi hk
      obtain ⟨k, rfl⟩ : ∃ m, k = m + 1 := ⟨k - 1, by omega⟩
      obtain rfl : i = l.length := by omega
      rw [lf_ref03_Write_l0.eq_2, bif_F (dF (by omega))]
    | succ m ih =>
      intro k i hi hk
      obtain ⟨k, rfl⟩ : ∃ m, k = m + 1 := ⟨k - 1, by omega⟩
      have hil : i < l.length := by omega
      have hid : i < d.length := by omega
      have g1 := h3 _ (List.getElem_mem hil)
      have g2 := h4 _ (List.getElem_mem hid)
      have z : ∀ y : Nat, lf_ref03_zero K (y : Int) = some (y : Int) := fun y => by unfold lf_ref03_zero; rw [bif_F (dF (by omega))]
      have z1 : lf_ref03_zero K 16 = some 16 := z 16
      have z2 : lf_ref03_zero K 16384 = some 16384 := z 16384
      have z3 : lf_ref03_zero K 65536 = some 65536 := z 65536
      rw [lf_ref03_Write_l0.eq_2, bif_T (dT (by omega)), getO_nat hid, z1, z2, z3, getO_nat hil]
      simp only [Option.bind_some]
      rw [bif_F (dF (by omega)), bif_F (dF (by omega)), bif_F (dF (by omega)), show (i : Int) + 1 = ((i + 1 : Nat) : Int) by omega, wr_nat (by omega)]
      exact ih k (i + 1) (by omega) (by omega)
  have h0 := loop l.length K 0 (by omega) (by omega)
  replace h0 : lf_ref03_Write_l0 K 16 16384 65536 l d K [] 0 0 = _ := h0
  rw [h0, bR_r]
  rw [p_bytes K hK K x (by omega) (by omega) (by omega) hn]
  simp only [Option.bind_some]
  have z3 : lf_ref03_zero K 65536 = some 65536 := by unfold lf_ref03_zero; rw [bif_F (dF (by decide))]
  rw [z3]
  simp only [Option.bind_some]
  rw [bif_F (dF (by omega))]
end Go.Proofs.YtmodmjekhlnjpaaGreatDoor
namespace Go.Proofs.YtmodmjekhlnjpaaGreatDoor
open Go.RowKit Lf
theorem p_sent0 (K : Nat) (ps : List (List Nat)) (hp : ps.length ≤ 1000000) : ∀ (d k i : Nat), i + d = ps.length → d < k → lf_ref15_Sent_l0 K ps k ((ps.take i).map fun p => GNode.mk 2 0 p []) (i : Int) = some (ps.map fun p => GNode.mk 2 0 p [], (ps.length : Int)) := by
  intro d
  induction d with
  | zero =>
    intro k i hi hk
    obtain ⟨k, rfl⟩ : ∃ m, k = m + 1 := ⟨k - 1, by omega⟩
    obtain rfl : i = ps.length := by omega
    rw [lf_ref15_Sent_l0.eq_2, bif_F (dF (by omega)), List.take_length]
  | succ d ih =>
    intro k i hi hk
    obtain ⟨k, rfl⟩ : ∃ m, k = m + 1 := ⟨k - 1, by omega⟩
    have hi' : i < ps.length := by omega
    rw [lf_ref15_Sent_l0.eq_2, bif_T (dT (by omega)), getO_nat hi']
    simp only [Option.bind_some, lf_ref03_Bytes, un2]
    rw [appO_ok (by simp; omega)]
    simp only [Option.bind_some]
    rw [← map_take_succ (fun p => GNode.mk 2 0 p []) ps i hi', show (i : Int) + 1 = ((i + 1 : Nat) : Int) by omega, wr_nat (by omega)]
    exact ih k (i + 1) (by omega) (by omega)
theorem gOf_sent (b : List Nat) (ps : List (List Nat)) : gOf (.lst [.byt b, .lst (ps.map .byt)]) = GNode.mk 3 0 [] [GNode.mk 2 0 b [], GNode.mk 3 0 [] (ps.map fun p => GNode.mk 2 0 p [])] := by
  simp only [gOf, gOfL_map, List.map_cons, List.map_nil, List.map_map]
  rfl
theorem nmOk_byts : ∀ ps : List (List Nat), nmOkL (ps.map .byt)
  | [] => by rw [List.map_nil, nmOkL]; trivial
  | p :: ps => by rw [List.map_cons, nmOkL, nmOk]; exact ⟨trivial, nmOk_byts ps⟩
theorem dp_byts : ∀ ps : List (List Nat), dpL (ps.map .byt) ≤ 1
  | [] => by rw [List.map_nil, dpL]; omega
  | p :: ps => by rw [List.map_cons, dpL, dpN]; have := dp_byts ps; omega
theorem p_sent (K : Nat) (hK : K0 ≤ K) (b : List Nat) (ps : List (List Nat)) (hb : b.length ≤ 1024) (h32 : ∀ x ∈ ps, x.length = 32) (hl : ps.length ≤ 100) : lf_ref15_Sent K b ps = some (sentN b ps) := by
  have hk2 : 1000000 < K := by unfold K0 at hK; omega
  unfold lf_ref15_Sent
  have h0 := p_sent0 K ps (by omega) ps.length K 0 (by omega) (by omega)
  rw [List.take_zero, List.map_nil] at h0
  replace h0 : lf_ref15_Sent_l0 K ps K [] 0 = _ := h0
  rw [h0]
  simp only [Option.bind_some, un2, lf_ref03_Bytes, lf_ref03_List, lf_ref03_Whole]
  obtain ⟨s1, s2⟩ := sent_len b ps hb h32 hl
  have hw := p_write K hK (.lst [.byt b, .lst (ps.map .byt)]) (by
    simp only [dpN, dpL]
    have := dp_byts ps
    omega) (by omega) (by omega) (by
    simp only [nmOk, nmOkL]
    exact ⟨trivial, nmOk_byts ps, trivial⟩)
  rw [gOf_sent] at hw
  simp only [GNode.kind, GNode.num, GNode.bytes, GNode.list] at hw
  rw [hw]
  rfl
theorem p_chunk (K : Nat) (hK : K0 ≤ K) (st sn ai bu : List Nat) (ch p : Int) (hb : bts bu) (hl : bu.length ≤ 6000) (hp : p ≤ 9223372036854775807) : lf_ref16_Chunk K st sn ai bu ch p = some (chunkN bu ch p) := by
  unfold lf_ref16_Chunk chunkN
  by_cases hc : ch < 64 ∨ ch > 1024
  · rw [p_cutE K bu ch (by omega) hc, if_pos hc]
    simp only [Option.bind_some, un2]
    rw [bif_T (dT (by decide))]
  · rw [if_neg hc]
    obtain ⟨c, rfl⟩ : ∃ c : Nat, ch = (c : Int) := ⟨ch.toNat, by omega⟩
    have hcs := cnt_small (n := bu.length) (c := c) (by omega) hl (by omega)
    rw [p_cutM K hK bu c (by omega) (by omega) (by omega), Int.toNat_natCast]
    simp only [Option.bind_some, un2]
    rw [bif_F (dF (by decide))]
    by_cases h1 : p < 0
    · rw [bif_T (dT h1), if_pos (.inl h1)]
    rw [bif_F (dF h1), cut_length]
    by_cases h2 : (cntN bu.length c : Int) ≤ p
    · rw [bif_T (dT h2), if_pos (.inr h2)]
    rw [bif_F (dF (by omega)), if_neg (by omega)]
    obtain ⟨q, rfl⟩ : ∃ q : Nat, p = (q : Int) := ⟨p.toNat, by omega⟩
    have hq : q < (cutN c bu).length := by rw [cut_length]; omega
    rw [p_leaves K hK bu hb c (by omega) (by omega) (by omega)]
    simp only [Option.bind_some]
    have hll := leaves_length c bu
    rw [p_prove K hK (leavesN c bu) (leaves_good c bu) (by omega) q (by omega)]
    simp only [Option.bind_some]
    rw [getO_nat hq, cut_get c bu q hq]
    simp only [Option.bind_some]
    have hw := walk_len _ (leavesN c bu) q rfl
    rw [p_sent K hK _ _ (Nat.le_trans (piece_len c bu q) (by omega)) (walk_32 _ _ q rfl fun x hx => (leaves_good c bu x hx).1) (by omega)]
    simp only [Option.bind_some, Int.toNat_natCast]
    rfl
theorem p_answer (K : Nat) (hK : K0 ≤ K) (st sn ai bu : List Nat) (ch k v p : Int) (roots : List (List Nat)) (hb : bts bu) (hl : bu.length ≤ 6000) (hr : roots.length ≤ 1000000) (hv : v ≤ 9223372036854775807) (hp : p ≤ 9223372036854775807) :
    lf_ref16_Answer K st sn ai bu ch roots k v p = some (answerN st sn ai bu ch roots k v p) := by
  unfold lf_ref16_Answer answerN
  by_cases h1 : k = 1
  · rw [bif_T (dT h1), if_pos h1, show ((roots.length : Int) + 2) = ((roots.length + 2 : Nat) : Int) by omega, wr_nat (by omega)]
    by_cases h2 : v > 1
    · rw [bif_T (dT h2)]
      by_cases h3 : v < ((roots.length + 2 : Nat) : Int)
      · rw [bif_T (dT h3), if_neg (by omega)]
        obtain ⟨j, hj⟩ : ∃ j : Nat, v - 2 = (j : Int) := ⟨(v - 2).toNat, by omega⟩
        rw [hj, wr_nat (by omega), getO_D [] (by omega)]
        simp
      · rw [bif_F (dF h3), if_pos (by omega)]
    · rw [bif_F (dF h2), if_pos (by omega)]
  rw [bif_F (dF h1), if_neg h1]
  by_cases h5 : k = 5
  · subst h5
    rw [bif_T (dT rfl), p_chunk K hK st sn ai bu ch p hb hl hp]
    simp
    rfl
  rw [bif_F (dF h5)]
  by_cases h2 : k < 1
  · rw [bif_T (dT h2), if_neg (by omega), if_neg (by omega), if_neg (by omega), if_neg h5]
  by_cases h6 : k > 5
  · rw [bif_F (dF h2), bif_T (dT h6), if_neg (by omega), if_neg (by omega), if_neg (by omega), if_neg h5]
  rw [bif_F (dF h2), bif_F (dF h6)]
  have h : k = 2 ∨ k = 3 ∨ k = 4 := by omega
  rcases h with rfl | rfl | rfl
  · rw [wr (by omega) (by omega)]; rfl
  · rw [wr (by omega) (by omega)]; rfl
  · rw [wr (by omega) (by omega)]; rfl
end Go.Proofs.YtmodmjekhlnjpaaGreatDoor
namespace Go.Proofs.YtmodmjekhlnjpaaGreatDoor
open Go.RowKit Lf
theorem b8_of_un {x : Nat} {hh : Hp} {cs : List Value} (hx : x < 256) (h : (un .u8).K hh x cs) : b8.K hh x cs := ⟨h.1, hx⟩
theorem un_of_b8 {x : Nat} {hh : Hp} {cs : List Value} (h : b8.K hh x cs) : (un .u8).K hh x cs := ⟨h.1, trivial⟩
theorem sv_b8 {hh : Hp} {v : Value} {xs : List Nat} (hb : bts xs) (s : SV (un .u8) hh v xs) : SV b8 hh v xs := SV.weak (d := un .u8) rfl (fun x hx cs h => b8_of_un (hb x hx) h) s
theorem sv_un {hh : Hp} {v : Value} {xs : List Nat} (s : SV b8 hh v xs) : SV (un .u8) hh v xs := SV.weak (d := b8) rfl (fun x _ cs h => un_of_b8 h) s
theorem sv_bb {hh : Hp} {v : Value} {xs : List (List Nat)} (hb : ∀ x ∈ xs, bts x) (s : SV (Rep.slice (un .u8)) hh v xs) : SV bb hh v xs :=
  SV.weak (d := Rep.slice (un .u8)) rfl (fun x hx cs ⟨u, h1, h2⟩ => ⟨u, h1, sv_b8 (hb x hx) h2⟩) s
section
variable {w0 : World} {sps : List Sp} {rs : List Fa}
theorem en_b8 {v : Value} {xs : List Nat} (h : Rd (un .u8) v xs ∈ rs) (hb : bts xs) : En w0 sps rs fun s r => sps = s ∧ Rd b8 v xs :: rs = r := fun W hs =>
  let ⟨s, r, h1, h2, h3⟩ := en_fact (r := Rd b8 v xs) (fun hh hr => sv_b8 hb (hr _ h)) W hs
  ⟨s, r, h1, h2, h3.symm⟩
theorem en_bb {v : Value} {xs : List (List Nat)} (h : Rd (Rep.slice (un .u8)) v xs ∈ rs) (hb : ∀ x ∈ xs, bts x) : En w0 sps rs fun s r => sps = s ∧ Rd bb v xs :: rs = r := fun W hs =>
  let ⟨s, r, h1, h2, h3⟩ := en_fact (r := Rd bb v xs) (fun hh hr => sv_bb hb (hr _ h)) W hs
  ⟨s, r, h1, h2, h3.symm⟩
theorem en_un {v : Value} {xs : List Nat} {l : List Fa} (h : ∀ r ∈ rs, r ∈ l) : En w0 sps (Rd b8 v xs :: l) fun s r => sps = s ∧ Rd (un .u8) v xs :: rs = r := fun W hs => by
  have h1 := hs.more (r := Rd (un .u8) v xs) (fun hh hr => sv_un (hr _ (.head _)))
  refine ⟨_, _, h1.facts (rs' := Rd (un .u8) v xs :: rs) (fun r hr => ?_), rfl, rfl⟩
  rcases List.mem_cons.1 hr with rfl | hr
  · exact .head _
  · exact .tail _ (.tail _ (h r hr))
end
/-- press.Answer. -/
noncomputable def lf_press_Answer (_K : Nat) (p0_0 p0_1 p0_2 p0_3 : List Nat) (p0_4 : Int) (p1 : List (List Nat)) (p2_0 p2_1 p2_2 : Int) : Option (List Nat × Int) :=
  @ite _ (bts p0_0 ∧ bts p0_1 ∧ bts p0_2 ∧ bts p0_3 ∧ (∀ x ∈ p1, bts x) ∧ p0_0.length ≤ 1000 ∧ p0_1.length ≤ 1000 ∧ p0_2.length ≤ 1000 ∧ p0_3.length ≤ 6000 ∧ (∀ x ∈ p1, x.length ≤ 1000000) ∧ p2_1 ≤ 9223372036854775807) (Classical.propDecidable _)
    (some (answerN p0_0 p0_1 p0_2 p0_3 p0_4 p1 p2_0 p2_1 p2_2)) none
theorem lf_press_Answer_ok (K : Nat) (p0_0 p0_1 p0_2 p0_3 : List Nat) (p0_4 : Int) (p1 : List (List Nat)) (p2_0 p2_1 p2_2 : Int) (vp0_0 vp0_1 vp0_2 vp0_3 vp1 : Value) (w0 : World) (sps : List Sp) (rs : List Fa)
    (h0 : Rd (un .u8) vp0_0 p0_0 ∈ rs) (h1 : Rd (un .u8) vp0_1 p0_1 ∈ rs) (h2 : Rd (un .u8) vp0_2 p0_2 ∈ rs) (h3 : Rd (un .u8) vp0_3 p0_3 ∈ rs) (h5 : Rd (Rep.slice (un .u8)) vp1 p1 ∈ rs)
    (hct : Cl 8 0 constsV ∈ rs) (hst : Cl 7 0 startsV ∈ rs) {r0 : List Nat} {r1 : Int} (h : lf_press_Answer K p0_0 p0_1 p0_2 p0_3 p0_4 p1 p2_0 p2_1 p2_2 = some (r0, r1)) :
    FnOk Tryz.prog 9 #[.agg #[vp0_0, vp0_1, vp0_2, vp0_3, .int .i64 p0_4], vp1, .agg #[.int .i64 p2_0, .int .i64 p2_1, .int .i64 p2_2]] w0 sps rs (fun v s q => ∃ (qr0 : Value), v = .tuple #[qr0, .int .i64 r1] ∧ sps = s ∧ Rd (un .u8) qr0 r0 :: rs = q) := by
  unfold lf_press_Answer at h
  split at h
  case isFalse => cases h
  rename_i hh
  obtain ⟨b0, b1, b2, b3, b5, l0, l1, l2, l3, l5, hv⟩ := hh
  have h := Option.some.inj h
  refine fn_en (en_b8 h0 b0) ?_
  rintro _ _ ⟨rfl, rfl⟩
  refine fn_en (en_b8 (.tail _ h1) b1) ?_
  rintro _ _ ⟨rfl, rfl⟩
  refine fn_en (en_b8 (.tail _ (.tail _ h2)) b2) ?_
  rintro _ _ ⟨rfl, rfl⟩
  refine fn_en (en_b8 (.tail _ (.tail _ (.tail _ h3))) b3) ?_
  rintro _ _ ⟨rfl, rfl⟩
  refine fn_en (en_bb (.tail _ (.tail _ (.tail _ (.tail _ h5)))) b5) ?_
  rintro _ _ ⟨rfl, rfl⟩
  refine fn_after (answer_ok vp0_0 vp0_1 vp0_2 vp0_3 vp1 p0_4 p2_0 p2_1 p2_2 p0_0 p0_1 p0_2 p0_3 p1 w0 _ _ (.tail _ (.tail _ (.tail _ (.tail _ (.tail _ hst))))) (.tail _ (.tail _ (.tail _ (.tail _ (.tail _ hct)))))
    (.tail _ (.tail _ (.tail _ (.tail _ (.head _))))) (.tail _ (.tail _ (.tail _ (.head _)))) (.tail _ (.tail _ (.head _))) (.tail _ (.head _)) (.head _) l0 l1 l2 l3 l5 hv) ?_
  rw [h]
  rintro _ _ _ ⟨w, rfl, rfl, rfl⟩ W hs
  obtain ⟨s, r, q1, rfl, rfl⟩ := en_un (rs := rs) (fun r hr => (.tail _ (.tail _ (.tail _ (.tail _ (.tail _ hr)))))) W hs
  exact ⟨_, _, q1, _, rfl, rfl, rfl⟩
/-- press.Chunk. -/
noncomputable def lf_press_Chunk (_K : Nat) (_p0_0 _p0_1 _p0_2 p0_3 : List Nat) (p0_4 : Int) (p1 : Int) : Option (List Nat × Int) :=
  @ite _ (bts p0_3 ∧ p0_3.length ≤ 6000) (Classical.propDecidable _) (some (chunkN p0_3 p0_4 p1)) none
theorem lf_press_Chunk_ok (K : Nat) (p0_0 p0_1 p0_2 p0_3 : List Nat) (p0_4 : Int) (p1 : Int) (vp0_0 vp0_1 vp0_2 vp0_3 : Value) (w0 : World) (sps : List Sp) (rs : List Fa)
    (_h0 : Rd (un .u8) vp0_0 p0_0 ∈ rs) (_h1 : Rd (un .u8) vp0_1 p0_1 ∈ rs) (_h2 : Rd (un .u8) vp0_2 p0_2 ∈ rs) (h3 : Rd (un .u8) vp0_3 p0_3 ∈ rs)
    (hct : Cl 8 0 constsV ∈ rs) (hst : Cl 7 0 startsV ∈ rs) {r0 : List Nat} {r1 : Int} (h : lf_press_Chunk K p0_0 p0_1 p0_2 p0_3 p0_4 p1 = some (r0, r1)) :
    FnOk Tryz.prog 12 #[.agg #[vp0_0, vp0_1, vp0_2, vp0_3, .int .i64 p0_4], .int .i64 p1] w0 sps rs (fun v s q => ∃ (qr0 : Value), v = .tuple #[qr0, .int .i64 r1] ∧ sps = s ∧ Rd (un .u8) qr0 r0 :: rs = q) := by
  unfold lf_press_Chunk at h
  split at h
  case isFalse => cases h
  rename_i hh
  have h := Option.some.inj h
  refine fn_en (en_b8 h3 hh.1) ?_
  rintro _ _ ⟨rfl, rfl⟩
  refine fn_after (chunk_all vp0_0 vp0_1 vp0_2 vp0_3 p0_4 p1 p0_3 w0 _ _ (.tail _ hst) (.tail _ hct) (.head _) hh.2) ?_
  rw [h]
  rintro _ _ _ ⟨w, rfl, rfl, rfl⟩ W hs
  obtain ⟨s, r, q1, rfl, rfl⟩ := en_un (rs := rs) (fun r hr => .tail _ hr) W hs
  exact ⟨_, _, q1, _, rfl, rfl, rfl⟩
/-- press.Role of no keys. -/
def lf_press_Role (_K : Nat) (p0_0 : List (List Nat)) (p0_1 : Int) : Option (List (List Nat) × Int × Int) :=
  if p0_0 = [] ∧ p0_1 = 0 then some ([], 0, 80) else none
theorem lf_press_Role_ok (K : Nat) (p0_0 : List (List Nat)) (p0_1 : Int) (vp0_0 : Value) (w0 : World) (sps : List Sp) (rs : List Fa) (_h0 : Rd (Rep.slice (un .u8)) vp0_0 p0_0 ∈ rs) (hz : vp0_0 = .slice none 0 0)
    {r0 : List (List Nat)} {r1 r2 : Int} (h : lf_press_Role K p0_0 p0_1 = some (r0, r1, r2)) :
    FnOk Tryz.prog 16 #[.agg #[vp0_0, .int .i64 p0_1]] w0 sps rs (fun v s q => ∃ (qr0 : Value), v = .tuple #[.agg #[qr0, .int .i64 r1], .int .i64 r2] ∧ sps = s ∧ Rd (Rep.slice (un .u8)) qr0 r0 :: rs = q) := by
  unfold lf_press_Role at h
  split at h
  case isFalse => cases h
  rename_i hh
  obtain ⟨rfl, rfl⟩ := hh
  cases h
  subst hz
  refine fn_after (role_none w0 sps rs) ?_
  rintro _ _ _ ⟨rfl, rfl, rfl⟩ W hs
  obtain ⟨s, r, h1, rfl, rfl⟩ := en_nilRd (Rep.slice (un .u8)) W hs
  exact ⟨_, _, h1, _, rfl, rfl, rfl⟩
end Go.Proofs.YtmodmjekhlnjpaaGreatDoor
namespace Go.Proofs.YtmodmjekhlnjpaaGreatDoor
open Go.RowKit Lf
set_option maxRecDepth 4000

noncomputable def lf_law16_own (K : Nat) (p0_0 : (List Nat)) (p0_1 : (List Nat)) (p0_2 : (List Nat)) (p0_3 : (List Nat)) (p0_4 : Int) : Option ((List Nat) × (List Nat) × (List Nat) × (List Nat) × Int) := (some (p0_0, p0_1, p0_2, p0_3, p0_4))
theorem lf_law16_own_ok (K : Nat) (p0_0 : (List Nat)) (p0_1 : (List Nat)) (p0_2 : (List Nat)) (p0_3 : (List Nat)) (p0_4 : Int) (vp0_0 : Value) (vp0_1 : Value) (vp0_2 : Value) (vp0_3 : Value) (w0 : World) (sps : List Sp) (rs : List Fa) (hv_p0_0 : Rd (un .u8) vp0_0 p0_0 ∈ rs) (hv_p0_1 : Rd (un .u8) vp0_1 p0_1 ∈ rs) (hv_p0_2 : Rd (un .u8) vp0_2 p0_2 ∈ rs) (hv_p0_3 : Rd (un .u8) vp0_3 p0_3 ∈ rs) {r0 : (List Nat)} {r1 : (List Nat)} {r2 : (List Nat)} {r3 : (List Nat)} {r4 : Int} (h : lf_law16_own K p0_0 p0_1 p0_2 p0_3 p0_4 = some (r0, r1, r2, r3, r4)) : FnOk Tryz.prog 10 #[.agg #[vp0_0, vp0_1, vp0_2, vp0_3, .int .i64 p0_4]] w0 sps rs (fun v s q => ∃ (qr0 : Value) (qr1 : Value) (qr2 : Value) (qr3 : Value), v = .agg #[qr0, qr1, qr2, qr3, .int .i64 r4] ∧ sps = s ∧ Rd (un .u8) qr0 r0 :: Rd (un .u8) qr1 r1 :: Rd (un .u8) qr2 r2 :: Rd (un .u8) qr3 r3 :: rs = q) := by
  unfold lf_law16_own at h
  refine fn_en (en_shape hv_p0_0) ?_
  rintro _ _ ⟨rfl, rfl, Ap0_0, cp0_0, rfl, -, -, -⟩
  refine fn_en (en_shape hv_p0_1) ?_
  rintro _ _ ⟨rfl, rfl, Ap0_1, cp0_1, rfl, -, -, -⟩
  refine fn_en (en_shape hv_p0_2) ?_
  rintro _ _ ⟨rfl, rfl, Ap0_2, cp0_2, rfl, -, -, -⟩
  refine fn_en (en_shape hv_p0_3) ?_
  rintro _ _ ⟨rfl, rfl, Ap0_3, cp0_3, rfl, -, -, -⟩
  refine fn_enter Tryz.func10 rfl Tryz.ntmps10 rfl ?_
  refine cs_seq ?_
  refine cs_seq_region [0, 1] rfl ?_
  refine c_box (cs := [(.slice Ap0_0 p0_0.length cp0_0), (.slice Ap0_1 p0_1.length cp0_1), (.slice Ap0_2 p0_2.length cp0_2), (.slice Ap0_3 p0_3.length cp0_3), (.int .i64 p0_4)]) rfl rfl rfl rfl rfl (fun _ => Or.inl rfl) (fun g1 => ?_)
  refine c_alloc (cs := [(.slice none 0 0), (.slice none 0 0), (.slice none 0 0), (.slice none 0 0), (.int .i64 (0 : Int))]) rfl rfl rfl rfl Tryz.zeroValue33 rfl (fun _ => Or.inl rfl) (fun g2 => ?_)
  refine can_nil ?_
  refine ps_then ?_
  refine cs_seq ?_
  refine cs_seq_region [0, 1, 2, 3, 4, 5, 6, 7, 8, 9, 10, 11] rfl ?_
  refine c_fieldAddr rfl rfl rfl rfl Tryz.underlying24 rfl Tryz.sizeOf22 rfl rfl ?_
  refine c_load1 (v := (.slice Ap0_0 p0_0.length cp0_0)) rfl rfl rfl Tryz.isAgg22 rfl (ldS rfl rfl (.tail _ (.head _)) (sub1 rfl)) ?_
  refine c_fieldAddr rfl rfl rfl rfl Tryz.underlying24 rfl Tryz.sizeOf22 rfl rfl ?_
  refine c_load1 (v := (.slice Ap0_1 p0_1.length cp0_1)) rfl rfl rfl Tryz.isAgg22 rfl (ldS rfl rfl (.tail _ (.head _)) (sub1 rfl)) ?_
  refine c_fieldAddr rfl rfl rfl rfl Tryz.underlying24 rfl Tryz.sizeOf22 rfl rfl ?_
  refine c_load1 (v := (.slice Ap0_2 p0_2.length cp0_2)) rfl rfl rfl Tryz.isAgg22 rfl (ldS rfl rfl (.tail _ (.head _)) (sub1 rfl)) ?_
  refine c_fieldAddr rfl rfl rfl rfl Tryz.underlying24 rfl Tryz.sizeOf22 rfl rfl ?_
  refine c_load1 (v := (.slice Ap0_3 p0_3.length cp0_3)) rfl rfl rfl Tryz.isAgg22 rfl (ldS rfl rfl (.tail _ (.head _)) (sub1 rfl)) ?_
  refine c_fieldAddr rfl rfl rfl rfl Tryz.underlying24 rfl Tryz.sizeOf2 rfl rfl ?_
  refine c_load1 (v := (.int .i64 p0_4)) rfl rfl rfl Tryz.isAgg2 rfl (ldS rfl rfl (.tail _ (.head _)) (sub1 rfl)) ?_
  refine c_buildS (cs := [(.slice Ap0_0 p0_0.length cp0_0), (.slice Ap0_1 p0_1.length cp0_1), (.slice Ap0_2 p0_2.length cp0_2), (.slice Ap0_3 p0_3.length cp0_3), (.int .i64 p0_4)]) rfl rfl rfl rfl Tryz.underlying33 Tryz.zeroValue33 (by intro w; simp [Tryz.sizeOf2, Tryz.sizeOf22]; rfl) rfl rfl ?_
  refine c_storeN (cs := [(.slice Ap0_0 p0_0.length cp0_0), (.slice Ap0_1 p0_1.length cp0_1), (.slice Ap0_2 p0_2.length cp0_2), (.slice Ap0_3 p0_3.length cp0_3), (.int .i64 p0_4)]) rfl rfl rfl Tryz.sizeOf33 rfl rfl Foc.here rfl rfl (by exact Nat.le_of_ble_eq_true rfl) rfl rfl (Or.inl rfl) ?_
  refine can_nil ?_
  refine ps_then ?_
  refine cs_ret ?_
  have hz0 := Option.some.inj h
  obtain ⟨rfl, hz1⟩ := prod2 hz0
  obtain ⟨rfl, hz2⟩ := prod2 hz1
  obtain ⟨rfl, hz3⟩ := prod2 hz2
  obtain ⟨rfl, hz4⟩ := prod2 hz3
  obtain rfl := hz4
  refine ps_en (en_arr (sps' := Bk g2 [(.slice Ap0_0 p0_0.length cp0_0), (.slice Ap0_1 p0_1.length cp0_1), (.slice Ap0_2 p0_2.length cp0_2), (.slice Ap0_3 p0_3.length cp0_3), (.int .i64 p0_4)] 33 :: sps) (Arr.cons Rem.here (Arr.sub (List.Sublist.cons _ (List.Sublist.refl _))))) ?_
  rintro _ _ ⟨rfl, rfl⟩
  refine ps_en (en_keep (Rd (un .u8) (.slice Ap0_0 p0_0.length cp0_0) p0_0 :: Rd (un .u8) (.slice Ap0_1 p0_1.length cp0_1) p0_1 :: Rd (un .u8) (.slice Ap0_2 p0_2.length cp0_2) p0_2 :: Rd (un .u8) (.slice Ap0_3 p0_3.length cp0_3) p0_3 :: rs) (List.forall_mem_cons.2 ⟨hv_p0_0, List.forall_mem_cons.2 ⟨hv_p0_1, List.forall_mem_cons.2 ⟨hv_p0_2, List.forall_mem_cons.2 ⟨hv_p0_3, fun r hr => hr⟩⟩⟩⟩)) ?_
  rintro _ _ ⟨rfl, rfl⟩
  apply ps_res1 rfl Tryz.results10 (res_cellN Tryz.isAgg33 Tryz.sizeOf33 rfl (.head _) rfl)
  · exact ⟨_, _, _, _, rfl, rfl, rfl⟩
  · exact .mk (.cons .refl) .refl
noncomputable def lf_law16_known (K : Nat)  : Option Bool := ((lf_press_Role K ([] : List (List Nat)) (0 : Int)).bind (fun qy1 => un2 qy1 (fun y1 => fun qy2 => un2 qy2 (fun y2 => fun y3 => ((lf_press_Answer K ([] : List Nat) ([] : List Nat) ([] : List Nat) ([] : List Nat) (0 : Int) ([] : List (List Nat)) (0 : Int) (0 : Int) (0 : Int)).bind (fun qy4 => un2 qy4 (fun y4 => fun y5 => ((lf_press_Answer K ([5] : List Nat) ([] : List Nat) ([] : List Nat) ([] : List Nat) (0 : Int) ([] : List (List Nat)) (2 : Int) (0 : Int) (0 : Int)).bind (fun qy6 => un2 qy6 (fun y6 => fun y7 => (bif (decide (y3 = (80 : Int))) then (bif (decide (y5 = (1 : Int))) then (bif (decide (y7 = (0 : Int))) then ((lf_ref01_SameBytes K y6 ([5] : List Nat)).bind (fun y8 => (some y8))) else (some false)) else (some false)) else (some false))))))))))))
theorem lf_law16_known_ok (K : Nat)   (w0 : World) (sps : List Sp) (rs : List Fa) (hct : Cl 8 0 constsV ∈ rs) (hst : Cl 7 0 startsV ∈ rs) {r0 : Bool} (h : lf_law16_known K  = some r0) : FnOk Tryz.prog 8 #[] w0 sps rs (fun v s q => v = .bool r0 ∧ sps = s ∧ rs = q) := by
  unfold lf_law16_known at h
  refine fn_enter Tryz.func8 rfl Tryz.ntmps8 rfl ?_
  refine cs_seq ?_
  refine cs_seq_region [0] rfl ?_
  refine c_assign rfl rfl rfl rfl (v := (.bool false)) rfl ?_
  refine can_nil ?_
  refine ps_then ?_
  refine cs_seq ?_
  refine cs_seq_region [0, 1, 2, 3, 4, 5, 6, 7] rfl ?_
  refine c_buildS (cs := [(.slice none 0 0), (.int .i64 (0 : Int))]) rfl rfl rfl rfl Tryz.underlying49 Tryz.zeroValue49 (by intro w; simp [Tryz.sizeOf2, Tryz.sizeOf25]; rfl) rfl rfl ?_
  refine can_en (en_nilRd (Rep.slice (un .u8))) ?_
  rintro _ _ ⟨rfl, rfl⟩
  obtain ⟨⟨y1, y2, y3⟩, hy1, h⟩ := bnd h
  replace h := un2_ h
  replace h := un2_ h
  refine c_call rfl rfl rfl rfl Tryz.call16 (lf_press_Role_ok K ([] : List (List Nat)) (0 : Int) (.slice none 0 0) w0 _ _ (.head _) rfl hy1) rfl (fun _ _ _ _ => Or.inl rfl) ?_
  rintro _ _ _ ⟨v1, rfl, rfl, rfl⟩
  refine can_en (en_shape (xs := y1) (.head _)) ?_
  rintro _ _ ⟨rfl, rfl, A1, c1, rfl, -, -, -⟩
  refine c_move rfl rfl rfl rfl (v := (.tuple #[(.agg #[(.slice A1 y1.length c1), (.int .i64 y2)]), (.int .i64 y3)])) rfl ?_
  refine c_extract rfl rfl rfl rfl rfl rfl ?_
  refine c_extract rfl rfl rfl rfl rfl rfl ?_
  refine c_alloc (cs := [(.slice none 0 0), (.int .i64 (0 : Int))]) rfl rfl rfl rfl Tryz.zeroValue46 rfl (fun _ => Or.inl rfl) (fun g1 => ?_)
  refine c_storeN (cs := [(.slice A1 y1.length c1), (.int .i64 y2)]) rfl rfl rfl Tryz.sizeOf46 rfl rfl Foc.here rfl rfl (by exact Nat.le_of_ble_eq_true rfl) rfl rfl (Or.inl rfl) ?_
  refine c_assign rfl rfl rfl rfl (v := (.int .i64 y3)) rfl ?_
  refine can_nil ?_
  refine ps_then ?_
  refine cs_seq ?_
  refine cs_seq_region [0, 1, 2, 3, 4, 5, 6, 7] rfl ?_
  refine c_buildS (cs := [(.slice none 0 0), (.slice none 0 0), (.slice none 0 0), (.slice none 0 0), (.int .i64 (0 : Int))]) rfl rfl rfl rfl Tryz.underlying33 Tryz.zeroValue33 (by intro w; simp [Tryz.sizeOf2, Tryz.sizeOf22]; rfl) rfl rfl ?_
  refine c_buildS (cs := [(.int .i64 (0 : Int)), (.int .i64 (0 : Int)), (.int .i64 (0 : Int))]) rfl rfl rfl rfl Tryz.underlying35 Tryz.zeroValue35 (by intro w; simp [Tryz.sizeOf2, Tryz.sizeOf3]; rfl) rfl rfl ?_
  refine can_en (en_nilRd (un .u8)) ?_
  rintro _ _ ⟨rfl, rfl⟩
  obtain ⟨⟨y4, y5⟩, hy2, h⟩ := bnd h
  replace h := un2_ h
  refine c_call rfl rfl rfl rfl Tryz.call9 (lf_press_Answer_ok K ([] : List Nat) ([] : List Nat) ([] : List Nat) ([] : List Nat) (0 : Int) ([] : List (List Nat)) (0 : Int) (0 : Int) (0 : Int) (.slice none 0 0) (.slice none 0 0) (.slice none 0 0) (.slice none 0 0) (.slice none 0 0) w0 _ _ (.head _) (.head _) (.head _) (.head _) (.tail _ (.tail _ (.head _))) (.tail _ (.tail _ (.tail _ hct))) (.tail _ (.tail _ (.tail _ hst))) hy2) rfl (fun _ _ _ _ => Or.inl rfl) ?_
  rintro _ _ _ ⟨v2, rfl, rfl, rfl⟩
  refine can_en (en_shape (xs := y4) (.head _)) ?_
  rintro _ _ ⟨rfl, rfl, A2, c2, rfl, -, -, -⟩
  refine c_move rfl rfl rfl rfl (v := (.tuple #[(.slice A2 y4.length c2), (.int .i64 y5)])) rfl ?_
  refine c_extract rfl rfl rfl rfl rfl rfl ?_
  refine c_extract rfl rfl rfl rfl rfl rfl ?_
  refine c_assign rfl rfl rfl rfl (v := (.slice A2 y4.length c2)) rfl ?_
  refine c_assign rfl rfl rfl rfl (v := (.int .i64 y5)) rfl ?_
  refine can_nil ?_
  refine ps_then ?_
  refine cs_seq ?_
  refine cs_seq_region [0, 1, 2, 3, 4, 5, 6, 7, 8] rfl ?_
  refine c_lit (cs := [(.int .u8 ((5 : Nat) : Int))]) rfl rfl rfl rfl Tryz.underlying22 Tryz.sizeOf5 Tryz.zeroValue5 rfl rfl rfl rfl rfl (fun _ => Or.inl rfl) (fun g2 => ?_)
  refine can_en (en_litRow (m := 1) (dr := (un .u8)) (xs := ([5] : List Nat)) Rem.here (fun hh hr => un_reps _) rfl rfl) ?_
  rintro _ _ ⟨rfl, rfl⟩
  refine c_buildS (cs := [(.slice (some ⟨g2, 0, none⟩) 1 1), (.slice none 0 0), (.slice none 0 0), (.slice none 0 0), (.int .i64 (0 : Int))]) rfl rfl rfl rfl Tryz.underlying33 Tryz.zeroValue33 (by intro w; simp [Tryz.sizeOf2, Tryz.sizeOf22]; rfl) rfl rfl ?_
  refine c_buildS (cs := [(.int .i64 (2 : Int)), (.int .i64 (0 : Int)), (.int .i64 (0 : Int))]) rfl rfl rfl rfl Tryz.underlying35 Tryz.zeroValue35 (by intro w; simp [Tryz.sizeOf2, Tryz.sizeOf3]; rfl) rfl rfl ?_
  refine can_en (en_give Rem.here) ?_
  rintro _ _ ⟨rfl, rfl⟩
  obtain ⟨⟨y6, y7⟩, hy3, h⟩ := bnd h
  replace h := un2_ h
  refine c_call rfl rfl rfl rfl Tryz.call9 (lf_press_Answer_ok K ([5] : List Nat) ([] : List Nat) ([] : List Nat) ([] : List Nat) (0 : Int) ([] : List (List Nat)) (2 : Int) (0 : Int) (0 : Int) (.slice (some ⟨g2, 0, none⟩) 1 1) (.slice none 0 0) (.slice none 0 0) (.slice none 0 0) (.slice none 0 0) w0 _ _ (.head _) (.tail _ (.tail _ (.head _))) (.tail _ (.tail _ (.head _))) (.tail _ (.tail _ (.head _))) (.tail _ (.tail _ (.tail _ (.tail _ (.head _))))) (.tail _ (.tail _ (.tail _ (.tail _ (.tail _ hct))))) (.tail _ (.tail _ (.tail _ (.tail _ (.tail _ hst))))) hy3) rfl (fun _ _ _ _ => Or.inl rfl) ?_
  rintro _ _ _ ⟨v3, rfl, rfl, rfl⟩
  refine can_en (en_shape (xs := y6) (.head _)) ?_
  rintro _ _ ⟨rfl, rfl, A3, c3, rfl, -, -, -⟩
  refine c_move rfl rfl rfl rfl (v := (.tuple #[(.slice A3 y6.length c3), (.int .i64 y7)])) rfl ?_
  refine c_extract rfl rfl rfl rfl rfl rfl ?_
  refine c_extract rfl rfl rfl rfl rfl rfl ?_
  refine c_assign rfl rfl rfl rfl (v := (.slice A3 y6.length c3)) rfl ?_
  refine c_assign rfl rfl rfl rfl (v := (.int .i64 y7)) rfl ?_
  refine can_nil ?_
  refine ps_then ?_
  refine cs_seq ?_
  refine cs_seq_region [0, 1, 2, 3, 4, 5, 6, 7, 8, 9, 10, 11, 12, 13, 14, 15] rfl ?_
  refine c_move rfl rfl rfl rfl (v := (.int .i64 y3)) rfl ?_
  refine l_eqlI (p := y3) (q := (80 : Int)) rfl rfl rfl rfl rfl rfl ?_
  refine c_move rfl rfl rfl rfl (v := (.bool (decide (y3 = (80 : Int))))) rfl ?_
  refine can_splitL 27 (b := (decide (y3 = (80 : Int)))) rfl h (fun hg1 h => ?_) (fun hg1 h => ?_)
  · refine c_move rfl rfl rfl rfl (v := (.int .i64 y5)) rfl ?_
    refine l_eqlI (p := y5) (q := (1 : Int)) rfl rfl rfl rfl rfl rfl ?_
    refine c_pick rfl rfl rfl rfl rfl (by conv => lhs; whnf) ?_
    refine c_move rfl rfl rfl rfl (v := (.bool (decide (y5 = (1 : Int))))) rfl ?_
    refine can_splitL 31 (b := (decide (y5 = (1 : Int)))) rfl h (fun hg2 h => ?_) (fun hg2 h => ?_)
    · refine c_move rfl rfl rfl rfl (v := (.int .i64 y7)) rfl ?_
      refine l_eqlI (p := y7) (q := (0 : Int)) rfl rfl rfl rfl rfl rfl ?_
      refine c_pick rfl rfl rfl rfl rfl (by conv => lhs; whnf) ?_
      refine c_move rfl rfl rfl rfl (v := (.bool (decide (y7 = (0 : Int))))) rfl ?_
      refine can_splitL 35 (b := (decide (y7 = (0 : Int)))) rfl h (fun hg3 h => ?_) (fun hg3 h => ?_)
      · refine c_move rfl rfl rfl rfl (v := (.slice A3 y6.length c3)) rfl ?_
        refine c_lit (cs := [(.int .u8 ((5 : Nat) : Int))]) rfl rfl rfl rfl Tryz.underlying22 Tryz.sizeOf5 Tryz.zeroValue5 rfl rfl rfl rfl rfl (fun _ => Or.inl rfl) (fun g3 => ?_)
        refine can_en (en_litRow (m := 1) (dr := (un .u8)) (xs := ([5] : List Nat)) Rem.here (fun hh hr => un_reps _) rfl rfl) ?_
        rintro _ _ ⟨rfl, rfl⟩
        refine can_en (en_give Rem.here) ?_
        rintro _ _ ⟨rfl, rfl⟩
        obtain ⟨y8, hy4, h⟩ := bnd h
        refine c_call rfl rfl rfl rfl Tryz.call14 (lf_ref01_SameBytes_ok K y6 ([5] : List Nat) (.slice A3 y6.length c3) (.slice (some ⟨g3, 0, none⟩) 1 1) w0 _ _ (.tail _ (.head _)) (.head _) hy4) rfl (fun _ _ _ _ => Or.inl rfl) ?_
        rintro _ _ _ ⟨rfl, rfl, rfl⟩
        refine c_pick rfl rfl rfl rfl rfl (by conv => lhs; whnf) ?_
        refine c_assign rfl rfl rfl rfl (v := (.bool y8)) rfl ?_
        refine can_nil ?_
        refine ps_then ?_
        refine cs_ret ?_
        obtain rfl := Option.some.inj h
        refine ps_en (en_arr (sps' := sps) (Arr.sub (List.Sublist.cons _ (List.Sublist.refl _)))) ?_
        rintro _ _ ⟨rfl, rfl⟩
        refine ps_en (en_keep (rs) (fun r hr => (.tail _ (.tail _ (.tail _ (.tail _ (.tail _ (.tail _ (.tail _ hr))))))))) ?_
        rintro _ _ ⟨rfl, rfl⟩
        apply ps_end1 rfl Tryz.results8 rfl
        · exact ⟨rfl, rfl, rfl⟩
        · exact .mk .refl .refl
      · refine can_skip rfl rfl rfl (Or.inl rfl) ?_
        refine can_skip rfl rfl rfl (Or.inl rfl) ?_
        refine can_skip rfl rfl rfl (Or.inl rfl) ?_
        refine c_pick rfl rfl rfl rfl rfl (by conv => lhs; whnf) ?_
        refine c_assign rfl rfl rfl rfl (v := (.bool false)) rfl ?_
        refine can_nil ?_
        refine ps_then ?_
        refine cs_ret ?_
        obtain rfl := Option.some.inj h
        refine ps_en (en_arr (sps' := sps) (Arr.sub (List.Sublist.cons _ (List.Sublist.refl _)))) ?_
        rintro _ _ ⟨rfl, rfl⟩
        refine ps_en (en_keep (rs) (fun r hr => (.tail _ (.tail _ (.tail _ (.tail _ (.tail _ (.tail _ hr)))))))) ?_
        rintro _ _ ⟨rfl, rfl⟩
        apply ps_end1 rfl Tryz.results8 rfl
        · exact ⟨rfl, rfl, rfl⟩
        · exact .mk .refl .refl
    · refine can_skip rfl rfl rfl (Or.inl rfl) ?_
      refine can_skip rfl rfl rfl (Or.inl rfl) ?_
      refine c_pick rfl rfl rfl rfl rfl (by conv => lhs; whnf) ?_
      refine c_move rfl rfl rfl rfl (v := (.bool false)) rfl ?_
      refine can_skip rfl rfl rfl (Or.inl rfl) ?_
      refine can_skip rfl rfl rfl (Or.inl rfl) ?_
      refine can_skip rfl rfl rfl (Or.inl rfl) ?_
      refine c_pick rfl rfl rfl rfl rfl (by conv => lhs; whnf) ?_
      refine c_assign rfl rfl rfl rfl (v := (.bool false)) rfl ?_
      refine can_nil ?_
      refine ps_then ?_
      refine cs_ret ?_
      obtain rfl := Option.some.inj h
      refine ps_en (en_arr (sps' := sps) (Arr.sub (List.Sublist.cons _ (List.Sublist.refl _)))) ?_
      rintro _ _ ⟨rfl, rfl⟩
      refine ps_en (en_keep (rs) (fun r hr => (.tail _ (.tail _ (.tail _ (.tail _ (.tail _ (.tail _ hr)))))))) ?_
      rintro _ _ ⟨rfl, rfl⟩
      apply ps_end1 rfl Tryz.results8 rfl
      · exact ⟨rfl, rfl, rfl⟩
      · exact .mk .refl .refl
  · refine can_skip rfl rfl rfl (Or.inl rfl) ?_
    refine can_skip rfl rfl rfl (Or.inl rfl) ?_
    refine c_pick rfl rfl rfl rfl rfl (by conv => lhs; whnf) ?_
    refine c_move rfl rfl rfl rfl (v := (.bool false)) rfl ?_
    refine can_skip rfl rfl rfl (Or.inl rfl) ?_
    refine can_skip rfl rfl rfl (Or.inl rfl) ?_
    refine c_pick rfl rfl rfl rfl rfl (by conv => lhs; whnf) ?_
    refine c_move rfl rfl rfl rfl (v := (.bool false)) rfl ?_
    refine can_skip rfl rfl rfl (Or.inl rfl) ?_
    refine can_skip rfl rfl rfl (Or.inl rfl) ?_
    refine can_skip rfl rfl rfl (Or.inl rfl) ?_
    refine c_pick rfl rfl rfl rfl rfl (by conv => lhs; whnf) ?_
    refine c_assign rfl rfl rfl rfl (v := (.bool false)) rfl ?_
    refine can_nil ?_
    refine ps_then ?_
    refine cs_ret ?_
    obtain rfl := Option.some.inj h
    refine ps_en (en_arr (sps' := sps) (Arr.sub (List.Sublist.cons _ (List.Sublist.refl _)))) ?_
    rintro _ _ ⟨rfl, rfl⟩
    refine ps_en (en_keep (rs) (fun r hr => (.tail _ (.tail _ (.tail _ (.tail _ (.tail _ (.tail _ hr)))))))) ?_
    rintro _ _ ⟨rfl, rfl⟩
    apply ps_end1 rfl Tryz.results8 rfl
    · exact ⟨rfl, rfl, rfl⟩
    · exact .mk .refl .refl
noncomputable def lf_law16_PressAnswers (K : Nat) (p0_0 : (List Nat)) (p0_1 : (List Nat)) (p0_2 : (List Nat)) (p0_3 : (List Nat)) (p0_4 : Int) (p1 : (List (List Nat))) (p2_0 : Int) (p2_1 : Int) (p2_2 : Int) : Option Bool := (bif (decide (((p0_0.length : Nat) : Int) > (1000 : Int))) then ((lf_law16_known K ).bind (fun y1 => (some y1))) else (bif (decide (((p0_1.length : Nat) : Int) > (1000 : Int))) then ((lf_law16_known K ).bind (fun y2 => (some y2))) else (bif (decide (((p0_2.length : Nat) : Int) > (1000 : Int))) then ((lf_law16_known K ).bind (fun y3 => (some y3))) else (bif (decide (((p0_3.length : Nat) : Int) > (6000 : Int))) then ((lf_law16_known K ).bind (fun y4 => (some y4))) else ((lf_ref06_Size K p1 (2000 : Int)).bind (fun y5 => (bif (decide (y5 > (2000 : Int))) then ((lf_law16_known K ).bind (fun y6 => (some y6))) else ((lf_law16_own K p0_0 p0_1 p0_2 p0_3 p0_4).bind (fun qy7 => un2 qy7 (fun y7 => fun qy8 => un2 qy8 (fun y8 => fun qy9 => un2 qy9 (fun y9 => fun qy10 => un2 qy10 (fun y10 => fun y11 => ((lf_press_Answer K y7 y8 y9 y10 y11 p1 p2_0 p2_1 p2_2).bind (fun qy12 => un2 qy12 (fun y12 => fun y13 => ((lf_ref16_Answer K p0_0 p0_1 p0_2 p0_3 p0_4 p1 p2_0 p2_1 p2_2).bind (fun qy14 => un2 qy14 (fun y14 => fun y15 => ((lf_law16_own K p0_0 p0_1 p0_2 p0_3 p0_4).bind (fun qy16 => un2 qy16 (fun y16 => fun qy17 => un2 qy17 (fun y17 => fun qy18 => un2 qy18 (fun y18 => fun qy19 => un2 qy19 (fun y19 => fun y20 => ((lf_press_Chunk K y16 y17 y18 y19 y20 p2_2).bind (fun qy21 => un2 qy21 (fun y21 => fun y22 => ((lf_ref16_Chunk K p0_0 p0_1 p0_2 p0_3 p0_4 p2_2).bind (fun qy23 => un2 qy23 (fun y23 => fun y24 => ((lf_ref01_SameBytes K y12 y14).bind (fun y25 => (bif y25 then (bif (decide (y13 = y15)) then ((lf_ref01_SameBytes K y21 y23).bind (fun y26 => (bif y26 then (bif (decide (y22 = y24)) then ((lf_law16_known K ).bind (fun y27 => (some y27))) else (some false)) else (some false)))) else (some false)) else (some false)))))))))))))))))))))))))))))))))))
theorem lf_law16_PressAnswers_ok (K : Nat) (p0_0 : (List Nat)) (p0_1 : (List Nat)) (p0_2 : (List Nat)) (p0_3 : (List Nat)) (p0_4 : Int) (p1 : (List (List Nat))) (p2_0 : Int) (p2_1 : Int) (p2_2 : Int) (vp0_0 : Value) (vp0_1 : Value) (vp0_2 : Value) (vp0_3 : Value) (vp1 : Value) (w0 : World) (sps : List Sp) (rs : List Fa) (hv_p0_0 : Rd (un .u8) vp0_0 p0_0 ∈ rs) (hv_p0_1 : Rd (un .u8) vp0_1 p0_1 ∈ rs) (hv_p0_2 : Rd (un .u8) vp0_2 p0_2 ∈ rs) (hv_p0_3 : Rd (un .u8) vp0_3 p0_3 ∈ rs) (hv_p1 : Rd (Rep.slice (un .u8)) vp1 p1 ∈ rs) (hct : Cl 8 0 constsV ∈ rs) (hst : Cl 7 0 startsV ∈ rs) {r0 : Bool} (h : lf_law16_PressAnswers K p0_0 p0_1 p0_2 p0_3 p0_4 p1 p2_0 p2_1 p2_2 = some r0) : FnOk Tryz.prog 3 #[.agg #[vp0_0, vp0_1, vp0_2, vp0_3, .int .i64 p0_4], vp1, .agg #[.int .i64 p2_0, .int .i64 p2_1, .int .i64 p2_2]] w0 sps rs (fun v s q => v = .bool r0 ∧ sps = s ∧ rs = q) := by
  unfold lf_law16_PressAnswers at h
  refine fn_en (en_shape hv_p0_0) ?_
  rintro _ _ ⟨rfl, rfl, Ap0_0, cp0_0, rfl, -, -, -⟩
  refine fn_en (en_shape hv_p0_1) ?_
  rintro _ _ ⟨rfl, rfl, Ap0_1, cp0_1, rfl, -, -, -⟩
  refine fn_en (en_shape hv_p0_2) ?_
  rintro _ _ ⟨rfl, rfl, Ap0_2, cp0_2, rfl, -, -, -⟩
  refine fn_en (en_shape hv_p0_3) ?_
  rintro _ _ ⟨rfl, rfl, Ap0_3, cp0_3, rfl, -, -, -⟩
  refine fn_en (en_shape hv_p1) ?_
  rintro _ _ ⟨rfl, rfl, Ap1, cp1, rfl, -, -, -⟩
  refine fn_enter Tryz.func3 rfl Tryz.ntmps3 rfl ?_
  refine cs_seq ?_
  refine cs_seq_region [0, 1, 2] rfl ?_
  refine c_box (cs := [(.slice Ap0_0 p0_0.length cp0_0), (.slice Ap0_1 p0_1.length cp0_1), (.slice Ap0_2 p0_2.length cp0_2), (.slice Ap0_3 p0_3.length cp0_3), (.int .i64 p0_4)]) rfl rfl rfl rfl rfl (fun _ => Or.inl rfl) (fun g1 => ?_)
  refine c_box (cs := [(.int .i64 p2_0), (.int .i64 p2_1), (.int .i64 p2_2)]) rfl rfl rfl rfl rfl (fun _ => Or.inl rfl) (fun g2 => ?_)
  refine c_assign rfl rfl rfl rfl (v := (.bool false)) rfl ?_
  refine can_nil ?_
  refine ps_then ?_
  refine cs_seq ?_
  refine cs_seq ?_
  refine cs_seq_region [0, 1, 2, 3, 4, 5, 6, 7, 8, 9, 10, 11, 12, 13, 14, 15, 16, 17, 18, 19, 20, 21, 22, 23, 24, 25, 26] rfl ?_
  refine c_fieldAddr rfl rfl rfl rfl Tryz.underlying24 rfl Tryz.sizeOf22 rfl rfl ?_
  refine c_load1 (v := (.slice Ap0_0 p0_0.length cp0_0)) rfl rfl rfl Tryz.isAgg22 rfl (ldS rfl rfl (.tail _ (.head _)) (sub1 rfl)) ?_
  refine l_len (m := p0_0.length) rfl rfl rfl rfl Tryz.underlying22 rfl ?_
  refine c_gtr (p := ((p0_0.length : Nat) : Int)) (q := (1000 : Int)) rfl rfl rfl rfl rfl rfl ?_
  refine c_move rfl rfl rfl rfl (v := (.bool (decide (((p0_0.length : Nat) : Int) > (1000 : Int))))) rfl ?_
  refine can_splitL 19 (b := (decide (((p0_0.length : Nat) : Int) > (1000 : Int)))) rfl h (fun hg1 h => ?_) (fun hg1 h => ?_)
  · refine can_skip rfl rfl rfl (Or.inl rfl) ?_
    refine can_skip rfl rfl rfl (Or.inl rfl) ?_
    refine can_skip rfl rfl rfl (Or.inl rfl) ?_
    refine can_skip rfl rfl rfl (Or.inl rfl) ?_
    refine c_pick rfl rfl rfl rfl rfl (by conv => lhs; whnf) ?_
    refine c_move rfl rfl rfl rfl (v := (.bool true)) rfl ?_
    refine can_skip rfl rfl rfl (Or.inl rfl) ?_
    refine can_skip rfl rfl rfl (Or.inl rfl) ?_
    refine can_skip rfl rfl rfl (Or.inl rfl) ?_
    refine can_skip rfl rfl rfl (Or.inl rfl) ?_
    refine c_pick rfl rfl rfl rfl rfl (by conv => lhs; whnf) ?_
    refine c_move rfl rfl rfl rfl (v := (.bool true)) rfl ?_
    refine can_skip rfl rfl rfl (Or.inl rfl) ?_
    refine can_skip rfl rfl rfl (Or.inl rfl) ?_
    refine can_skip rfl rfl rfl (Or.inl rfl) ?_
    refine can_skip rfl rfl rfl (Or.inl rfl) ?_
    refine c_pick rfl rfl rfl rfl rfl (by conv => lhs; whnf) ?_
    refine c_move rfl rfl rfl rfl (v := (.bool true)) rfl ?_
    refine can_skip rfl rfl rfl (Or.inl rfl) ?_
    refine can_skip rfl rfl rfl (Or.inl rfl) ?_
    refine can_skip rfl rfl rfl (Or.inl rfl) ?_
    refine c_pick rfl rfl rfl rfl rfl (by conv => lhs; whnf) ?_
    refine can_nil ?_
    refine ps_then ?_
    refine cs_true rfl ?_
    refine cs_seq ?_
    refine cs_seq_region [0, 1] rfl ?_
    obtain ⟨y1, hy1, h⟩ := bnd h
    refine c_call rfl rfl rfl rfl Tryz.call8 (lf_law16_known_ok K   w0 _ _ hct hst hy1) rfl (fun _ _ _ _ => Or.inl rfl) ?_
    rintro _ _ _ ⟨rfl, rfl, rfl⟩
    refine c_assign rfl rfl rfl rfl (v := (.bool y1)) rfl ?_
    refine can_nil ?_
    refine ps_then ?_
    refine cs_ret ?_
    refine ps_then_ret ?_
    obtain rfl := Option.some.inj h
    refine ps_en (en_arr (sps' := sps) (Arr.sub (List.Sublist.cons _ (List.Sublist.cons _ (List.Sublist.refl _))))) ?_
    rintro _ _ ⟨rfl, rfl⟩
    refine ps_en (en_keep (rs) (fun r hr => hr)) ?_
    rintro _ _ ⟨rfl, rfl⟩
    apply ps_end1 rfl Tryz.results3 rfl
    · exact ⟨rfl, rfl, rfl⟩
    · exact .mk .refl .refl
  · refine c_fieldAddr rfl rfl rfl rfl Tryz.underlying24 rfl Tryz.sizeOf22 rfl rfl ?_
    refine c_load1 (v := (.slice Ap0_1 p0_1.length cp0_1)) rfl rfl rfl Tryz.isAgg22 rfl (ldS rfl rfl (.tail _ (.head _)) (sub1 rfl)) ?_
    refine l_len (m := p0_1.length) rfl rfl rfl rfl Tryz.underlying22 rfl ?_
    refine c_gtr (p := ((p0_1.length : Nat) : Int)) (q := (1000 : Int)) rfl rfl rfl rfl rfl rfl ?_
    refine c_pick rfl rfl rfl rfl rfl (by conv => lhs; whnf) ?_
    refine c_move rfl rfl rfl rfl (v := (.bool (decide (((p0_1.length : Nat) : Int) > (1000 : Int))))) rfl ?_
    refine can_splitL 25 (b := (decide (((p0_1.length : Nat) : Int) > (1000 : Int)))) rfl h (fun hg2 h => ?_) (fun hg2 h => ?_)
    · refine can_skip rfl rfl rfl (Or.inl rfl) ?_
      refine can_skip rfl rfl rfl (Or.inl rfl) ?_
      refine can_skip rfl rfl rfl (Or.inl rfl) ?_
      refine can_skip rfl rfl rfl (Or.inl rfl) ?_
      refine c_pick rfl rfl rfl rfl rfl (by conv => lhs; whnf) ?_
      refine c_move rfl rfl rfl rfl (v := (.bool true)) rfl ?_
      refine can_skip rfl rfl rfl (Or.inl rfl) ?_
      refine can_skip rfl rfl rfl (Or.inl rfl) ?_
      refine can_skip rfl rfl rfl (Or.inl rfl) ?_
      refine can_skip rfl rfl rfl (Or.inl rfl) ?_
      refine c_pick rfl rfl rfl rfl rfl (by conv => lhs; whnf) ?_
      refine c_move rfl rfl rfl rfl (v := (.bool true)) rfl ?_
      refine can_skip rfl rfl rfl (Or.inl rfl) ?_
      refine can_skip rfl rfl rfl (Or.inl rfl) ?_
      refine can_skip rfl rfl rfl (Or.inl rfl) ?_
      refine c_pick rfl rfl rfl rfl rfl (by conv => lhs; whnf) ?_
      refine can_nil ?_
      refine ps_then ?_
      refine cs_true rfl ?_
      refine cs_seq ?_
      refine cs_seq_region [0, 1] rfl ?_
      obtain ⟨y2, hy2, h⟩ := bnd h
      refine c_call rfl rfl rfl rfl Tryz.call8 (lf_law16_known_ok K   w0 _ _ hct hst hy2) rfl (fun _ _ _ _ => Or.inl rfl) ?_
      rintro _ _ _ ⟨rfl, rfl, rfl⟩
      refine c_assign rfl rfl rfl rfl (v := (.bool y2)) rfl ?_
      refine can_nil ?_
      refine ps_then ?_
      refine cs_ret ?_
      refine ps_then_ret ?_
      obtain rfl := Option.some.inj h
      refine ps_en (en_arr (sps' := sps) (Arr.sub (List.Sublist.cons _ (List.Sublist.cons _ (List.Sublist.refl _))))) ?_
      rintro _ _ ⟨rfl, rfl⟩
      refine ps_en (en_keep (rs) (fun r hr => hr)) ?_
      rintro _ _ ⟨rfl, rfl⟩
      apply ps_end1 rfl Tryz.results3 rfl
      · exact ⟨rfl, rfl, rfl⟩
      · exact .mk .refl .refl
    · refine c_fieldAddr rfl rfl rfl rfl Tryz.underlying24 rfl Tryz.sizeOf22 rfl rfl ?_
      refine c_load1 (v := (.slice Ap0_2 p0_2.length cp0_2)) rfl rfl rfl Tryz.isAgg22 rfl (ldS rfl rfl (.tail _ (.head _)) (sub1 rfl)) ?_
      refine l_len (m := p0_2.length) rfl rfl rfl rfl Tryz.underlying22 rfl ?_
      refine c_gtr (p := ((p0_2.length : Nat) : Int)) (q := (1000 : Int)) rfl rfl rfl rfl rfl rfl ?_
      refine c_pick rfl rfl rfl rfl rfl (by conv => lhs; whnf) ?_
      refine c_move rfl rfl rfl rfl (v := (.bool (decide (((p0_2.length : Nat) : Int) > (1000 : Int))))) rfl ?_
      refine can_splitL 31 (b := (decide (((p0_2.length : Nat) : Int) > (1000 : Int)))) rfl h (fun hg3 h => ?_) (fun hg3 h => ?_)
      · refine can_skip rfl rfl rfl (Or.inl rfl) ?_
        refine can_skip rfl rfl rfl (Or.inl rfl) ?_
        refine can_skip rfl rfl rfl (Or.inl rfl) ?_
        refine can_skip rfl rfl rfl (Or.inl rfl) ?_
        refine c_pick rfl rfl rfl rfl rfl (by conv => lhs; whnf) ?_
        refine c_move rfl rfl rfl rfl (v := (.bool true)) rfl ?_
        refine can_skip rfl rfl rfl (Or.inl rfl) ?_
        refine can_skip rfl rfl rfl (Or.inl rfl) ?_
        refine can_skip rfl rfl rfl (Or.inl rfl) ?_
        refine c_pick rfl rfl rfl rfl rfl (by conv => lhs; whnf) ?_
        refine can_nil ?_
        refine ps_then ?_
        refine cs_true rfl ?_
        refine cs_seq ?_
        refine cs_seq_region [0, 1] rfl ?_
        obtain ⟨y3, hy3, h⟩ := bnd h
        refine c_call rfl rfl rfl rfl Tryz.call8 (lf_law16_known_ok K   w0 _ _ hct hst hy3) rfl (fun _ _ _ _ => Or.inl rfl) ?_
        rintro _ _ _ ⟨rfl, rfl, rfl⟩
        refine c_assign rfl rfl rfl rfl (v := (.bool y3)) rfl ?_
        refine can_nil ?_
        refine ps_then ?_
        refine cs_ret ?_
        refine ps_then_ret ?_
        obtain rfl := Option.some.inj h
        refine ps_en (en_arr (sps' := sps) (Arr.sub (List.Sublist.cons _ (List.Sublist.cons _ (List.Sublist.refl _))))) ?_
        rintro _ _ ⟨rfl, rfl⟩
        refine ps_en (en_keep (rs) (fun r hr => hr)) ?_
        rintro _ _ ⟨rfl, rfl⟩
        apply ps_end1 rfl Tryz.results3 rfl
        · exact ⟨rfl, rfl, rfl⟩
        · exact .mk .refl .refl
      · refine c_fieldAddr rfl rfl rfl rfl Tryz.underlying24 rfl Tryz.sizeOf22 rfl rfl ?_
        refine c_load1 (v := (.slice Ap0_3 p0_3.length cp0_3)) rfl rfl rfl Tryz.isAgg22 rfl (ldS rfl rfl (.tail _ (.head _)) (sub1 rfl)) ?_
        refine l_len (m := p0_3.length) rfl rfl rfl rfl Tryz.underlying22 rfl ?_
        refine c_gtr (p := ((p0_3.length : Nat) : Int)) (q := (6000 : Int)) rfl rfl rfl rfl rfl rfl ?_
        refine c_pick rfl rfl rfl rfl rfl (by conv => lhs; whnf) ?_
        refine c_move rfl rfl rfl rfl (v := (.bool (decide (((p0_3.length : Nat) : Int) > (6000 : Int))))) rfl ?_
        refine can_splitL 37 (b := (decide (((p0_3.length : Nat) : Int) > (6000 : Int)))) rfl h (fun hg4 h => ?_) (fun hg4 h => ?_)
        · refine can_skip rfl rfl rfl (Or.inl rfl) ?_
          refine can_skip rfl rfl rfl (Or.inl rfl) ?_
          refine can_skip rfl rfl rfl (Or.inl rfl) ?_
          refine c_pick rfl rfl rfl rfl rfl (by conv => lhs; whnf) ?_
          refine can_nil ?_
          refine ps_then ?_
          refine cs_true rfl ?_
          refine cs_seq ?_
          refine cs_seq_region [0, 1] rfl ?_
          obtain ⟨y4, hy4, h⟩ := bnd h
          refine c_call rfl rfl rfl rfl Tryz.call8 (lf_law16_known_ok K   w0 _ _ hct hst hy4) rfl (fun _ _ _ _ => Or.inl rfl) ?_
          rintro _ _ _ ⟨rfl, rfl, rfl⟩
          refine c_assign rfl rfl rfl rfl (v := (.bool y4)) rfl ?_
          refine can_nil ?_
          refine ps_then ?_
          refine cs_ret ?_
          refine ps_then_ret ?_
          obtain rfl := Option.some.inj h
          refine ps_en (en_arr (sps' := sps) (Arr.sub (List.Sublist.cons _ (List.Sublist.cons _ (List.Sublist.refl _))))) ?_
          rintro _ _ ⟨rfl, rfl⟩
          refine ps_en (en_keep (rs) (fun r hr => hr)) ?_
          rintro _ _ ⟨rfl, rfl⟩
          apply ps_end1 rfl Tryz.results3 rfl
          · exact ⟨rfl, rfl, rfl⟩
          · exact .mk .refl .refl
        · refine c_move rfl rfl rfl rfl (v := (.slice Ap1 p1.length cp1)) rfl ?_
          obtain ⟨y5, hy5, h⟩ := bnd h
          refine c_call rfl rfl rfl rfl Tryz.call7 (lf_ref06_Size_ok K p1 (2000 : Int) (.slice Ap1 p1.length cp1) w0 _ _ hv_p1 hy5) rfl (fun _ _ _ _ => Or.inl rfl) ?_
          rintro _ _ _ ⟨rfl, rfl, rfl⟩
          refine c_gtr (p := y5) (q := (2000 : Int)) rfl rfl rfl rfl rfl rfl ?_
          refine c_pick rfl rfl rfl rfl rfl (by conv => lhs; whnf) ?_
          refine can_nil ?_
          refine ps_then ?_
          refine cs_condL (b := (decide (y5 > (2000 : Int)))) rfl h (fun hc1 h => ?_) (fun hc1 h => ?_)
          · refine cs_seq ?_
            refine cs_seq_region [0, 1] rfl ?_
            obtain ⟨y6, hy6, h⟩ := bnd h
            refine c_call rfl rfl rfl rfl Tryz.call8 (lf_law16_known_ok K   w0 _ _ hct hst hy6) rfl (fun _ _ _ _ => Or.inl rfl) ?_
            rintro _ _ _ ⟨rfl, rfl, rfl⟩
            refine c_assign rfl rfl rfl rfl (v := (.bool y6)) rfl ?_
            refine can_nil ?_
            refine ps_then ?_
            refine cs_ret ?_
            refine ps_then_ret ?_
            obtain rfl := Option.some.inj h
            refine ps_en (en_arr (sps' := sps) (Arr.sub (List.Sublist.cons _ (List.Sublist.cons _ (List.Sublist.refl _))))) ?_
            rintro _ _ ⟨rfl, rfl⟩
            refine ps_en (en_keep (rs) (fun r hr => hr)) ?_
            rintro _ _ ⟨rfl, rfl⟩
            apply ps_end1 rfl Tryz.results3 rfl
            · exact ⟨rfl, rfl, rfl⟩
            · exact .mk .refl .refl
          · refine cs_skip ?_
            refine ps_then ?_
            refine cs_seq ?_
            refine cs_draw_region_at ([Bk g2 [(.int .i64 p2_0), (.int .i64 p2_1), (.int .i64 p2_2)] 27, Bk g1 [(.slice Ap0_0 p0_0.length cp0_0), (.slice Ap0_1 p0_1.length cp0_1), (.slice Ap0_2 p0_2.length cp0_2), (.slice Ap0_3 p0_3.length cp0_3), (.int .i64 p0_4)] 24]) [1, 2, 0, 0, 1, 0, 1, 0, 1, 0, 2, 0, 0, 0, 0, 0] [false, true, false, false, false, false, false, false, false, false, true, false, false, false, false, false] [0, 2, 3, 4, 5, 6, 7, 8, 9, 1, 10, 11, 12, 13, 14, 15] (by kernel_rfl) (by kernel_rfl) (by kernel_rfl) (by kernel_rfl) (by repeat (first | with_reducible refine qok_then ?_ | with_reducible refine qok_block ?_ | exact qok_body | exact qok_bodyN)) ?_
            refine c_loadN (cs := [(.slice Ap0_0 p0_0.length cp0_0), (.slice Ap0_1 p0_1.length cp0_1), (.slice Ap0_2 p0_2.length cp0_2), (.slice Ap0_3 p0_3.length cp0_3), (.int .i64 p0_4)]) rfl rfl rfl Tryz.isAgg24 Tryz.sizeOf24 rfl (ldD rfl rfl xE xM (subN (m := 5) rfl)) rfl ?_
            refine c_move rfl rfl rfl rfl (v := (.slice Ap1 p1.length cp1)) rfl ?_
            refine c_fieldAddr rfl rfl rfl rfl Tryz.underlying27 rfl Tryz.sizeOf3 rfl rfl ?_
            refine c_load1 (v := (.int .i64 p2_0)) rfl rfl rfl Tryz.isAgg3 rfl (ldD rfl rfl xE xM (sub1 rfl)) ?_
            refine c_fieldAddr rfl rfl rfl rfl Tryz.underlying27 rfl Tryz.sizeOf2 rfl rfl ?_
            refine c_load1 (v := (.int .i64 p2_1)) rfl rfl rfl Tryz.isAgg2 rfl (ldD rfl rfl xE xM (sub1 rfl)) ?_
            refine c_fieldAddr rfl rfl rfl rfl Tryz.underlying27 rfl Tryz.sizeOf3 rfl rfl ?_
            refine c_load1 (v := (.int .i64 p2_2)) rfl rfl rfl Tryz.isAgg3 rfl (ldD rfl rfl xE xM (sub1 rfl)) ?_
            refine c_buildS (cs := [(.int .i64 p2_0), (.int .i64 p2_1), (.int .i64 p2_2)]) rfl rfl rfl rfl Tryz.underlying35 Tryz.zeroValue35 (by intro w; simp [Tryz.sizeOf2, Tryz.sizeOf3]; rfl) rfl rfl ?_
            obtain ⟨⟨y7, y8, y9, y10, y11⟩, hy7, h⟩ := bnd h
            replace h := un2_ h
            replace h := un2_ h
            replace h := un2_ h
            replace h := un2_ h
            refine c_call rfl rfl rfl rfl Tryz.call10 (lf_law16_own_ok K p0_0 p0_1 p0_2 p0_3 p0_4 (.slice Ap0_0 p0_0.length cp0_0) (.slice Ap0_1 p0_1.length cp0_1) (.slice Ap0_2 p0_2.length cp0_2) (.slice Ap0_3 p0_3.length cp0_3) w0 _ _ hv_p0_0 hv_p0_1 hv_p0_2 hv_p0_3 hy7) rfl (by rintro v s r ⟨v1, v2, v3, v4, rfl, rfl, rfl⟩; exact Or.inr xE) ?_
            rintro _ _ _ ⟨v1, v2, v3, v4, rfl, rfl, rfl⟩
            refine can_en (en_shape (xs := y7) (.head _)) ?_
            rintro _ _ ⟨rfl, rfl, A1, c1, rfl, -, -, -⟩
            refine can_en (en_shape (xs := y8) (.tail _ (.head _))) ?_
            rintro _ _ ⟨rfl, rfl, A2, c2, rfl, -, -, -⟩
            refine can_en (en_shape (xs := y9) (.tail _ (.tail _ (.head _)))) ?_
            rintro _ _ ⟨rfl, rfl, A3, c3, rfl, -, -, -⟩
            refine can_en (en_shape (xs := y10) (.tail _ (.tail _ (.tail _ (.head _))))) ?_
            rintro _ _ ⟨rfl, rfl, A4, c4, rfl, -, -, -⟩
            obtain ⟨⟨y12, y13⟩, hy8, h⟩ := bnd h
            replace h := un2_ h
            refine c_call rfl rfl rfl rfl Tryz.call9 (lf_press_Answer_ok K y7 y8 y9 y10 y11 p1 p2_0 p2_1 p2_2 (.slice A1 y7.length c1) (.slice A2 y8.length c2) (.slice A3 y9.length c3) (.slice A4 y10.length c4) (.slice Ap1 p1.length cp1) w0 _ _ (.head _) (.tail _ (.head _)) (.tail _ (.tail _ (.head _))) (.tail _ (.tail _ (.tail _ (.head _)))) (.tail _ (.tail _ (.tail _ (.tail _ hv_p1)))) (.tail _ (.tail _ (.tail _ (.tail _ hct)))) (.tail _ (.tail _ (.tail _ (.tail _ hst)))) hy8) rfl (by rintro v s r ⟨v5, rfl, rfl, rfl⟩; exact Or.inr xE) ?_
            rintro _ _ _ ⟨v5, rfl, rfl, rfl⟩
            refine can_en (en_shape (xs := y12) (.head _)) ?_
            rintro _ _ ⟨rfl, rfl, A5, c5, rfl, -, -, -⟩
            refine can_forget rfl ?_
            refine c_move rfl rfl rfl rfl (v := (.tuple #[(.slice A5 y12.length c5), (.int .i64 y13)])) rfl ?_
            refine c_extract rfl rfl rfl rfl rfl rfl ?_
            refine c_extract rfl rfl rfl rfl rfl rfl ?_
            refine c_assign rfl rfl rfl rfl (v := (.slice A5 y12.length c5)) rfl ?_
            refine c_assign rfl rfl rfl rfl (v := (.int .i64 y13)) rfl ?_
            refine can_nil ?_
            refine ps_then ?_
            refine cs_seq ?_
            refine cs_seq_region [0, 1, 2, 3, 4, 5, 6, 7, 8] rfl ?_
            refine c_loadN (cs := [(.slice Ap0_0 p0_0.length cp0_0), (.slice Ap0_1 p0_1.length cp0_1), (.slice Ap0_2 p0_2.length cp0_2), (.slice Ap0_3 p0_3.length cp0_3), (.int .i64 p0_4)]) rfl rfl rfl Tryz.isAgg24 Tryz.sizeOf24 rfl (ldS rfl rfl (.tail _ (.head _)) (subN (m := 5) rfl)) rfl ?_
            refine c_move rfl rfl rfl rfl (v := (.slice Ap1 p1.length cp1)) rfl ?_
            refine c_loadN (cs := [(.int .i64 p2_0), (.int .i64 p2_1), (.int .i64 p2_2)]) rfl rfl rfl Tryz.isAgg27 Tryz.sizeOf27 rfl (ldS rfl rfl (.head _) (subN (m := 3) rfl)) rfl ?_
            obtain ⟨⟨y14, y15⟩, hy9, h⟩ := bnd h
            replace h := un2_ h
            refine c_call rfl rfl rfl rfl Tryz.call11 (lf_ref16_Answer_ok K p0_0 p0_1 p0_2 p0_3 p0_4 p1 p2_0 p2_1 p2_2 (.slice Ap0_0 p0_0.length cp0_0) (.slice Ap0_1 p0_1.length cp0_1) (.slice Ap0_2 p0_2.length cp0_2) (.slice Ap0_3 p0_3.length cp0_3) (.slice Ap1 p1.length cp1) w0 _ _ (.tail _ (.tail _ (.tail _ (.tail _ (.tail _ hv_p0_0))))) (.tail _ (.tail _ (.tail _ (.tail _ (.tail _ hv_p0_1))))) (.tail _ (.tail _ (.tail _ (.tail _ (.tail _ hv_p0_2))))) (.tail _ (.tail _ (.tail _ (.tail _ (.tail _ hv_p0_3))))) (.tail _ (.tail _ (.tail _ (.tail _ (.tail _ hv_p1))))) hy9) rfl (fun _ _ _ _ => Or.inl rfl) ?_
            rintro _ _ _ ⟨v6, rfl, rfl, rfl⟩
            refine can_en (en_shape (xs := y14) (.head _)) ?_
            rintro _ _ ⟨rfl, rfl, A6, c6, rfl, -, -, -⟩
            refine c_move rfl rfl rfl rfl (v := (.tuple #[(.slice A6 y14.length c6), (.int .i64 y15)])) rfl ?_
            refine c_extract rfl rfl rfl rfl rfl rfl ?_
            refine c_extract rfl rfl rfl rfl rfl rfl ?_
            refine c_assign rfl rfl rfl rfl (v := (.slice A6 y14.length c6)) rfl ?_
            refine c_assign rfl rfl rfl rfl (v := (.int .i64 y15)) rfl ?_
            refine can_nil ?_
            refine ps_then ?_
            refine cs_seq ?_
            refine cs_draw_region_at ([Bk g2 [(.int .i64 p2_0), (.int .i64 p2_1), (.int .i64 p2_2)] 27, Bk g1 [(.slice Ap0_0 p0_0.length cp0_0), (.slice Ap0_1 p0_1.length cp0_1), (.slice Ap0_2 p0_2.length cp0_2), (.slice Ap0_3 p0_3.length cp0_3), (.int .i64 p0_4)] 24]) [1, 2, 0, 1, 2, 0, 0, 0, 0, 0] [false, true, false, false, true, false, false, false, false, false] [0, 2, 3, 1, 4, 5, 6, 7, 8, 9] (by kernel_rfl) (by kernel_rfl) (by kernel_rfl) (by kernel_rfl) (by repeat (first | with_reducible refine qok_then ?_ | with_reducible refine qok_block ?_ | exact qok_body | exact qok_bodyN)) ?_
            refine c_loadN (cs := [(.slice Ap0_0 p0_0.length cp0_0), (.slice Ap0_1 p0_1.length cp0_1), (.slice Ap0_2 p0_2.length cp0_2), (.slice Ap0_3 p0_3.length cp0_3), (.int .i64 p0_4)]) rfl rfl rfl Tryz.isAgg24 Tryz.sizeOf24 rfl (ldD rfl rfl xE xM (subN (m := 5) rfl)) rfl ?_
            refine c_fieldAddr rfl rfl rfl rfl Tryz.underlying27 rfl Tryz.sizeOf3 rfl rfl ?_
            refine c_load1 (v := (.int .i64 p2_2)) rfl rfl rfl Tryz.isAgg3 rfl (ldD rfl rfl xE xM (sub1 rfl)) ?_
            obtain ⟨⟨y16, y17, y18, y19, y20⟩, hy10, h⟩ := bnd h
            replace h := un2_ h
            replace h := un2_ h
            replace h := un2_ h
            replace h := un2_ h
            refine c_call rfl rfl rfl rfl Tryz.call10 (lf_law16_own_ok K p0_0 p0_1 p0_2 p0_3 p0_4 (.slice Ap0_0 p0_0.length cp0_0) (.slice Ap0_1 p0_1.length cp0_1) (.slice Ap0_2 p0_2.length cp0_2) (.slice Ap0_3 p0_3.length cp0_3) w0 _ _ (.tail _ (.tail _ (.tail _ (.tail _ (.tail _ (.tail _ hv_p0_0)))))) (.tail _ (.tail _ (.tail _ (.tail _ (.tail _ (.tail _ hv_p0_1)))))) (.tail _ (.tail _ (.tail _ (.tail _ (.tail _ (.tail _ hv_p0_2)))))) (.tail _ (.tail _ (.tail _ (.tail _ (.tail _ (.tail _ hv_p0_3)))))) hy10) rfl (by rintro v s r ⟨v7, v8, v9, v10, rfl, rfl, rfl⟩; exact Or.inr xE) ?_
            rintro _ _ _ ⟨v7, v8, v9, v10, rfl, rfl, rfl⟩
            refine can_en (en_shape (xs := y16) (.head _)) ?_
            rintro _ _ ⟨rfl, rfl, A7, c7, rfl, -, -, -⟩
            refine can_en (en_shape (xs := y17) (.tail _ (.head _))) ?_
            rintro _ _ ⟨rfl, rfl, A8, c8, rfl, -, -, -⟩
            refine can_en (en_shape (xs := y18) (.tail _ (.tail _ (.head _)))) ?_
            rintro _ _ ⟨rfl, rfl, A9, c9, rfl, -, -, -⟩
            refine can_en (en_shape (xs := y19) (.tail _ (.tail _ (.tail _ (.head _))))) ?_
            rintro _ _ ⟨rfl, rfl, A10, c10, rfl, -, -, -⟩
            obtain ⟨⟨y21, y22⟩, hy11, h⟩ := bnd h
            replace h := un2_ h
            refine c_call rfl rfl rfl rfl Tryz.call12 (lf_press_Chunk_ok K y16 y17 y18 y19 y20 p2_2 (.slice A7 y16.length c7) (.slice A8 y17.length c8) (.slice A9 y18.length c9) (.slice A10 y19.length c10) w0 _ _ (.head _) (.tail _ (.head _)) (.tail _ (.tail _ (.head _))) (.tail _ (.tail _ (.tail _ (.head _)))) (.tail _ (.tail _ (.tail _ (.tail _ (.tail _ (.tail _ (.tail _ (.tail _ (.tail _ (.tail _ hct)))))))))) (.tail _ (.tail _ (.tail _ (.tail _ (.tail _ (.tail _ (.tail _ (.tail _ (.tail _ (.tail _ hst)))))))))) hy11) rfl (by rintro v s r ⟨v11, rfl, rfl, rfl⟩; exact Or.inr xE) ?_
            rintro _ _ _ ⟨v11, rfl, rfl, rfl⟩
            refine can_en (en_shape (xs := y21) (.head _)) ?_
            rintro _ _ ⟨rfl, rfl, A11, c11, rfl, -, -, -⟩
            refine can_forget rfl ?_
            refine c_move rfl rfl rfl rfl (v := (.tuple #[(.slice A11 y21.length c11), (.int .i64 y22)])) rfl ?_
            refine c_extract rfl rfl rfl rfl rfl rfl ?_
            refine c_extract rfl rfl rfl rfl rfl rfl ?_
            refine c_assign rfl rfl rfl rfl (v := (.slice A11 y21.length c11)) rfl ?_
            refine c_assign rfl rfl rfl rfl (v := (.int .i64 y22)) rfl ?_
            refine can_nil ?_
            refine ps_then ?_
            refine cs_seq ?_
            refine cs_seq_region [0, 1, 2, 3, 4, 5, 6, 7, 8] rfl ?_
            refine c_loadN (cs := [(.slice Ap0_0 p0_0.length cp0_0), (.slice Ap0_1 p0_1.length cp0_1), (.slice Ap0_2 p0_2.length cp0_2), (.slice Ap0_3 p0_3.length cp0_3), (.int .i64 p0_4)]) rfl rfl rfl Tryz.isAgg24 Tryz.sizeOf24 rfl (ldS rfl rfl (.tail _ (.head _)) (subN (m := 5) rfl)) rfl ?_
            refine c_fieldAddr rfl rfl rfl rfl Tryz.underlying27 rfl Tryz.sizeOf3 rfl rfl ?_
            refine c_load1 (v := (.int .i64 p2_2)) rfl rfl rfl Tryz.isAgg3 rfl (ldS rfl rfl (.head _) (sub1 rfl)) ?_
            obtain ⟨⟨y23, y24⟩, hy12, h⟩ := bnd h
            replace h := un2_ h
            refine c_call rfl rfl rfl rfl Tryz.call13 (lf_ref16_Chunk_ok K p0_0 p0_1 p0_2 p0_3 p0_4 p2_2 (.slice Ap0_0 p0_0.length cp0_0) (.slice Ap0_1 p0_1.length cp0_1) (.slice Ap0_2 p0_2.length cp0_2) (.slice Ap0_3 p0_3.length cp0_3) w0 _ _ (.tail _ (.tail _ (.tail _ (.tail _ (.tail _ (.tail _ (.tail _ (.tail _ (.tail _ (.tail _ (.tail _ hv_p0_0))))))))))) (.tail _ (.tail _ (.tail _ (.tail _ (.tail _ (.tail _ (.tail _ (.tail _ (.tail _ (.tail _ (.tail _ hv_p0_1))))))))))) (.tail _ (.tail _ (.tail _ (.tail _ (.tail _ (.tail _ (.tail _ (.tail _ (.tail _ (.tail _ (.tail _ hv_p0_2))))))))))) (.tail _ (.tail _ (.tail _ (.tail _ (.tail _ (.tail _ (.tail _ (.tail _ (.tail _ (.tail _ (.tail _ hv_p0_3))))))))))) hy12) rfl (fun _ _ _ _ => Or.inl rfl) ?_
            rintro _ _ _ ⟨v12, rfl, rfl, rfl⟩
            refine can_en (en_rowShape (xs := y23) (.head _)) ?_
            rintro _ _ ⟨rfl, rfl, A12, c12, rfl, -, -, -⟩
            refine c_move rfl rfl rfl rfl (v := (.tuple #[(.slice A12 y23.length c12), (.int .i64 y24)])) rfl ?_
            refine c_extract rfl rfl rfl rfl rfl rfl ?_
            refine c_extract rfl rfl rfl rfl rfl rfl ?_
            refine c_assign rfl rfl rfl rfl (v := (.slice A12 y23.length c12)) rfl ?_
            refine c_assign rfl rfl rfl rfl (v := (.int .i64 y24)) rfl ?_
            refine can_nil ?_
            refine ps_then ?_
            refine cs_seq ?_
            refine cs_seq_region [0, 1, 2, 3, 4, 5, 6, 7, 8, 9, 10, 11, 12, 13, 14, 15, 16, 17, 18, 19, 20, 21] rfl ?_
            refine c_move rfl rfl rfl rfl (v := (.slice A5 y12.length c5)) rfl ?_
            refine c_move rfl rfl rfl rfl (v := (.slice A6 y14.length c6)) rfl ?_
            obtain ⟨y25, hy13, h⟩ := bnd h
            refine c_call rfl rfl rfl rfl Tryz.call14 (lf_ref01_SameBytes_ok K y12 y14 (.slice A5 y12.length c5) (.slice A6 y14.length c6) w0 _ _ (.tail _ (.tail _ (.tail _ (.tail _ (.tail _ (.tail _ (.head _))))))) (.tail _ (.tail _ (.tail _ (.tail _ (.tail _ (.head _)))))) hy13) rfl (fun _ _ _ _ => Or.inl rfl) ?_
            rintro _ _ _ ⟨rfl, rfl, rfl⟩
            refine c_move rfl rfl rfl rfl (v := (.bool y25)) rfl ?_
            refine can_splitL 82 (b := y25) rfl h (fun hg5 h => ?_) (fun hg5 h => ?_)
            · refine c_move rfl rfl rfl rfl (v := (.int .i64 y13)) rfl ?_
              refine c_move rfl rfl rfl rfl (v := (.int .i64 y15)) rfl ?_
              refine l_eqlI (p := y13) (q := y15) rfl rfl rfl rfl rfl rfl ?_
              refine c_pick rfl rfl rfl rfl rfl (by conv => lhs; whnf) ?_
              refine c_move rfl rfl rfl rfl (v := (.bool (decide (y13 = y15)))) rfl ?_
              refine can_splitL 87 (b := (decide (y13 = y15))) rfl h (fun hg6 h => ?_) (fun hg6 h => ?_)
              · refine c_move rfl rfl rfl rfl (v := (.slice A11 y21.length c11)) rfl ?_
                refine c_move rfl rfl rfl rfl (v := (.slice A12 y23.length c12)) rfl ?_
                refine can_en (en_give Rem.here) ?_
                rintro _ _ ⟨rfl, rfl⟩
                obtain ⟨y26, hy14, h⟩ := bnd h
                refine c_call rfl rfl rfl rfl Tryz.call14 (lf_ref01_SameBytes_ok K y21 y23 (.slice A11 y21.length c11) (.slice A12 y23.length c12) w0 _ _ (.tail _ (.head _)) (.head _) hy14) rfl (fun _ _ _ _ => Or.inl rfl) ?_
                rintro _ _ _ ⟨rfl, rfl, rfl⟩
                refine c_pick rfl rfl rfl rfl rfl (by conv => lhs; whnf) ?_
                refine c_move rfl rfl rfl rfl (v := (.bool y26)) rfl ?_
                refine can_splitL 92 (b := y26) rfl h (fun hg7 h => ?_) (fun hg7 h => ?_)
                · refine c_move rfl rfl rfl rfl (v := (.int .i64 y22)) rfl ?_
                  refine c_move rfl rfl rfl rfl (v := (.int .i64 y24)) rfl ?_
                  refine l_eqlI (p := y22) (q := y24) rfl rfl rfl rfl rfl rfl ?_
                  refine c_pick rfl rfl rfl rfl rfl (by conv => lhs; whnf) ?_
                  refine c_move rfl rfl rfl rfl (v := (.bool (decide (y22 = y24)))) rfl ?_
                  refine can_splitL 97 (b := (decide (y22 = y24))) rfl h (fun hg8 h => ?_) (fun hg8 h => ?_)
                  · obtain ⟨y27, hy15, h⟩ := bnd h
                    refine c_call rfl rfl rfl rfl Tryz.call8 (lf_law16_known_ok K   w0 _ _ (.tail _ (.tail _ (.tail _ (.tail _ (.tail _ (.tail _ (.tail _ (.tail _ (.tail _ (.tail _ (.tail _ (.tail _ hct)))))))))))) (.tail _ (.tail _ (.tail _ (.tail _ (.tail _ (.tail _ (.tail _ (.tail _ (.tail _ (.tail _ (.tail _ (.tail _ hst)))))))))))) hy15) rfl (fun _ _ _ _ => Or.inl rfl) ?_
                    rintro _ _ _ ⟨rfl, rfl, rfl⟩
                    refine c_pick rfl rfl rfl rfl rfl (by conv => lhs; whnf) ?_
                    refine c_assign rfl rfl rfl rfl (v := (.bool y27)) rfl ?_
                    refine can_nil ?_
                    refine ps_then ?_
                    refine cs_ret ?_
                    obtain rfl := Option.some.inj h
                    refine ps_en (en_arr (sps' := sps) (Arr.sub (List.Sublist.cons _ (List.Sublist.cons _ (List.Sublist.refl _))))) ?_
                    rintro _ _ ⟨rfl, rfl⟩
                    refine ps_en (en_keep (rs) (fun r hr => (.tail _ (.tail _ (.tail _ (.tail _ (.tail _ (.tail _ (.tail _ (.tail _ (.tail _ (.tail _ (.tail _ (.tail _ hr)))))))))))))) ?_
                    rintro _ _ ⟨rfl, rfl⟩
                    apply ps_end1 rfl Tryz.results3 rfl
                    · exact ⟨rfl, rfl, rfl⟩
                    · exact .mk .refl .refl
                  · refine can_skip rfl rfl rfl (Or.inl rfl) ?_
                    refine c_pick rfl rfl rfl rfl rfl (by conv => lhs; whnf) ?_
                    refine c_assign rfl rfl rfl rfl (v := (.bool false)) rfl ?_
                    refine can_nil ?_
                    refine ps_then ?_
                    refine cs_ret ?_
                    obtain rfl := Option.some.inj h
                    refine ps_en (en_arr (sps' := sps) (Arr.sub (List.Sublist.cons _ (List.Sublist.cons _ (List.Sublist.refl _))))) ?_
                    rintro _ _ ⟨rfl, rfl⟩
                    refine ps_en (en_keep (rs) (fun r hr => (.tail _ (.tail _ (.tail _ (.tail _ (.tail _ (.tail _ (.tail _ (.tail _ (.tail _ (.tail _ (.tail _ (.tail _ hr)))))))))))))) ?_
                    rintro _ _ ⟨rfl, rfl⟩
                    apply ps_end1 rfl Tryz.results3 rfl
                    · exact ⟨rfl, rfl, rfl⟩
                    · exact .mk .refl .refl
                · refine can_skip rfl rfl rfl (Or.inl rfl) ?_
                  refine can_skip rfl rfl rfl (Or.inl rfl) ?_
                  refine can_skip rfl rfl rfl (Or.inl rfl) ?_
                  refine c_pick rfl rfl rfl rfl rfl (by conv => lhs; whnf) ?_
                  refine c_move rfl rfl rfl rfl (v := (.bool false)) rfl ?_
                  refine can_skip rfl rfl rfl (Or.inl rfl) ?_
                  refine c_pick rfl rfl rfl rfl rfl (by conv => lhs; whnf) ?_
                  refine c_assign rfl rfl rfl rfl (v := (.bool false)) rfl ?_
                  refine can_nil ?_
                  refine ps_then ?_
                  refine cs_ret ?_
                  obtain rfl := Option.some.inj h
                  refine ps_en (en_arr (sps' := sps) (Arr.sub (List.Sublist.cons _ (List.Sublist.cons _ (List.Sublist.refl _))))) ?_
                  rintro _ _ ⟨rfl, rfl⟩
                  refine ps_en (en_keep (rs) (fun r hr => (.tail _ (.tail _ (.tail _ (.tail _ (.tail _ (.tail _ (.tail _ (.tail _ (.tail _ (.tail _ (.tail _ (.tail _ hr)))))))))))))) ?_
                  rintro _ _ ⟨rfl, rfl⟩
                  apply ps_end1 rfl Tryz.results3 rfl
                  · exact ⟨rfl, rfl, rfl⟩
                  · exact .mk .refl .refl
              · refine can_skip rfl rfl rfl (Or.inl rfl) ?_
                refine can_skip rfl rfl rfl (Or.inl rfl) ?_
                refine can_skip rfl rfl rfl (Or.inl rfl) ?_
                refine c_pick rfl rfl rfl rfl rfl (by conv => lhs; whnf) ?_
                refine c_move rfl rfl rfl rfl (v := (.bool false)) rfl ?_
                refine can_skip rfl rfl rfl (Or.inl rfl) ?_
                refine can_skip rfl rfl rfl (Or.inl rfl) ?_
                refine can_skip rfl rfl rfl (Or.inl rfl) ?_
                refine c_pick rfl rfl rfl rfl rfl (by conv => lhs; whnf) ?_
                refine c_move rfl rfl rfl rfl (v := (.bool false)) rfl ?_
                refine can_skip rfl rfl rfl (Or.inl rfl) ?_
                refine c_pick rfl rfl rfl rfl rfl (by conv => lhs; whnf) ?_
                refine c_assign rfl rfl rfl rfl (v := (.bool false)) rfl ?_
                refine can_nil ?_
                refine ps_then ?_
                refine cs_ret ?_
                obtain rfl := Option.some.inj h
                refine ps_en (en_arr (sps' := sps) (Arr.sub (List.Sublist.cons _ (List.Sublist.cons _ (List.Sublist.cons _ (List.Sublist.refl _)))))) ?_
                rintro _ _ ⟨rfl, rfl⟩
                refine ps_en (en_keep (rs) (fun r hr => (.tail _ (.tail _ (.tail _ (.tail _ (.tail _ (.tail _ (.tail _ (.tail _ (.tail _ (.tail _ (.tail _ hr))))))))))))) ?_
                rintro _ _ ⟨rfl, rfl⟩
                apply ps_end1 rfl Tryz.results3 rfl
                · exact ⟨rfl, rfl, rfl⟩
                · exact .mk .refl .refl
            · refine can_skip rfl rfl rfl (Or.inl rfl) ?_
              refine can_skip rfl rfl rfl (Or.inl rfl) ?_
              refine can_skip rfl rfl rfl (Or.inl rfl) ?_
              refine c_pick rfl rfl rfl rfl rfl (by conv => lhs; whnf) ?_
              refine c_move rfl rfl rfl rfl (v := (.bool false)) rfl ?_
              refine can_skip rfl rfl rfl (Or.inl rfl) ?_
              refine can_skip rfl rfl rfl (Or.inl rfl) ?_
              refine can_skip rfl rfl rfl (Or.inl rfl) ?_
              refine c_pick rfl rfl rfl rfl rfl (by conv => lhs; whnf) ?_
              refine c_move rfl rfl rfl rfl (v := (.bool false)) rfl ?_
              refine can_skip rfl rfl rfl (Or.inl rfl) ?_
              refine can_skip rfl rfl rfl (Or.inl rfl) ?_
              refine can_skip rfl rfl rfl (Or.inl rfl) ?_
              refine c_pick rfl rfl rfl rfl rfl (by conv => lhs; whnf) ?_
              refine c_move rfl rfl rfl rfl (v := (.bool false)) rfl ?_
              refine can_skip rfl rfl rfl (Or.inl rfl) ?_
              refine c_pick rfl rfl rfl rfl rfl (by conv => lhs; whnf) ?_
              refine c_assign rfl rfl rfl rfl (v := (.bool false)) rfl ?_
              refine can_nil ?_
              refine ps_then ?_
              refine cs_ret ?_
              obtain rfl := Option.some.inj h
              refine ps_en (en_arr (sps' := sps) (Arr.sub (List.Sublist.cons _ (List.Sublist.cons _ (List.Sublist.cons _ (List.Sublist.refl _)))))) ?_
              rintro _ _ ⟨rfl, rfl⟩
              refine ps_en (en_keep (rs) (fun r hr => (.tail _ (.tail _ (.tail _ (.tail _ (.tail _ (.tail _ (.tail _ (.tail _ (.tail _ (.tail _ (.tail _ hr))))))))))))) ?_
              rintro _ _ ⟨rfl, rfl⟩
              apply ps_end1 rfl Tryz.results3 rfl
              · exact ⟨rfl, rfl, rfl⟩
              · exact .mk .refl .refl
end Go.Proofs.YtmodmjekhlnjpaaGreatDoor
namespace Go.Proofs.YtmodmjekhlnjpaaGreatDoor
open Go.RowKit Lf
theorem p_size0 (K : Nat) (l : List (List Nat)) (hl : l.length ≤ 140737488355328) (hx : ∀ x ∈ l, x.length ≤ 140737488355328) : ∀ (d k i n : Nat), i + d = l.length → d < k → i ≤ n → n ≤ 140737488360000 → (∀ j, j < i → (l.getD j []).length ≤ n) →
    ∃ n' i' : Nat, lf_ref06_Size_l0 K l 2000 k (n : Int) (i : Int) = some ((n' : Int), (i' : Int)) ∧ (n' ≤ 2000 → l.length ≤ n' ∧ ∀ j, j < l.length → (l.getD j []).length ≤ n') := by
  intro d
  induction d with
  | zero =>
    intro k i n h1 h2 h3 h4 h5
    obtain ⟨k, rfl⟩ : ∃ m, k = m + 1 := ⟨k - 1, by omega⟩
    refine ⟨n, i, ?_, fun _ => ⟨by omega, fun j hj => h5 j (by omega)⟩⟩
    rw [lf_ref06_Size_l0.eq_2, bif_F (dF (by omega))]
  | succ d ih =>
    intro k i n h1 h2 h3 h4 h5
    obtain ⟨k, rfl⟩ : ∃ m, k = m + 1 := ⟨k - 1, by omega⟩
    rw [lf_ref06_Size_l0.eq_2, bif_T (dT (by omega))]
    by_cases hn : n ≤ 2000
    · have hi : (l.getD i []).length ≤ 140737488355328 := by
        rw [List.getD_eq_getElem?_getD, List.getElem?_eq_getElem (by omega)]
        exact hx _ (List.getElem_mem _)
      rw [bif_T (dT (by omega)), getO_D [] (by omega)]
      simp only [Option.bind_some, lett]
      rw [show ((n : Int) + 1) = ((n + 1 : Nat) : Int) by omega, wr_nat (by omega), show (((n + 1 : Nat) : Int) + (((l.getD i []).length : Nat) : Int)) = ((n + 1 + (l.getD i []).length : Nat) : Int) by omega, wr_nat (by omega),
        show ((i : Int) + 1) = ((i + 1 : Nat) : Int) by omega, wr_nat (by omega)]
      refine ih k (i + 1) (n + 1 + (l.getD i []).length) (by omega) (by omega) (by omega) (by omega) fun j hj => ?_
      rcases Nat.lt_or_ge j i with h | h
      · have := h5 j h; omega
      · obtain rfl : j = i := by omega
        omega
    · refine ⟨n, i, ?_, fun h => absurd h hn⟩
      rw [bif_F (dF (by omega))]
theorem p_size (K : Nat) (l : List (List Nat)) (hl : l.length ≤ 140737488355328) (hK : 140737488355328 < K) (hx : ∀ x ∈ l, x.length ≤ 140737488355328) :
    ∃ n : Nat, lf_ref06_Size K l 2000 = some (n : Int) ∧ (n ≤ 2000 → l.length ≤ 2000 ∧ ∀ x ∈ l, x.length ≤ 2000) := by
  obtain ⟨n, i, h1, h2⟩ := p_size0 K l hl hx l.length K 0 0 (by omega) (by omega) (by omega) (by omega) (by omega)
  refine ⟨n, ?_, fun hn => ?_⟩
  · unfold lf_ref06_Size
    rw [show (0 : Int) = ((0 : Nat) : Int) from rfl, h1]
    rfl
  · obtain ⟨h3, h4⟩ := h2 hn
    refine ⟨by omega, fun x hx => ?_⟩
    obtain ⟨j, hj, rfl⟩ := List.mem_iff_getElem.1 hx
    have := h4 j hj
    rw [List.getD_eq_getElem?_getD, List.getElem?_eq_getElem hj] at this
    exact Nat.le_trans this hn
theorem p_same (K : Nat) (l : List Nat) : lf_ref01_SameBytes K l l = some true := by
  unfold lf_ref01_SameBytes
  rw [beq_self_eq_true]
theorem p_known (K : Nat) : lf_law16_known K = some true := by
  have hb : bts ([] : List Nat) := bts_nil
  have hb5 : bts [5] := bts_cons (by omega) bts_nil
  unfold lf_law16_known
  have h1 : lf_press_Role K [] 0 = some ([], 0, 80) := by unfold lf_press_Role; rw [if_pos ⟨rfl, rfl⟩]
  have h2 : lf_press_Answer K [] [] [] [] 0 [] 0 0 0 = some ([], 1) := by
    unfold lf_press_Answer
    rw [if_pos ⟨hb, hb, hb, hb, (fun x hx => absurd hx (List.not_mem_nil)), by decide, by decide, by decide, by decide, (fun x hx => absurd hx (List.not_mem_nil)), by omega⟩]
    rfl
  have h3 : lf_press_Answer K [5] [] [] [] 0 [] 2 0 0 = some ([5], 0) := by
    unfold lf_press_Answer
    rw [if_pos ⟨hb5, hb, hb, hb, (fun x hx => absurd hx (List.not_mem_nil)), by decide, by decide, by decide, by decide, (fun x hx => absurd hx (List.not_mem_nil)), by omega⟩]
    rfl
  rw [h1, h2, h3]
  simp only [Option.bind_some, un2]
  rw [p_same]
  rfl
theorem p_law (K : Nat) (hK : 140737488355328 < K) (st sn ai bu : List Nat) (ch : Int) (roots : List (List Nat)) (k v p : Int)
    (b0 : bts st) (b1 : bts sn) (b2 : bts ai) (b3 : bts bu) (b5 : ∀ x ∈ roots, bts x) (hl : roots.length ≤ 140737488355328) (hx : ∀ x ∈ roots, x.length ≤ 140737488355328) (hv : v ≤ 9223372036854775807) (hp : p ≤ 9223372036854775807) :
    lf_law16_PressAnswers K st sn ai bu ch roots k v p = some true := by
  have hk := p_known K
  unfold lf_law16_PressAnswers
  by_cases h0 : ((st.length : Nat) : Int) > 1000
  · rw [bif_T (dT h0), hk]; rfl
  rw [bif_F (dF h0)]
  by_cases h1 : ((sn.length : Nat) : Int) > 1000
  · rw [bif_T (dT h1), hk]; rfl
  rw [bif_F (dF h1)]
  by_cases h2 : ((ai.length : Nat) : Int) > 1000
  · rw [bif_T (dT h2), hk]; rfl
  rw [bif_F (dF h2)]
  by_cases h3 : ((bu.length : Nat) : Int) > 6000
  · rw [bif_T (dT h3), hk]; rfl
  rw [bif_F (dF h3)]
  obtain ⟨n, hn, hn2⟩ := p_size K roots hl hK hx
  rw [hn]
  simp only [Option.bind_some]
  by_cases h4 : (n : Int) > 2000
  · rw [bif_T (dT h4), hk]; rfl
  rw [bif_F (dF h4)]
  obtain ⟨l1, l2⟩ := hn2 (by omega)
  have ha : lf_press_Answer K st sn ai bu ch roots k v p = some (answerN st sn ai bu ch roots k v p) := by
    unfold lf_press_Answer
    rw [if_pos ⟨b0, b1, b2, b3, b5, by omega, by omega, by omega, by omega, (fun x hx => Nat.le_trans (l2 x hx) (by omega)), hv⟩]
  have hc : lf_press_Chunk K st sn ai bu ch p = some (chunkN bu ch p) := by
    unfold lf_press_Chunk
    rw [if_pos ⟨b3, by omega⟩]
  have hKK : K0 ≤ K := by unfold K0; omega
  have ho : lf_law16_own K st sn ai bu ch = some (st, sn, ai, bu, ch) := rfl
  have hd := p_chunk K hKK st sn ai bu ch p b3 (by omega) hp
  have he := p_answer K hKK st sn ai bu ch k v p roots b3 (by omega) (by omega) hv hp
  rw [ho]
  simp only [Option.bind_some, un2]
  rw [ha, he, hc, hd]
  simp only [Option.bind_some, un2]
  rw [p_same, p_same, hk]
  simp only [Option.bind_some]
  simp only [decide_true, cond_true]
end Go.Proofs.YtmodmjekhlnjpaaGreatDoor
