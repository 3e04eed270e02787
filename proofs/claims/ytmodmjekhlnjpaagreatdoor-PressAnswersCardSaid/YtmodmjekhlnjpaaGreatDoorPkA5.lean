/- The proof of PressAnswers, part 5 of 14 (texts joined and shortened by a program: Sha7 Sha8 ShaH MerS Mer1 Mer2 Mer3 SDef Wire0 WireS Wire1 Wire2 Wire3 Wire4 Wire5 PressS). -/
import Derived.Test.YtmodmjekhlnjpaaGreatDoorPkA4
namespace Go.Proofs.YtmodmjekhlnjpaaGreatDoor
open Go.RowKit
theorem pad32_ok (n : Nat) (w0 : World) (sps : List Sp) (rs : List Fa) (hn : n ≤ 1048576) :
    FnOk Tryz.prog 220 #[.int .i64 (n : Int), .int .i64 256] w0 sps rs fun r s q => ∃ v, r = .tuple #[v, .int .i64 0] ∧ Row b8 5 v (padN 4 n) :: sps = s ∧ rs = q := by
  have h9 := padLen_ge 4 n (by decide)
  have h8 := padLen_le 4 n (by decide)
  refine fn_enter Tryz.func220 rfl Tryz.ntmps220 rfl ?_
  refine cs_seq ?_
  refine cs_seq_region [0, 1] rfl ?_
  refine c_assign rfl rfl rfl rfl (by conv => lhs; whnf) ?_
  refine c_assign rfl rfl rfl rfl (by conv => lhs; whnf) ?_
  refine can_nil ?_
  refine ps_then ?_
  refine cs_seq ?_
  refine cs_seq_region [0, 1, 2, 3, 4, 5, 6, 7] rfl ?_
  refine c_move rfl rfl rfl rfl (by conv => lhs; whnf) ?_
  refine c_call rfl rfl rfl rfl Tryz.call216 (of256_ok w0 _ _) (by exact rfl) (fun _ _ _ _ => Or.inl rfl) ?_
  rintro _ _ _ ⟨rfl, rfl, rfl⟩
  refine c_move rfl rfl rfl rfl (by conv => lhs; whnf) ?_
  refine c_extract rfl rfl rfl rfl rfl rfl ?_
  refine c_extract rfl rfl rfl rfl rfl rfl ?_
  refine c_alloc rfl rfl rfl rfl Tryz.zeroValue291 rfl (fun _ => Or.inl rfl) (fun g6 => ?_)
  refine c_storeB rfl rfl rfl Tryz.sizeOf291 rfl rfl xF (by first | (simp [ne_length, wlist_length]; done) | rfl) (by first | (simp [ne_length, wlist_length]; done) | rfl) (by first | exact ne_one _ _ | rfl | simp [Value.oneCell']) (by (try simp only [List.cons_append, List.nil_append]); exact rfl) (Or.inl rfl) ?_
  refine c_assign rfl rfl rfl rfl (by conv => lhs; whnf) ?_
  refine can_nil ?_
  refine ps_then ?_
  refine cs_seq ?_
  refine cs_block ?_
  refine cs_seq ?_
  refine cs_seq_region [0, 1, 2, 3, 4, 5, 6] rfl ?_
  refine c_move rfl rfl rfl rfl (by conv => lhs; whnf) ?_
  refine c_not rfl rfl rfl rfl rfl ?_
  refine c_move rfl rfl rfl rfl (by conv => lhs; whnf) ?_
  refine can_known 21 false rfl (rfl) ?_
  refine c_move rfl rfl rfl rfl (by conv => lhs; whnf) ?_
  refine c_lss rfl rfl rfl rfl rfl rfl ?_
  refine c_pick rfl rfl rfl rfl rfl (by conv => lhs; whnf) ?_
  refine c_assign rfl rfl rfl rfl (by conv => lhs; whnf) ?_
  refine can_nil ?_
  refine ps_then ?_
  refine cs_cond rfl (fun hc2 => Bool.noConfusion (show true = false from hc2.symm.trans (decide_eq_false (by omega)))) (fun _ => ?_)
  refine cs_seq ?_
  refine cs_seq_region [0, 1, 2] rfl ?_
  refine c_move rfl rfl rfl rfl (by conv => lhs; whnf) ?_
  refine c_gtr rfl rfl rfl rfl rfl rfl ?_
  refine c_assign rfl rfl rfl rfl (by conv => lhs; whnf) ?_
  refine can_nil ?_
  refine ps_then ?_
  refine cs_cond rfl (fun hc3 => Bool.noConfusion (show true = false from hc3.symm.trans (decide_eq_false (by omega)))) (fun _ => ?_)
  refine cs_skip ?_
  refine ps_block_normal ?_
  refine ps_then ?_
  refine cs_seq ?_
  refine cs_seq_region [0, 1, 2, 3, 4] rfl ?_
  refine c_fieldAddr rfl rfl rfl rfl Tryz.underlying291 rfl Tryz.sizeOf3 rfl rfl ?_
  first | refine c_load1 rfl rfl rfl Tryz.isAgg3 rfl (ldS rfl rfl xM (sub1 (by exact rfl))) ?_ | refine c_load1 rfl rfl rfl Tryz.isAgg3 rfl (ldSC (k := 0) rfl rfl xM (sub1 (by exact rfl))) ?_ | refine c_load1 rfl rfl rfl Tryz.isAgg3 rfl (ldSC rfl rfl xM (sub1 (by exact rfl))) ?_
  first | refine c_mulI rfl rfl rfl rfl rfl rfl xW ?_ | refine c_mul rfl rfl rfl rfl rfl rfl ?_
  first | refine c_addI rfl rfl rfl rfl rfl rfl xW ?_ | refine c_add rfl rfl rfl rfl rfl rfl ?_
  refine c_assign rfl rfl rfl rfl (by conv => lhs; whnf) ?_
  refine can_nil ?_
  refine ps_then ?_
  refine cs_seq ?_
  refine cs_seq_region [0, 1, 2, 3, 4, 5, 6] rfl ?_
  refine c_move rfl rfl rfl rfl (by conv => lhs; whnf) ?_
  refine c_move rfl rfl rfl rfl (by conv => lhs; whnf) ?_
  first | refine c_addI rfl rfl rfl rfl rfl rfl xW ?_ | refine c_add rfl rfl rfl rfl rfl rfl ?_
  first | refine c_loadN rfl rfl rfl Tryz.isAgg291 Tryz.sizeOf291 rfl (ldS rfl rfl xM subAll) (by first | (simp [ne_length, wlist_length]; done) | rfl) ?_ | refine c_loadN (cs := [_, _, _, _, _, _, _, _, _, _, _, _, _, _, _]) rfl rfl rfl Tryz.isAgg291 Tryz.sizeOf291 rfl (ldS rfl rfl xM (subN (m := 15) (by exact rfl))) rfl ?_ | refine c_loadN rfl rfl rfl Tryz.isAgg291 Tryz.sizeOf291 rfl (ldSC (k := 0) rfl rfl xM subAll) (by first | (simp [ne_length, wlist_length]; done) | rfl) ?_
  refine c_call rfl rfl rfl rfl Tryz.call282 (block32_ok w0 _ _) (by exact rfl) (fun _ _ _ _ => Or.inl rfl) ?_
  rintro _ _ _ ⟨rfl, rfl, rfl⟩
  first | refine c_remE rfl rfl rfl rfl rfl rfl (by omega) (by omega) ?_ | refine c_rem rfl rfl rfl rfl rfl rfl (by first | decide | omega) ?_
  refine c_assign rfl rfl rfl rfl (by conv => lhs; whnf) ?_
  refine can_nil ?_
  refine ps_then ?_
  refine cs_seq ?_
  refine cs_draw_region [0, 1, 2, 0, 0, 1, 2, 0, 0, 2, 0] [false, false, true, false, false, false, true, false, false, true, false] [0, 1, 3, 5, 2, 4, 6, 7, 8, 9, 10] (by kernel_rfl) (by kernel_rfl) (by kernel_rfl) (by kernel_rfl) xQ ?_
  refine c_move rfl rfl rfl rfl (by conv => lhs; whnf) ?_
  first | refine c_loadN rfl rfl rfl Tryz.isAgg291 Tryz.sizeOf291 rfl (ldD rfl rfl xE xM subAll) (by first | (simp [ne_length, wlist_length]; done) | rfl) ?_ | refine c_loadN (cs := [_, _, _, _, _, _, _, _, _, _, _, _, _, _, _]) rfl rfl rfl Tryz.isAgg291 Tryz.sizeOf291 rfl (ldD rfl rfl xE xM (subN (m := 15) (by exact rfl))) rfl ?_ | refine c_loadN rfl rfl rfl Tryz.isAgg291 Tryz.sizeOf291 rfl (ldDC (k := 0) rfl rfl xE xM subAll) (by first | (simp [ne_length, wlist_length]; done) | rfl) ?_
  refine c_move rfl rfl rfl rfl (by conv => lhs; whnf) ?_
  first | refine c_loadN rfl rfl rfl Tryz.isAgg291 Tryz.sizeOf291 rfl (ldD rfl rfl xE xM subAll) (by first | (simp [ne_length, wlist_length]; done) | rfl) ?_ | refine c_loadN (cs := [_, _, _, _, _, _, _, _, _, _, _, _, _, _, _]) rfl rfl rfl Tryz.isAgg291 Tryz.sizeOf291 rfl (ldD rfl rfl xE xM (subN (m := 15) (by exact rfl))) rfl ?_ | refine c_loadN rfl rfl rfl Tryz.isAgg291 Tryz.sizeOf291 rfl (ldDC (k := 0) rfl rfl xE xM subAll) (by first | (simp [ne_length, wlist_length]; done) | rfl) ?_
  refine c_call rfl rfl rfl rfl Tryz.call282 (block32_ok w0 _ _) (by exact rfl) (by rintro v s r ⟨rfl, rfl, rfl⟩; exact Or.inr xE) ?_
  rintro _ _ _ ⟨rfl, rfl, rfl⟩
  first | refine c_subI rfl rfl rfl rfl rfl rfl xW ?_ | refine c_sub rfl rfl rfl rfl rfl rfl ?_
  refine c_call rfl rfl rfl rfl Tryz.call282 (block32_ok w0 _ _) (by exact rfl) (by rintro v s r ⟨rfl, rfl, rfl⟩; exact Or.inr xE) ?_
  rintro _ _ _ ⟨rfl, rfl, rfl⟩
  first | refine c_remE rfl rfl rfl rfl rfl rfl (by omega) (by omega) ?_ | refine c_rem rfl rfl rfl rfl rfl rfl (by first | decide | omega) ?_
  first | refine c_addI rfl rfl rfl rfl rfl rfl xW ?_ | refine c_add rfl rfl rfl rfl rfl rfl ?_
  refine c_makeBytes (m := padLen 4 n) rfl rfl rfl rfl Tryz.underlying22 info_t5 rfl rfl (by unfold padLen; omega) (by omega) (fun _ => Or.inr xE) (fun g47 => ?_)
  refine can_forget rfl ?_
  refine c_assign rfl rfl rfl rfl (by conv => lhs; whnf) ?_
  refine can_nil ?_
  refine ps_then ?_
  refine cs_seq ?_
  refine cs_seq_region [0, 1, 2] rfl ?_
  refine c_move rfl rfl rfl rfl (by conv => lhs; whnf) ?_
  refine c_indexAddrS1 rfl rfl rfl rfl Tryz.underlying22 Tryz.sizeOf5 rfl rfl xD ?_
  refine c_store1 rfl rfl rfl Tryz.sizeOf5 rfl rfl xF rfl (by simp [ne_length]; omega) ((ne_set .u8 _ 0 128).trans (congrArg (ne .u8) (padRow0 4 n (by decide)))) (by (try simp only [List.cons_append, List.nil_append]); exact rfl) (Or.inl rfl) ?_
  refine can_nil ?_
  refine ps_then ?_
  refine cs_seq ?_
  refine cs_seq ?_
  refine cs_seq_region [0, 1, 2, 3, 4] rfl ?_
  refine c_move rfl rfl rfl rfl (by conv => lhs; whnf) ?_
  refine c_len rfl rfl rfl rfl Tryz.underlying22 rfl ?_
  first | refine c_subI rfl rfl rfl rfl rfl rfl xW ?_ | refine c_sub rfl rfl rfl rfl rfl rfl ?_
  refine c_assign rfl rfl rfl rfl (by conv => lhs; whnf) ?_
  refine c_assign rfl rfl rfl rfl (by conv => lhs; whnf) ?_
  refine can_nil ?_
  refine ps_then ?_
  refine cs_block ?_
  refine cs_loopS [11, 12, 53, 54, 55, 56, 57, 58, 59, 60, 61, 62, 63, 64, 65, 66, 67, 68] (fun m L s r => ∃ i : Nat, i ≤ 8 ∧ m = 8 - i ∧ L = [(11, .int .i64 (i : Int)), (12, .int .i64 ((padLen 4 n : Int) - 1 - (i : Int)))] ∧ s = Bk g47 (ne .u8 (padRow 4 n i)) 5 :: Bk g6 shv32 291 :: sps ∧ rs = r) [(11, .int .i64 (0 : Nat)), (12, .int .i64 ((padLen 4 n : Int) - 1 - (0 : Nat)))] (⟨rfl, by show Value.int _ _ = Value.int _ _; congr 1; omega, trivial⟩) (⟨0, by omega, rfl, rfl, rfl, rfl⟩) ?_
  rintro k0 f0 _ _ _ ⟨i, hi, rfl, rfl, rfl, rfl⟩
  refine cs_seq ?_
  refine cs_seq ?_
  refine cs_seq_region [0, 1] rfl ?_
  refine c_move rfl rfl rfl rfl (by conv => lhs; whnf) ?_
  refine c_lss rfl rfl rfl rfl rfl rfl ?_
  refine can_nil ?_
  refine ps_then ?_
  refine cs_cond rfl (fun hc4 => ?_) (fun hc4 => ?_)
  · simp at hc4
    refine cs_skip ?_
    refine ps_then ?_
    refine cs_seq ?_
    refine cs_block ?_
    refine cs_seq_region [0, 1, 2, 3, 4, 5, 6, 7, 8, 9, 10] rfl ?_
    refine c_move rfl rfl rfl rfl (by conv => lhs; whnf) ?_
    refine c_move rfl rfl rfl rfl (by conv => lhs; whnf) ?_
    refine c_move rfl rfl rfl rfl (by conv => lhs; whnf) ?_
    first | refine c_mulI rfl rfl rfl rfl rfl rfl xW ?_ | refine c_mul rfl rfl rfl rfl rfl rfl ?_
    refine n_conv (p := 8 * n) rfl rfl rfl rfl Tryz.underlying3 Tryz.underlying97 rfl rfl ?_
    rw [show 8 * n % 2 ^ IntKind.bits .u64 = 8 * n from Nat.mod_eq_of_lt (by show _ < 2 ^ 64; omega)]
    refine c_move rfl rfl rfl rfl (by conv => lhs; whnf) ?_
    first | refine c_mulI rfl rfl rfl rfl rfl rfl xW ?_ | refine c_mul rfl rfl rfl rfl rfl rfl ?_
    refine n_shr (b := 8 * i) rfl rfl rfl rfl rfl rfl (by omega) (by show _ ≤ 64; omega) ?_
    refine n_conv rfl rfl rfl rfl Tryz.underlying97 Tryz.underlying5 rfl rfl ?_
    refine c_indexAddrS1 rfl rfl rfl rfl Tryz.underlying22 Tryz.sizeOf5 rfl rfl xD ?_
    refine c_store1 rfl rfl rfl Tryz.sizeOf5 rfl rfl xF rfl (by simp [ne_length, padRow_length 4 n i (by decide) (by omega)]; omega) (padPut 4 n i _ (by decide) (by omega) (by omega)) (by (try simp only [List.cons_append, List.nil_append]); exact rfl) (Or.inl rfl) ?_
    refine can_nil ?_
    refine ps_block_normal ?_
    refine ps_then ?_
    refine cs_seq_region [0, 1, 2, 3, 4, 5] rfl ?_
    refine c_move rfl rfl rfl rfl (by conv => lhs; whnf) ?_
    first | refine c_addI rfl rfl rfl rfl rfl rfl xW ?_ | refine c_add rfl rfl rfl rfl rfl rfl ?_
    refine c_move rfl rfl rfl rfl (by conv => lhs; whnf) ?_
    first | refine c_subI rfl rfl rfl rfl rfl rfl xW ?_ | refine c_sub rfl rfl rfl rfl rfl rfl ?_
    refine c_assign rfl rfl rfl rfl (by conv => lhs; whnf) ?_
    refine c_assign rfl rfl rfl rfl (by conv => lhs; whnf) ?_
    refine can_nil ?_
    refine ps_roundS [(11, .int .i64 ((i + 1 : Nat) : Int)), (12, .int .i64 ((padLen 4 n : Int) - 1 - ((i + 1 : Nat) : Int)))] ⟨rfl, by show Value.int _ _ = Value.int _ _; congr 1; omega, trivial⟩ (by repeat (first | exact Mix.base | refine Mix.upd rfl ?_ | refine Mix.upds rfl ?_ | refine Mix.mix rfl ?_ | exact Mix.refl)) (8 - (i + 1)) (by omega) (⟨i + 1, by omega, rfl, rfl, rfl, rfl⟩) (.mk xS xS)
  · simp at hc4
    have et : i = 8 := by omega
    subst et
    rw [padRow8]
    refine cs_exit ?_
    refine ps_then_exit ?_
    refine ps_then_exit ?_
    refine ps_block_here ?_
    refine ps_then ?_
    refine cs_seq ?_
    refine cs_seq_region [0, 1, 2] rfl ?_
    refine c_move rfl rfl rfl rfl (by conv => lhs; whnf) ?_
    refine c_assign rfl rfl rfl rfl (by conv => lhs; whnf) ?_
    refine c_assign rfl rfl rfl rfl (by conv => lhs; whnf) ?_
    refine can_nil ?_
    refine ps_then ?_
    refine cs_ret ?_
    refine ps_en (en_asRow (dr := b8) (pre := []) (xs := padN 4 n) (m := padLen 4 n) (fun hh _ => b8_reps (padN_lt _ _)) (padN_length _ _ (by decide)) (by omega)) ?_
    rintro _ _ ⟨rfl, rfl⟩
    refine ps_en (en_sub (sps' := Row b8 5 _ (padN 4 n) :: sps) (by repeat (first | exact List.Sublist.refl _ | apply List.Sublist.cons_cons | apply List.Sublist.cons))) ?_
    rintro _ _ ⟨rfl, rfl⟩
    apply ps_end2 rfl Tryz.results220 (by conv => lhs; whnf) (by conv => lhs; whnf)
    · exact ⟨_, rfl, rfl, rfl⟩
    · exact (.mk xS xS)

end Go.Proofs.YtmodmjekhlnjpaaGreatDoor
namespace Go.Proofs.YtmodmjekhlnjpaaGreatDoor
open Go.RowKit
def st32 : V8 := ⟨1779033703, 3144134277, 1013904242, 2773480762, 1359893119, 2600822924, 528734635, 1541459225⟩
def st64 : V8 := ⟨7640891576956012808, 13503953896175478587, 4354685564936845355, 11912009170470909681, 5840696475078001361, 11170449401992604703, 2270897969802886507, 6620516959819538809⟩
theorem st32_lt : V8lt 32 st32 := by constructor <;> decide
theorem st64_lt : V8lt 64 st64 := by constructor <;> decide
/-- The cells of a hash. -/
def hc32 (n : Nat) (v : Value) (a c : V8) : List Value := [.int .i64 4, .int .i64 32, .int .i64 64, .int .i64 7, .int .i64 18, .int .i64 3, .int .i64 17, .int .i64 19, .int .i64 10, .int .i64 2, .int .i64 13, .int .i64 22, .int .i64 6, .int .i64 11, .int .i64 25, .int .i64 (n : Int), v, .int .u32 (a.a : Int), .int .u32 (a.b : Int), .int .u32 (a.c : Int), .int .u32 (a.d : Int), .int .u32 (a.e : Int), .int .u32 (a.f : Int), .int .u32 (a.g : Int), .int .u32 (a.h : Int), .int .u64 (c.a : Int), .int .u64 (c.b : Int), .int .u64 (c.c : Int), .int .u64 (c.d : Int), .int .u64 (c.e : Int), .int .u64 (c.f : Int), .int .u64 (c.g : Int), .int .u64 (c.h : Int)]
theorem reset32_ok (n : Nat) (v : Value) (a c : V8) (g : Nat) (w0 : World) (sps : List Sp) (rs : List Fa) (hst : Cl 7 0 startsV ∈ rs) :
    FnOk Tryz.prog 217 #[.pointer (some ⟨g, 0, none⟩)] w0 (Bk g (hc32 n v a c) 297 :: sps) rs fun r s q => r = .tuple #[] ∧ Bk g (hc32 0 (.slice none 0 0) st32 st64) 297 :: sps = s ∧ rs = q := by
  refine fn_enter Tryz.func217 rfl Tryz.ntmps217 rfl ?_
  refine cs_seq ?_
  refine cs_seq ?_
  refine cs_seq_region [0, 1] rfl ?_
  refine c_move rfl rfl rfl rfl (by conv => lhs; whnf) ?_
  refine c_eqP rfl rfl rfl rfl Tryz.underlying229 rfl rfl ?_
  refine can_nil ?_
  refine ps_then ?_
  refine cs_cond rfl (fun hc1 => Bool.noConfusion (show true = false from hc1.symm.trans (rfl))) (fun _ => ?_)
  refine cs_skip ?_
  refine ps_then ?_
  refine cs_seq ?_
  refine cs_seq_region [0, 1, 2, 3, 4, 5, 6, 7] rfl ?_
  refine c_move rfl rfl rfl rfl (by conv => lhs; whnf) ?_
  refine c_move rfl rfl rfl rfl (by conv => lhs; whnf) ?_
  first | refine c_nilCheck rfl rfl rfl rfl rfl ?_ | refine c_nilCheckF rfl rfl rfl rfl rfl ?_
  refine c_fieldAddr rfl rfl rfl rfl Tryz.underlying297 rfl Tryz.sizeOf3 rfl rfl ?_
  refine c_store1 (bs' := (hc32 0 v a c)) rfl rfl rfl Tryz.sizeOf3 rfl rfl xF rfl (Nat.le_of_ble_eq_true rfl) rfl (by (try simp only [List.cons_append, List.nil_append]); exact rfl) (Or.inl rfl) ?_
  first | refine c_nilCheck rfl rfl rfl rfl rfl ?_ | refine c_nilCheckF rfl rfl rfl rfl rfl ?_
  refine c_fieldAddr rfl rfl rfl rfl Tryz.underlying297 rfl Tryz.sizeOf22 rfl rfl ?_
  refine c_store1 (bs' := (hc32 0 (.slice none 0 0) a c)) rfl rfl rfl Tryz.sizeOf22 rfl rfl xF rfl (Nat.le_of_ble_eq_true rfl) rfl (by (try simp only [List.cons_append, List.nil_append]); exact rfl) (Or.inl rfl) ?_
  refine can_nil ?_
  refine ps_then ?_
  refine cs_seq_region [0, 1, 2, 3, 4, 5, 6, 7, 8, 9, 10, 11] rfl ?_
  refine c_move rfl rfl rfl rfl (by conv => lhs; whnf) ?_
  refine c_move rfl rfl rfl rfl (by conv => lhs; whnf) ?_
  refine c_call rfl rfl rfl rfl Tryz.call278 (narrow_ok w0 _ _) (by exact rfl) (fun _ _ _ _ => Or.inl rfl) ?_
  rintro _ _ _ ⟨rfl, rfl, rfl⟩
  refine c_call rfl rfl rfl rfl Tryz.call280 (begin32_ok w0 _ _ hst) (by exact rfl) (fun _ _ _ _ => Or.inl rfl) ?_
  rintro _ _ _ ⟨rfl, rfl, rfl⟩
  refine c_call rfl rfl rfl rfl Tryz.call279 (wide_ok w0 _ _) (by exact rfl) (fun _ _ _ _ => Or.inl rfl) ?_
  rintro _ _ _ ⟨rfl, rfl, rfl⟩
  refine c_call rfl rfl rfl rfl Tryz.call281 (begin64_ok w0 _ _ hst) (by exact rfl) (fun _ _ _ _ => Or.inl rfl) ?_
  rintro _ _ _ ⟨rfl, rfl, rfl⟩
  first | refine c_nilCheck rfl rfl rfl rfl rfl ?_ | refine c_nilCheckF rfl rfl rfl rfl rfl ?_
  refine c_fieldAddr rfl rfl rfl rfl Tryz.underlying297 rfl Tryz.sizeOf294 rfl rfl ?_
  refine c_storeN (bs' := (hc32 0 (.slice none 0 0) st32 c)) (cs := begin32) rfl rfl rfl Tryz.sizeOf294 rfl rfl xF rfl rfl (Nat.le_of_ble_eq_true rfl) rfl (by (try simp only [List.cons_append, List.nil_append]); exact rfl) (Or.inl rfl) ?_
  first | refine c_nilCheck rfl rfl rfl rfl rfl ?_ | refine c_nilCheckF rfl rfl rfl rfl rfl ?_
  refine c_fieldAddr rfl rfl rfl rfl Tryz.underlying297 rfl Tryz.sizeOf295 rfl rfl ?_
  refine c_storeN (bs' := (hc32 0 (.slice none 0 0) st32 st64)) (cs := startsV) rfl rfl rfl Tryz.sizeOf295 rfl rfl xF rfl rfl (Nat.le_of_ble_eq_true rfl) rfl (by (try simp only [List.cons_append, List.nil_append]); exact rfl) (Or.inl rfl) ?_
  refine can_nil ?_
  apply ps_end0 rfl Tryz.results217
  · exact ⟨rfl, rfl, rfl⟩
  · exact (.mk xS xS)

theorem new32_ok (w0 : World) (sps : List Sp) (rs : List Fa) (hst : Cl 7 0 startsV ∈ rs) :
    FnOk Tryz.prog 157 #[.int .i64 256] w0 sps rs fun r s q => ∃ g, r = .tuple #[.pointer (some ⟨g, 0, none⟩), .int .i64 0] ∧ Bk g (hc32 0 (.slice none 0 0) st32 st64) 297 :: Row b8 5 (.slice none 0 0) [] :: sps = s ∧ rs = q := by
  refine fn_enter Tryz.func157 rfl Tryz.ntmps157 rfl ?_
  refine cs_seq ?_
  refine cs_seq_region [0, 1] rfl ?_
  refine c_assign rfl rfl rfl rfl (by conv => lhs; whnf) ?_
  refine c_assign rfl rfl rfl rfl (by conv => lhs; whnf) ?_
  refine can_nil ?_
  refine ps_then ?_
  refine cs_seq ?_
  refine cs_seq_region [0, 1, 2, 3, 4, 5, 6, 7] rfl ?_
  refine c_move rfl rfl rfl rfl (by conv => lhs; whnf) ?_
  refine c_call rfl rfl rfl rfl Tryz.call216 (of256_ok w0 _ _) (by exact rfl) (fun _ _ _ _ => Or.inl rfl) ?_
  rintro _ _ _ ⟨rfl, rfl, rfl⟩
  refine c_move rfl rfl rfl rfl (by conv => lhs; whnf) ?_
  refine c_extract rfl rfl rfl rfl rfl rfl ?_
  refine c_extract rfl rfl rfl rfl rfl rfl ?_
  refine c_alloc rfl rfl rfl rfl Tryz.zeroValue291 rfl (fun _ => Or.inl rfl) (fun g4 => ?_)
  refine c_storeB rfl rfl rfl Tryz.sizeOf291 rfl rfl xF (by first | (simp [ne_length, wlist_length]; done) | rfl) (by first | (simp [ne_length, wlist_length]; done) | rfl) (by first | exact ne_one _ _ | rfl | simp [Value.oneCell']) (by (try simp only [List.cons_append, List.nil_append]); exact rfl) (Or.inl rfl) ?_
  refine c_assign rfl rfl rfl rfl (by conv => lhs; whnf) ?_
  refine can_nil ?_
  refine ps_then ?_
  refine cs_seq ?_
  refine cs_seq ?_
  refine cs_seq_region [0, 1] rfl ?_
  refine c_move rfl rfl rfl rfl (by conv => lhs; whnf) ?_
  refine c_not rfl rfl rfl rfl rfl ?_
  refine can_nil ?_
  refine ps_then ?_
  refine cs_cond rfl (fun hc1 => Bool.noConfusion (show true = false from hc1.symm.trans (rfl))) (fun _ => ?_)
  refine cs_skip ?_
  refine ps_then ?_
  refine cs_seq ?_
  refine cs_seq_region [0, 1, 2, 3] rfl ?_
  first | refine c_loadN rfl rfl rfl Tryz.isAgg291 Tryz.sizeOf291 rfl (ldS rfl rfl xM subAll) (by first | (simp [ne_length, wlist_length]; done) | rfl) ?_ | refine c_loadN (cs := [_, _, _, _, _, _, _, _, _, _, _, _, _, _, _]) rfl rfl rfl Tryz.isAgg291 Tryz.sizeOf291 rfl (ldS rfl rfl xM (subN (m := 15) (by exact rfl))) rfl ?_ | refine c_loadN rfl rfl rfl Tryz.isAgg291 Tryz.sizeOf291 rfl (ldSC (k := 0) rfl rfl xM subAll) (by first | (simp [ne_length, wlist_length]; done) | rfl) ?_
  refine c_buildS (cs := [_, _, _, _, _, _, _, _, _, _, _, _, _, _, _, _, _, _, _, _, _, _, _, _, _, _, _, _, _, _, _, _, _]) rfl rfl rfl rfl Tryz.underlying297 Tryz.zeroValue297 (by intro w; simp [Tryz.sizeOf3, Tryz.sizeOf22, Tryz.sizeOf291, Tryz.sizeOf294, Tryz.sizeOf295]; rfl) rfl rfl ?_
  refine c_box rfl rfl rfl rfl rfl (fun _ => Or.inl rfl) (fun g16 => ?_)
  refine c_assign rfl rfl rfl rfl (by conv => lhs; whnf) ?_
  refine can_nil ?_
  refine ps_then ?_
  refine cs_seq ?_
  refine cs_seq_region [0, 1] rfl ?_
  refine c_move rfl rfl rfl rfl (by conv => lhs; whnf) ?_
  refine c_call rfl rfl rfl rfl Tryz.call217 (reset32_ok 0 (.slice none 0 0) ⟨0, 0, 0, 0, 0, 0, 0, 0⟩ ⟨0, 0, 0, 0, 0, 0, 0, 0⟩ g16 w0 _ _ hst) (by exact rfl) (fun _ _ _ _ => Or.inl rfl) ?_
  rintro _ _ _ ⟨rfl, rfl, rfl⟩
  refine can_nil ?_
  refine ps_then ?_
  refine cs_seq ?_
  refine cs_seq_region [0, 1, 2] rfl ?_
  refine c_move rfl rfl rfl rfl (by conv => lhs; whnf) ?_
  refine c_assign rfl rfl rfl rfl (by conv => lhs; whnf) ?_
  refine c_assign rfl rfl rfl rfl (by conv => lhs; whnf) ?_
  refine can_nil ?_
  refine ps_then ?_
  refine cs_ret ?_
  refine ps_en (en_nilRow b8 5) ?_
  rintro _ _ ⟨rfl, rfl⟩
  refine ps_en (en_arr (sps' := Bk g16 (hc32 0 (.slice none 0 0) st32 st64) 297 :: Row b8 5 (.slice none 0 0) [] :: sps) (by repeat (first | exact Arr.refl | (refine Arr.cons (by repeat (first | exact Rem.here | apply Rem.there)) ?_) | refine Arr.sub (by repeat (first | exact List.Sublist.refl _ | apply List.Sublist.cons_cons | apply List.Sublist.cons))))) ?_
  rintro _ _ ⟨rfl, rfl⟩
  apply ps_end2 rfl Tryz.results157 (by conv => lhs; whnf) (by conv => lhs; whnf)
  · exact ⟨_, rfl, rfl, rfl⟩
  · exact (.mk xS xS)

theorem copy32_ok (n : Nat) (v : Value) (a c : V8) (xs : List Nat) (g : Nat) (w0 : World) (sps : List Sp) (rs : List Fa) (hv : Rd b8 v xs ∈ rs) (hl : xs.length ≤ 10000000) :
    FnOk Tryz.prog 219 #[.pointer (some ⟨g, 0, none⟩)] w0 (Bk g (hc32 n v a c) 297 :: sps) rs fun r s q => ∃ g' v', r = .pointer (some ⟨g', 0, none⟩) ∧ Bk g' (hc32 n v' a c) 297 :: Row b8 5 v' xs :: sps = s ∧ rs = q := by
  refine fn_en (en_shape hv) ?_
  rintro _ _ ⟨rfl, rfl, A0, c0, rfl, hc, hA, -⟩
  refine fn_enter Tryz.func219 rfl Tryz.ntmps219 rfl ?_
  refine cs_seq ?_
  refine cs_seq_region [0] rfl ?_
  refine c_assign rfl rfl rfl rfl (by conv => lhs; whnf) ?_
  refine can_nil ?_
  refine ps_then ?_
  refine cs_seq ?_
  refine cs_seq ?_
  refine cs_seq_region [0, 1] rfl ?_
  refine c_move rfl rfl rfl rfl (by conv => lhs; whnf) ?_
  refine c_eqP rfl rfl rfl rfl Tryz.underlying229 rfl rfl ?_
  refine can_nil ?_
  refine ps_then ?_
  refine cs_cond rfl (fun hc1 => Bool.noConfusion (show true = false from hc1.symm.trans (rfl))) (fun _ => ?_)
  refine cs_skip ?_
  refine ps_then ?_
  refine cs_seq ?_
  refine cs_seq_region [0, 1, 2, 3, 4] rfl ?_
  refine c_move rfl rfl rfl rfl (by conv => lhs; whnf) ?_
  first | refine c_nilCheck rfl rfl rfl rfl rfl ?_ | refine c_nilCheckF rfl rfl rfl rfl rfl ?_
  refine c_loadN (cs := (hc32 n _ a c)) rfl rfl rfl Tryz.isAgg297 Tryz.sizeOf297 rfl (ldS rfl rfl xM subAll) rfl ?_
  refine c_alloc rfl rfl rfl rfl Tryz.zeroValue297 rfl (fun _ => Or.inl rfl) (fun g3 => ?_)
  refine c_storeB (cs := (hc32 n _ a c)) rfl rfl rfl Tryz.sizeOf297 rfl rfl xF rfl rfl rfl (by (try simp only [List.cons_append, List.nil_append]); exact rfl) (Or.inl rfl) ?_
  refine can_nil ?_
  refine ps_then ?_
  refine cs_seq ?_
  refine cs_seq_region [0, 1, 2, 3, 4, 5, 6] rfl ?_
  refine c_move rfl rfl rfl rfl (by conv => lhs; whnf) ?_
  first | refine c_nilCheck rfl rfl rfl rfl rfl ?_ | refine c_nilCheckF rfl rfl rfl rfl rfl ?_
  refine c_fieldAddr rfl rfl rfl rfl Tryz.underlying297 rfl Tryz.sizeOf22 rfl rfl ?_
  first | refine c_load1 rfl rfl rfl Tryz.isAgg22 rfl (ldS rfl rfl xM (sub1 (by exact rfl))) ?_ | refine c_load1 rfl rfl rfl Tryz.isAgg22 rfl (ldSC (k := 0) rfl rfl xM (sub1 (by exact rfl))) ?_ | refine c_load1 rfl rfl rfl Tryz.isAgg22 rfl (ldSC rfl rfl xM (sub1 (by exact rfl))) ?_
  refine can_en (en_nilRow b8 5) ?_
  rintro _ _ ⟨rfl, rfl⟩
  refine c_append (dr := b8) (xs := []) (ys := xs) rfl rfl rfl rfl sty_b8 rfl rfl xF xM (by simp; omega) (fun _ => Or.inl rfl) (fun A13 => ?_)
  refine can_en (en_rowShape (xs := xs) xM) ?_
  rintro _ _ ⟨rfl, rfl, B13, c13, rfl, -, -, -⟩
  refine c_fieldAddr rfl rfl rfl rfl Tryz.underlying297 rfl Tryz.sizeOf22 rfl rfl ?_
  refine c_store1 (bs' := (hc32 n (.slice B13 xs.length c13) a c)) rfl rfl rfl Tryz.sizeOf22 rfl rfl xF rfl (Nat.le_of_ble_eq_true rfl) rfl (by (try simp only [List.cons_append, List.nil_append]); exact rfl) (Or.inl rfl) ?_
  refine can_nil ?_
  refine ps_then ?_
  refine cs_seq ?_
  refine cs_seq_region [0] rfl ?_
  refine c_assign rfl rfl rfl rfl (by conv => lhs; whnf) ?_
  refine can_nil ?_
  refine ps_then ?_
  refine cs_ret ?_
  refine ps_en (en_arr (sps' := Bk g3 (hc32 n (.slice B13 xs.length c13) a c) 297 :: Row b8 5 (.slice B13 xs.length c13) xs :: sps) (by repeat (first | exact Arr.refl | (refine Arr.cons (by repeat (first | exact Rem.here | apply Rem.there)) ?_) | refine Arr.sub (by repeat (first | exact List.Sublist.refl _ | apply List.Sublist.cons_cons | apply List.Sublist.cons))))) ?_
  rintro _ _ ⟨rfl, rfl⟩
  apply ps_end1 rfl Tryz.results219 (by conv => lhs; whnf)
  · exact ⟨_, .slice B13 xs.length c13, rfl, rfl, rfl⟩
  · exact (.mk xS xS)

theorem take32_ok (n : Nat) (v w : Value) (a c : V8) (xs : List Nat) (g : Nat) (w0 : World) (sps : List Sp) (rs : List Fa) (hct : Cl 8 0 constsV ∈ rs) (hv : Rd b8 w xs ∈ rs) (ha : V8lt 32 a) :
    FnOk Tryz.prog 218 #[.pointer (some ⟨g, 0, none⟩), w] w0 (Bk g (hc32 n v a c) 297 :: sps) rs fun r s q => ∃ w', r = w' ∧ Bk g (hc32 n v (blks sh32 kn32 a xs (full sh32 xs)) c) 297 :: sps = s ∧ Rd b8 w' (xs.drop (full sh32 xs * 64)) :: rs = q := by
  refine fn_en (en_bytes hv) ?_
  rintro _ _ ⟨rfl, rfl, hB⟩
  refine fn_enter Tryz.func218 rfl Tryz.ntmps218 rfl ?_
  refine cs_seq ?_
  refine cs_seq_region [0] rfl ?_
  refine c_assign rfl rfl rfl rfl (by conv => lhs; whnf) ?_
  refine can_nil ?_
  refine ps_then ?_
  refine cs_seq ?_
  refine cs_block ?_
  refine cs_en (en_dup hv) ?_
  rintro _ _ ⟨rfl, rfl⟩
  refine cs_loopS [1, 5, 6, 7, 8, 9, 10, 11, 12, 13, 14, 15, 16, 17, 18, 19, 20, 21, 22, 23, 24, 25, 26, 27, 28, 29, 30, 31, 32, 33, 34, 35, 36, 37, 38, 39, 40, 41, 42, 43, 44, 45, 46, 47, 48, 49, 50, 51, 52, 53, 54, 55, 56, 57, 58, 59, 60, 61, 62, 63] (fun m L s r => ∃ (j : Nat) (w' : Value), j * 64 ≤ xs.length ∧ m = xs.length - j * 64 ∧ L = [(1, w')] ∧ s = Bk g (hc32 n v (blks sh32 kn32 a xs (j)) c) 297 :: sps ∧ r = Rd b8 w' (xs.drop (j * 64)) :: rs) [(1, w)] (⟨rfl, trivial⟩) (⟨0, w, by omega, rfl, rfl, rfl, by rw [Nat.zero_mul, List.drop_zero]⟩) ?_
  rintro k0 f0 _ _ _ ⟨j, w', hj, rfl, rfl, rfl, rfl⟩
  have hlen : (xs.drop (j * 64)).length = xs.length - j * 64 := List.length_drop
  refine cs_en (en_shape (List.mem_cons_self)) ?_
  rintro _ _ ⟨rfl, rfl, A1, c1, rfl, hc, hA, -⟩
  refine cs_seq ?_
  refine cs_seq ?_
  refine cs_seq_region [0, 1, 2, 3, 4, 5, 6, 7] rfl ?_
  refine c_move rfl rfl rfl rfl (by conv => lhs; whnf) ?_
  refine c_len rfl rfl rfl rfl Tryz.underlying22 rfl ?_
  refine c_move rfl rfl rfl rfl (by conv => lhs; whnf) ?_
  first | refine c_nilCheck rfl rfl rfl rfl rfl ?_ | refine c_nilCheckF rfl rfl rfl rfl rfl ?_
  refine c_fieldAddr rfl rfl rfl rfl Tryz.underlying297 rfl Tryz.sizeOf291 rfl rfl ?_
  first | refine c_loadN rfl rfl rfl Tryz.isAgg291 Tryz.sizeOf291 rfl (ldS rfl rfl xM subAll) (by first | (simp [ne_length, wlist_length]; done) | rfl) ?_ | refine c_loadN (cs := [_, _, _, _, _, _, _, _, _, _, _, _, _, _, _]) rfl rfl rfl Tryz.isAgg291 Tryz.sizeOf291 rfl (ldS rfl rfl xM (subN (m := 15) (by exact rfl))) rfl ?_ | refine c_loadN rfl rfl rfl Tryz.isAgg291 Tryz.sizeOf291 rfl (ldSC (k := 0) rfl rfl xM subAll) (by first | (simp [ne_length, wlist_length]; done) | rfl) ?_
  refine c_call rfl rfl rfl rfl Tryz.call282 (block32_ok w0 _ _) (by exact rfl) (fun _ _ _ _ => Or.inl rfl) ?_
  rintro _ _ _ ⟨rfl, rfl, rfl⟩
  refine c_geq rfl rfl rfl rfl rfl rfl ?_
  refine can_nil ?_
  refine ps_then ?_
  refine cs_cond rfl (fun hc1 => ?_) (fun hc1 => ?_)
  · simp at hc1
    refine cs_skip ?_
    refine ps_then ?_
    refine cs_block ?_
    refine cs_seq ?_
    refine cs_seq ?_
    refine cs_seq_region [0, 1, 2, 3, 4, 5] rfl ?_
    refine c_move rfl rfl rfl rfl (by conv => lhs; whnf) ?_
    first | refine c_nilCheck rfl rfl rfl rfl rfl ?_ | refine c_nilCheckF rfl rfl rfl rfl rfl ?_
    refine c_fieldAddr rfl rfl rfl rfl Tryz.underlying297 rfl Tryz.sizeOf291 rfl rfl ?_
    refine c_fieldAddr rfl rfl rfl rfl Tryz.underlying291 rfl Tryz.sizeOf3 rfl rfl ?_
    first | refine c_load1 rfl rfl rfl Tryz.isAgg3 rfl (ldS rfl rfl xM (sub1 (by exact rfl))) ?_ | refine c_load1 rfl rfl rfl Tryz.isAgg3 rfl (ldSC (k := 0) rfl rfl xM (sub1 (by exact rfl))) ?_ | refine c_load1 rfl rfl rfl Tryz.isAgg3 rfl (ldSC rfl rfl xM (sub1 (by exact rfl))) ?_
    refine c_eql rfl rfl rfl rfl rfl rfl ?_
    refine can_nil ?_
    refine ps_then ?_
    refine cs_cond rfl (fun _ => ?_) (fun hc2 => Bool.noConfusion (show false = true from hc2.symm.trans (rfl)))
    refine cs_draw_region [0, 0, 0, 0, 1, 0, 0, 0, 1, 0, 0, 0, 0, 1, 2, 0, 2, 0, 0, 2] [false, false, false, false, false, false, false, false, false, false, false, false, false, false, true, false, true, false, false, false] [0, 1, 2, 3, 4, 5, 6, 7, 8, 9, 10, 11, 12, 13, 14, 15, 16, 17, 18, 19] (by kernel_rfl) (by kernel_rfl) (by kernel_rfl) (by kernel_rfl) xQ ?_
    refine c_move rfl rfl rfl rfl (by conv => lhs; whnf) ?_
    refine c_move rfl rfl rfl rfl (by conv => lhs; whnf) ?_
    first | refine c_nilCheck rfl rfl rfl rfl rfl ?_ | refine c_nilCheckF rfl rfl rfl rfl rfl ?_
    refine c_fieldAddr rfl rfl rfl rfl Tryz.underlying297 rfl Tryz.sizeOf291 rfl rfl ?_
    first | refine c_loadN rfl rfl rfl Tryz.isAgg291 Tryz.sizeOf291 rfl (ldD rfl rfl xE xM subAll) (by first | (simp [ne_length, wlist_length]; done) | rfl) ?_ | refine c_loadN (cs := [_, _, _, _, _, _, _, _, _, _, _, _, _, _, _]) rfl rfl rfl Tryz.isAgg291 Tryz.sizeOf291 rfl (ldD rfl rfl xE xM (subN (m := 15) (by exact rfl))) rfl ?_ | refine c_loadN rfl rfl rfl Tryz.isAgg291 Tryz.sizeOf291 rfl (ldDC (k := 0) rfl rfl xE xM subAll) (by first | (simp [ne_length, wlist_length]; done) | rfl) ?_
    refine c_move rfl rfl rfl rfl (by conv => lhs; whnf) ?_
    first | refine c_nilCheck rfl rfl rfl rfl rfl ?_ | refine c_nilCheckF rfl rfl rfl rfl rfl ?_
    refine c_fieldAddr rfl rfl rfl rfl Tryz.underlying297 rfl Tryz.sizeOf294 rfl rfl ?_
    first | refine c_loadN rfl rfl rfl Tryz.isAgg294 Tryz.sizeOf294 rfl (ldD rfl rfl xE xM subAll) (by first | (simp [ne_length, wlist_length]; done) | rfl) ?_ | refine c_loadN (cs := [_, _, _, _, _, _, _, _]) rfl rfl rfl Tryz.isAgg294 Tryz.sizeOf294 rfl (ldD rfl rfl xE xM (subN (m := 8) (by exact rfl))) rfl ?_ | refine c_loadN rfl rfl rfl Tryz.isAgg294 Tryz.sizeOf294 rfl (ldDC (k := 0) rfl rfl xE xM subAll) (by first | (simp [ne_length, wlist_length]; done) | rfl) ?_
    refine c_move rfl rfl rfl rfl (by conv => lhs; whnf) ?_
    refine c_move rfl rfl rfl rfl (by conv => lhs; whnf) ?_
    first | refine c_nilCheck rfl rfl rfl rfl rfl ?_ | refine c_nilCheckF rfl rfl rfl rfl rfl ?_
    refine c_fieldAddr rfl rfl rfl rfl Tryz.underlying297 rfl Tryz.sizeOf291 rfl rfl ?_
    first | refine c_loadN rfl rfl rfl Tryz.isAgg291 Tryz.sizeOf291 rfl (ldD rfl rfl xE xM subAll) (by first | (simp [ne_length, wlist_length]; done) | rfl) ?_ | refine c_loadN (cs := [_, _, _, _, _, _, _, _, _, _, _, _, _, _, _]) rfl rfl rfl Tryz.isAgg291 Tryz.sizeOf291 rfl (ldD rfl rfl xE xM (subN (m := 15) (by exact rfl))) rfl ?_ | refine c_loadN rfl rfl rfl Tryz.isAgg291 Tryz.sizeOf291 rfl (ldDC (k := 0) rfl rfl xE xM subAll) (by first | (simp [ne_length, wlist_length]; done) | rfl) ?_
    refine c_call rfl rfl rfl rfl Tryz.call282 (block32_ok w0 _ _) (by exact rfl) (by rintro v s r ⟨rfl, rfl, rfl⟩; exact Or.inr xE) ?_
    rintro _ _ _ ⟨rfl, rfl, rfl⟩
    refine c_slice (k := .i64) (k' := .i64) (hi := 64) rfl rfl rfl rfl Tryz.underlying22 Tryz.sizeOf5 rfl xM rfl rfl (.inl ⟨rfl, rfl⟩) (.inr rfl) (by first | omega | (simp <;> omega)) (by first | omega | (simp <;> omega)) (fun A34 => ?_)
    refine c_call rfl rfl rfl rfl Tryz.call283 (mix32_ok (blks sh32 kn32 a xs (j)) _ ((xs.drop (j * 64)).take 64) w0 _ _ (blks_lt (p := sh32) ha j) xM xM (by simp; omega) (fun x hx => hB x (List.mem_of_mem_drop (List.mem_of_mem_take hx)))) (by exact rfl) (by rintro v s r ⟨rfl, rfl, rfl⟩; exact Or.inr xE) ?_
    rintro _ _ _ ⟨rfl, rfl, rfl⟩
    refine can_forget rfl ?_
    first | refine c_nilCheck rfl rfl rfl rfl rfl ?_ | refine c_nilCheckF rfl rfl rfl rfl rfl ?_
    refine c_fieldAddr rfl rfl rfl rfl Tryz.underlying297 rfl Tryz.sizeOf294 rfl rfl ?_
    refine c_storeN (bs' := (hc32 n v (mixS sh32 kn32 (blks sh32 kn32 a xs (j)) ((xs.drop (j * 64)).take 64)) c)) (cs := v8c .u32 (mixS sh32 kn32 (blks sh32 kn32 a xs (j)) ((xs.drop (j * 64)).take 64))) rfl rfl rfl Tryz.sizeOf294 rfl rfl xF rfl rfl (Nat.le_of_ble_eq_true rfl) rfl (by (try simp only [List.cons_append, List.nil_append]); exact rfl) (Or.inl rfl) ?_
    refine can_nil ?_
    refine ps_then ?_
    refine cs_seq_region [0, 1, 2, 3, 4, 5, 6, 7] rfl ?_
    refine c_move rfl rfl rfl rfl (by conv => lhs; whnf) ?_
    refine c_move rfl rfl rfl rfl (by conv => lhs; whnf) ?_
    first | refine c_nilCheck rfl rfl rfl rfl rfl ?_ | refine c_nilCheckF rfl rfl rfl rfl rfl ?_
    refine c_fieldAddr rfl rfl rfl rfl Tryz.underlying297 rfl Tryz.sizeOf291 rfl rfl ?_
    first | refine c_loadN rfl rfl rfl Tryz.isAgg291 Tryz.sizeOf291 rfl (ldS rfl rfl xM subAll) (by first | (simp [ne_length, wlist_length]; done) | rfl) ?_ | refine c_loadN (cs := [_, _, _, _, _, _, _, _, _, _, _, _, _, _, _]) rfl rfl rfl Tryz.isAgg291 Tryz.sizeOf291 rfl (ldS rfl rfl xM (subN (m := 15) (by exact rfl))) rfl ?_ | refine c_loadN rfl rfl rfl Tryz.isAgg291 Tryz.sizeOf291 rfl (ldSC (k := 0) rfl rfl xM subAll) (by first | (simp [ne_length, wlist_length]; done) | rfl) ?_
    refine c_call rfl rfl rfl rfl Tryz.call282 (block32_ok w0 _ _) (by exact rfl) (fun _ _ _ _ => Or.inl rfl) ?_
    rintro _ _ _ ⟨rfl, rfl, rfl⟩
    refine c_slice (k := .i64) (k' := .i64) (lo := 64) rfl rfl rfl rfl Tryz.underlying22 Tryz.sizeOf5 rfl xM rfl rfl (.inr rfl) (.inl ⟨rfl, rfl⟩) (by first | omega | (simp <;> omega)) (by first | omega | (simp <;> omega)) (fun A63 => ?_)
    refine c_assign rfl rfl rfl rfl (by conv => lhs; whnf) ?_
    refine can_nil ?_
    refine ps_block_normal ?_
    rw [List.take_length, List.drop_drop, show j * 64 + 64 = (j + 1) * 64 by omega, show mixS sh32 kn32 (blks sh32 kn32 a xs (j)) ((xs.drop (j * 64)).take 64) = (blks sh32 kn32 a xs (j + 1)) from rfl]
    refine ps_en (en_keep (Rd b8 _ (xs.drop ((j + 1) * 64)) :: rs) (by (repeat (refine List.forall_mem_cons.2 ⟨by repeat (first | exact .head _ | assumption | apply List.Mem.tail), ?_⟩)); intro r hr; repeat (first | assumption | apply List.Mem.tail))) ?_
    rintro _ _ ⟨rfl, rfl⟩
    refine ps_roundS [(1, _)] ⟨rfl, trivial⟩ (by repeat (first | exact Mix.base | refine Mix.upd rfl ?_ | refine Mix.upds rfl ?_ | refine Mix.mix rfl ?_ | exact Mix.refl)) (xs.length - (j + 1) * 64) (by omega) (⟨j + 1, _, by omega, rfl, rfl, rfl, rfl⟩) (.mk xS xS)
  · simp at hc1
    have ej : j = full sh32 xs := by show j = xs.length / 64; omega
    subst ej
    refine cs_exit ?_
    refine ps_then_exit ?_
    refine ps_then_exit ?_
    refine ps_block_here ?_
    refine ps_then ?_
    refine cs_seq ?_
    refine cs_seq_region [0, 1] rfl ?_
    refine c_move rfl rfl rfl rfl (by conv => lhs; whnf) ?_
    refine c_assign rfl rfl rfl rfl (by conv => lhs; whnf) ?_
    refine can_nil ?_
    refine ps_then ?_
    refine cs_ret ?_
    apply ps_end1 rfl Tryz.results218 (by conv => lhs; whnf)
    · exact ⟨_, rfl, rfl, rfl⟩
    · exact (.mk xS xS)

theorem write32_ok (n : Nat) (v w : Value) (a c : V8) (rest ys : List Nat) (g : Nat) (w0 : World) (sps : List Sp) (rs : List Fa) (hct : Cl 8 0 constsV ∈ rs) (hv : Rd b8 w ys ∈ rs) (ha : V8lt 32 a) (hn : n + ys.length ≤ 1048576) (hr : rest.length ≤ 1000) :
    FnOk Tryz.prog 158 #[.pointer (some ⟨g, 0, none⟩), w] w0 (Bk g (hc32 n v a c) 297 :: Row b8 5 v rest :: sps) rs fun r s q => ∃ v', r = .int .i64 0 ∧ Bk g (hc32 (n + ys.length) v' (blks sh32 kn32 a (rest ++ ys) (full sh32 (rest ++ ys))) c) 297 :: Row b8 5 v' ((rest ++ ys).drop (full sh32 (rest ++ ys) * 64)) :: sps = s ∧ rs = q := by
  refine fn_en (en_shape hv) ?_
  rintro _ _ ⟨rfl, rfl, A0, c0, rfl, hc, hA, -⟩
  refine fn_enter Tryz.func158 rfl Tryz.ntmps158 rfl ?_
  refine cs_seq ?_
  refine cs_seq_region [0] rfl ?_
  refine c_assign rfl rfl rfl rfl (by conv => lhs; whnf) ?_
  refine can_nil ?_
  refine ps_then ?_
  refine cs_seq ?_
  refine cs_block ?_
  refine cs_seq ?_
  refine cs_seq_region [0, 1, 2] rfl ?_
  refine c_move rfl rfl rfl rfl (by conv => lhs; whnf) ?_
  refine c_eqP rfl rfl rfl rfl Tryz.underlying229 rfl rfl ?_
  refine c_assign rfl rfl rfl rfl (by conv => lhs; whnf) ?_
  refine can_nil ?_
  refine ps_then ?_
  refine cs_cond rfl (fun hc1 => Bool.noConfusion (show true = false from hc1.symm.trans (rfl))) (fun _ => ?_)
  refine cs_seq ?_
  refine cs_seq_region [0, 1, 2, 3, 4, 5, 6, 7, 8] rfl ?_
  refine c_move rfl rfl rfl rfl (by conv => lhs; whnf) ?_
  refine c_len rfl rfl rfl rfl Tryz.underlying22 rfl ?_
  refine c_move rfl rfl rfl rfl (by conv => lhs; whnf) ?_
  first | refine c_nilCheck rfl rfl rfl rfl rfl ?_ | refine c_nilCheckF rfl rfl rfl rfl rfl ?_
  refine c_fieldAddr rfl rfl rfl rfl Tryz.underlying297 rfl Tryz.sizeOf3 rfl rfl ?_
  first | refine c_load1 rfl rfl rfl Tryz.isAgg3 rfl (ldS rfl rfl xM (sub1 (by exact rfl))) ?_ | refine c_load1 rfl rfl rfl Tryz.isAgg3 rfl (ldSC (k := 0) rfl rfl xM (sub1 (by exact rfl))) ?_ | refine c_load1 rfl rfl rfl Tryz.isAgg3 rfl (ldSC rfl rfl xM (sub1 (by exact rfl))) ?_
  first | refine c_subI rfl rfl rfl rfl rfl rfl xW ?_ | refine c_sub rfl rfl rfl rfl rfl rfl ?_
  refine c_gtr rfl rfl rfl rfl rfl rfl ?_
  refine c_assign rfl rfl rfl rfl (by conv => lhs; whnf) ?_
  refine can_nil ?_
  refine ps_then ?_
  refine cs_cond rfl (fun hc2 => Bool.noConfusion (show true = false from hc2.symm.trans (decide_eq_false (by omega)))) (fun _ => ?_)
  refine cs_skip ?_
  refine ps_block_normal ?_
  refine ps_then ?_
  refine cs_seq ?_
  refine cs_seq_region [0, 1, 2, 3, 4, 5, 6, 7, 8, 9] rfl ?_
  refine c_move rfl rfl rfl rfl (by conv => lhs; whnf) ?_
  first | refine c_nilCheck rfl rfl rfl rfl rfl ?_ | refine c_nilCheckF rfl rfl rfl rfl rfl ?_
  refine c_fieldAddr rfl rfl rfl rfl Tryz.underlying297 rfl Tryz.sizeOf3 rfl rfl ?_
  first | refine c_load1 rfl rfl rfl Tryz.isAgg3 rfl (ldS rfl rfl xM (sub1 (by exact rfl))) ?_ | refine c_load1 rfl rfl rfl Tryz.isAgg3 rfl (ldSC (k := 0) rfl rfl xM (sub1 (by exact rfl))) ?_ | refine c_load1 rfl rfl rfl Tryz.isAgg3 rfl (ldSC rfl rfl xM (sub1 (by exact rfl))) ?_
  refine c_move rfl rfl rfl rfl (by conv => lhs; whnf) ?_
  refine c_len rfl rfl rfl rfl Tryz.underlying22 rfl ?_
  first | refine c_addI rfl rfl rfl rfl rfl rfl xW ?_ | refine c_add rfl rfl rfl rfl rfl rfl ?_
  first | refine c_nilCheck rfl rfl rfl rfl rfl ?_ | refine c_nilCheckF rfl rfl rfl rfl rfl ?_
  refine c_fieldAddr rfl rfl rfl rfl Tryz.underlying297 rfl Tryz.sizeOf3 rfl rfl ?_
  refine c_store1 (bs' := (hc32 (n + ys.length) v a c)) rfl rfl rfl Tryz.sizeOf3 rfl rfl xF rfl (Nat.le_of_ble_eq_true rfl) rfl (by (try simp only [List.cons_append, List.nil_append]); exact rfl) (Or.inl rfl) ?_
  refine can_nil ?_
  refine ps_then ?_
  refine cs_seq ?_
  refine cs_seq_region [0, 1, 2, 3, 4, 5, 6, 7, 8, 9, 10, 11, 12] rfl ?_
  refine c_move rfl rfl rfl rfl (by conv => lhs; whnf) ?_
  refine c_move rfl rfl rfl rfl (by conv => lhs; whnf) ?_
  refine c_move rfl rfl rfl rfl (by conv => lhs; whnf) ?_
  first | refine c_nilCheck rfl rfl rfl rfl rfl ?_ | refine c_nilCheckF rfl rfl rfl rfl rfl ?_
  refine c_fieldAddr rfl rfl rfl rfl Tryz.underlying297 rfl Tryz.sizeOf22 rfl rfl ?_
  first | refine c_load1 rfl rfl rfl Tryz.isAgg22 rfl (ldS rfl rfl xM (sub1 (by exact rfl))) ?_ | refine c_load1 rfl rfl rfl Tryz.isAgg22 rfl (ldSC (k := 0) rfl rfl xM (sub1 (by exact rfl))) ?_ | refine c_load1 rfl rfl rfl Tryz.isAgg22 rfl (ldSC rfl rfl xM (sub1 (by exact rfl))) ?_
  refine c_move rfl rfl rfl rfl (by conv => lhs; whnf) ?_
  refine c_append (dr := b8) (xs := rest) (ys := ys) rfl rfl rfl rfl sty_b8 rfl rfl xF xM (by omega) (fun _ => Or.inl rfl) (fun A33 => ?_)
  refine can_en (en_give (xs := rest ++ ys) (by repeat (first | exact Rem.here | apply Rem.there))) ?_
  rintro _ _ ⟨rfl, rfl⟩
  refine c_call rfl rfl rfl rfl Tryz.call218 (take32_ok _ v _ a c (rest ++ ys) g w0 _ _ xM xM ha) (by exact rfl) (fun _ _ _ _ => Or.inl rfl) ?_
  rintro _ _ _ ⟨w1, rfl, rfl, rfl⟩
  refine can_en (en_nilRow b8 5) ?_
  rintro _ _ ⟨rfl, rfl⟩
  refine c_append (dr := b8) (xs := []) (ys := (rest ++ ys).drop (full sh32 (rest ++ ys) * 64)) rfl rfl rfl rfl sty_b8 rfl rfl xF xM (by simp; omega) (fun _ => Or.inl rfl) (fun A35 => ?_)
  refine can_en (en_rowShape (xs := ((rest ++ ys).drop (full sh32 (rest ++ ys) * 64))) xM) ?_
  rintro _ _ ⟨rfl, rfl, B35, c35, rfl, -, -, -⟩
  first | refine c_nilCheck rfl rfl rfl rfl rfl ?_ | refine c_nilCheckF rfl rfl rfl rfl rfl ?_
  refine c_fieldAddr rfl rfl rfl rfl Tryz.underlying297 rfl Tryz.sizeOf22 rfl rfl ?_
  refine c_store1 (bs' := (hc32 (n + ys.length) (.slice B35 ((rest ++ ys).drop (full sh32 (rest ++ ys) * 64)).length c35) (blks sh32 kn32 a (rest ++ ys) (full sh32 (rest ++ ys))) c)) rfl rfl rfl Tryz.sizeOf22 rfl rfl xF rfl (Nat.le_of_ble_eq_true rfl) rfl (by (try simp only [List.cons_append, List.nil_append]); exact rfl) (Or.inl rfl) ?_
  refine can_nil ?_
  refine ps_then ?_
  refine cs_seq ?_
  refine cs_seq_region [0] rfl ?_
  refine c_assign rfl rfl rfl rfl (by conv => lhs; whnf) ?_
  refine can_nil ?_
  refine ps_then ?_
  refine cs_ret ?_
  refine ps_en (en_arr (sps' := Bk g (hc32 (n + ys.length) (.slice B35 ((rest ++ ys).drop (full sh32 (rest ++ ys) * 64)).length c35) (blks sh32 kn32 a (rest ++ ys) (full sh32 (rest ++ ys))) c) 297 :: Row b8 5 (.slice B35 ((rest ++ ys).drop (full sh32 (rest ++ ys) * 64)).length c35) ((rest ++ ys).drop (full sh32 (rest ++ ys) * 64)) :: sps) (by repeat (first | exact Arr.refl | (refine Arr.cons (by repeat (first | exact Rem.here | apply Rem.there)) ?_) | refine Arr.sub (by repeat (first | exact List.Sublist.refl _ | apply List.Sublist.cons_cons | apply List.Sublist.cons))))) ?_
  rintro _ _ ⟨rfl, rfl⟩
  refine ps_en (en_keep (rs) (by (repeat (refine List.forall_mem_cons.2 ⟨by repeat (first | exact .head _ | assumption | apply List.Mem.tail), ?_⟩)); intro r hr; repeat (first | assumption | apply List.Mem.tail))) ?_
  rintro _ _ ⟨rfl, rfl⟩
  apply ps_end1 rfl Tryz.results158 (by conv => lhs; whnf)
  · exact ⟨(.slice B35 ((rest ++ ys).drop (full sh32 (rest ++ ys) * 64)).length c35), rfl, rfl, rfl⟩
  · exact (.mk xS xS)

theorem sum32_ok (n : Nat) (v : Value) (a c : V8) (rest : List Nat) (g : Nat) (w0 : World) (sps : List Sp) (rs : List Fa) (hct : Cl 8 0 constsV ∈ rs) (ha : V8lt 32 a) (hn : n ≤ 1048576) (hr : rest.length ≤ 1000) :
    FnOk Tryz.prog 159 #[.pointer (some ⟨g, 0, none⟩)] w0 (Bk g (hc32 n v a c) 297 :: Row b8 5 v rest :: sps) rs fun r s q => ∃ v', r = v' ∧ Row b8 5 v' (tellN 4 (v8l (blks sh32 kn32 a ((rest ++ padN 4 n)) (full sh32 ((rest ++ padN 4 n)))))) :: sps = s ∧ rs = q := by
  have hpl : (padN 4 n).length ≤ 1 + 18 * 4 := by rw [padN_length _ _ (by decide)]; exact padLen_le _ _ (by decide)
  refine fn_en (en_give (xs := rest) (by repeat (first | exact Rem.here | apply Rem.there))) ?_
  rintro _ _ ⟨rfl, rfl⟩
  refine fn_enter Tryz.func159 rfl Tryz.ntmps159 rfl ?_
  refine cs_seq ?_
  refine cs_seq_region [0] rfl ?_
  refine c_assign rfl rfl rfl rfl (by conv => lhs; whnf) ?_
  refine can_nil ?_
  refine ps_then ?_
  refine cs_seq ?_
  refine cs_seq ?_
  refine cs_seq_region [0, 1] rfl ?_
  refine c_move rfl rfl rfl rfl (by conv => lhs; whnf) ?_
  refine c_eqP rfl rfl rfl rfl Tryz.underlying229 rfl rfl ?_
  refine can_nil ?_
  refine ps_then ?_
  refine cs_cond rfl (fun hc1 => Bool.noConfusion (show true = false from hc1.symm.trans (rfl))) (fun _ => ?_)
  refine cs_skip ?_
  refine ps_then ?_
  refine cs_seq ?_
  refine cs_seq_region [0, 1, 2] rfl ?_
  refine c_move rfl rfl rfl rfl (by conv => lhs; whnf) ?_
  refine c_call rfl rfl rfl rfl Tryz.call219 (copy32_ok n v _ _ rest g w0 _ _ xM (by omega)) (by exact rfl) (fun _ _ _ _ => Or.inl rfl) ?_
  rintro _ _ _ ⟨g3, v3, rfl, rfl, rfl⟩
  refine c_assign rfl rfl rfl rfl (by conv => lhs; whnf) ?_
  refine can_nil ?_
  refine ps_then ?_
  refine cs_seq ?_
  refine cs_draw_region [0, 0, 0, 1, 0, 0, 0, 0, 1, 0, 2, 0, 0, 0, 0, 0] [false, false, false, false, false, false, false, false, false, false, true, false, false, false, false, false] [0, 1, 2, 3, 4, 5, 6, 7, 8, 9, 10, 11, 12, 13, 14, 15] (by kernel_rfl) (by kernel_rfl) (by kernel_rfl) (by kernel_rfl) xQ ?_
  refine c_move rfl rfl rfl rfl (by conv => lhs; whnf) ?_
  first | refine c_nilCheck rfl rfl rfl rfl rfl ?_ | refine c_nilCheckF rfl rfl rfl rfl rfl ?_
  refine c_fieldAddr rfl rfl rfl rfl Tryz.underlying297 rfl Tryz.sizeOf3 rfl rfl ?_
  first | refine c_load1 rfl rfl rfl Tryz.isAgg3 rfl (ldD rfl rfl xE xM (sub1 (by exact rfl))) ?_ | refine c_load1 rfl rfl rfl Tryz.isAgg3 rfl (ldDC (k := 0) rfl rfl xE xM (sub1 (by exact rfl))) ?_ | refine c_load1 rfl rfl rfl Tryz.isAgg3 rfl (ldDC rfl rfl xE xM (sub1 (by exact rfl))) ?_
  refine c_move rfl rfl rfl rfl (by conv => lhs; whnf) ?_
  first | refine c_nilCheck rfl rfl rfl rfl rfl ?_ | refine c_nilCheckF rfl rfl rfl rfl rfl ?_
  refine c_fieldAddr rfl rfl rfl rfl Tryz.underlying297 rfl Tryz.sizeOf291 rfl rfl ?_
  refine c_fieldAddr rfl rfl rfl rfl Tryz.underlying291 rfl Tryz.sizeOf3 rfl rfl ?_
  first | refine c_load1 rfl rfl rfl Tryz.isAgg3 rfl (ldD rfl rfl xE xM (sub1 (by exact rfl))) ?_ | refine c_load1 rfl rfl rfl Tryz.isAgg3 rfl (ldDC (k := 0) rfl rfl xE xM (sub1 (by exact rfl))) ?_ | refine c_load1 rfl rfl rfl Tryz.isAgg3 rfl (ldDC rfl rfl xE xM (sub1 (by exact rfl))) ?_
  first | refine c_mulI rfl rfl rfl rfl rfl rfl xW ?_ | refine c_mul rfl rfl rfl rfl rfl rfl ?_
  refine c_call rfl rfl rfl rfl Tryz.call220 (pad32_ok n w0 _ _ hn) (by exact rfl) (by rintro v s r ⟨v4, rfl, rfl, rfl⟩; exact Or.inr xE) ?_
  rintro _ _ _ ⟨v4, rfl, rfl, rfl⟩
  refine can_forget rfl ?_
  refine c_move rfl rfl rfl rfl (by conv => lhs; whnf) ?_
  refine c_extract rfl rfl rfl rfl rfl rfl ?_
  refine c_extract rfl rfl rfl rfl rfl rfl ?_
  refine c_assign rfl rfl rfl rfl (by conv => lhs; whnf) ?_
  refine c_assign rfl rfl rfl rfl (by conv => lhs; whnf) ?_
  refine can_nil ?_
  refine ps_then ?_
  refine cs_seq ?_
  refine cs_en (en_give (xs := padN 4 n) (by repeat (first | exact Rem.here | apply Rem.there))) ?_
  rintro _ _ ⟨rfl, rfl⟩
  refine cs_seq_region [0, 1, 2, 3, 4, 5, 6, 7] rfl ?_
  refine c_move rfl rfl rfl rfl (by conv => lhs; whnf) ?_
  refine c_move rfl rfl rfl rfl (by conv => lhs; whnf) ?_
  first | refine c_nilCheck rfl rfl rfl rfl rfl ?_ | refine c_nilCheckF rfl rfl rfl rfl rfl ?_
  refine c_fieldAddr rfl rfl rfl rfl Tryz.underlying297 rfl Tryz.sizeOf22 rfl rfl ?_
  first | refine c_load1 rfl rfl rfl Tryz.isAgg22 rfl (ldS rfl rfl xM (sub1 (by exact rfl))) ?_ | refine c_load1 rfl rfl rfl Tryz.isAgg22 rfl (ldSC (k := 0) rfl rfl xM (sub1 (by exact rfl))) ?_ | refine c_load1 rfl rfl rfl Tryz.isAgg22 rfl (ldSC rfl rfl xM (sub1 (by exact rfl))) ?_
  refine c_move rfl rfl rfl rfl (by conv => lhs; whnf) ?_
  refine c_append (dr := b8) (xs := rest) (ys := padN 4 n) rfl rfl rfl rfl sty_b8 rfl rfl xF xM (by omega) (fun _ => Or.inl rfl) (fun A30 => ?_)
  refine can_en (en_give (xs := (rest ++ padN 4 n)) (by repeat (first | exact Rem.here | apply Rem.there))) ?_
  rintro _ _ ⟨rfl, rfl⟩
  refine c_call rfl rfl rfl rfl Tryz.call218 (take32_ok n v3 _ a c (rest ++ padN 4 n) g3 w0 _ _ xM xM ha) (by exact rfl) (fun _ _ _ _ => Or.inl rfl) ?_
  rintro _ _ _ ⟨w1, rfl, rfl, rfl⟩
  refine can_nil ?_
  refine ps_then ?_
  refine cs_seq ?_
  refine cs_seq ?_
  refine cs_seq_region [0, 1, 2, 3, 4, 5] rfl ?_
  refine c_move rfl rfl rfl rfl (by conv => lhs; whnf) ?_
  first | refine c_nilCheck rfl rfl rfl rfl rfl ?_ | refine c_nilCheckF rfl rfl rfl rfl rfl ?_
  refine c_fieldAddr rfl rfl rfl rfl Tryz.underlying297 rfl Tryz.sizeOf291 rfl rfl ?_
  refine c_fieldAddr rfl rfl rfl rfl Tryz.underlying291 rfl Tryz.sizeOf3 rfl rfl ?_
  first | refine c_load1 rfl rfl rfl Tryz.isAgg3 rfl (ldS rfl rfl xM (sub1 (by exact rfl))) ?_ | refine c_load1 rfl rfl rfl Tryz.isAgg3 rfl (ldSC (k := 0) rfl rfl xM (sub1 (by exact rfl))) ?_ | refine c_load1 rfl rfl rfl Tryz.isAgg3 rfl (ldSC rfl rfl xM (sub1 (by exact rfl))) ?_
  refine c_eql rfl rfl rfl rfl rfl rfl ?_
  refine can_nil ?_
  refine ps_then ?_
  refine cs_cond rfl (fun _ => ?_) (fun hc2 => Bool.noConfusion (show false = true from hc2.symm.trans (rfl)))
  refine cs_seq ?_
  refine cs_draw_region [0, 0, 0, 1, 0, 0, 0, 1, 2, 0] [false, false, false, false, false, false, false, false, false, false] [0, 1, 2, 3, 4, 5, 6, 7, 8, 9] (by kernel_rfl) (by kernel_rfl) (by kernel_rfl) (by kernel_rfl) xQ ?_
  refine c_move rfl rfl rfl rfl (by conv => lhs; whnf) ?_
  first | refine c_nilCheck rfl rfl rfl rfl rfl ?_ | refine c_nilCheckF rfl rfl rfl rfl rfl ?_
  refine c_fieldAddr rfl rfl rfl rfl Tryz.underlying297 rfl Tryz.sizeOf291 rfl rfl ?_
  first | refine c_loadN rfl rfl rfl Tryz.isAgg291 Tryz.sizeOf291 rfl (ldD rfl rfl xE xM subAll) (by first | (simp [ne_length, wlist_length]; done) | rfl) ?_ | refine c_loadN (cs := [_, _, _, _, _, _, _, _, _, _, _, _, _, _, _]) rfl rfl rfl Tryz.isAgg291 Tryz.sizeOf291 rfl (ldD rfl rfl xE xM (subN (m := 15) (by exact rfl))) rfl ?_ | refine c_loadN rfl rfl rfl Tryz.isAgg291 Tryz.sizeOf291 rfl (ldDC (k := 0) rfl rfl xE xM subAll) (by first | (simp [ne_length, wlist_length]; done) | rfl) ?_
  refine c_move rfl rfl rfl rfl (by conv => lhs; whnf) ?_
  first | refine c_nilCheck rfl rfl rfl rfl rfl ?_ | refine c_nilCheckF rfl rfl rfl rfl rfl ?_
  refine c_fieldAddr rfl rfl rfl rfl Tryz.underlying297 rfl Tryz.sizeOf294 rfl rfl ?_
  first | refine c_loadN rfl rfl rfl Tryz.isAgg294 Tryz.sizeOf294 rfl (ldD rfl rfl xE xM subAll) (by first | (simp [ne_length, wlist_length]; done) | rfl) ?_ | refine c_loadN (cs := [_, _, _, _, _, _, _, _]) rfl rfl rfl Tryz.isAgg294 Tryz.sizeOf294 rfl (ldD rfl rfl xE xM (subN (m := 8) (by exact rfl))) rfl ?_ | refine c_loadN rfl rfl rfl Tryz.isAgg294 Tryz.sizeOf294 rfl (ldDC (k := 0) rfl rfl xE xM subAll) (by first | (simp [ne_length, wlist_length]; done) | rfl) ?_
  refine can_forget rfl ?_
  refine c_call rfl rfl rfl rfl Tryz.call221 (tell32_ok (blks sh32 kn32 a ((rest ++ padN 4 n)) (full sh32 ((rest ++ padN 4 n)))) w0 _ _) (by exact rfl) (fun _ _ _ _ => Or.inl rfl) ?_
  rintro _ _ _ ⟨rfl, rfl⟩
  refine c_assign rfl rfl rfl rfl (by conv => lhs; whnf) ?_
  refine can_nil ?_
  refine ps_then ?_
  refine cs_ret ?_
  refine ps_then_ret ?_
  refine ps_en (en_arr (sps' := Row b8 5 _ (tellN 4 (v8l (blks sh32 kn32 a ((rest ++ padN 4 n)) (full sh32 ((rest ++ padN 4 n)))))) :: sps) (by repeat (first | exact Arr.refl | (refine Arr.cons (by repeat (first | exact Rem.here | apply Rem.there)) ?_) | refine Arr.sub (by repeat (first | exact List.Sublist.refl _ | apply List.Sublist.cons_cons | apply List.Sublist.cons))))) ?_
  rintro _ _ ⟨rfl, rfl⟩
  refine ps_en (en_keep (rs) (by (repeat (refine List.forall_mem_cons.2 ⟨by repeat (first | exact .head _ | assumption | apply List.Mem.tail), ?_⟩)); intro r hr; repeat (first | assumption | apply List.Mem.tail))) ?_
  rintro _ _ ⟨rfl, rfl⟩
  apply ps_end1 rfl Tryz.results159 (by conv => lhs; whnf)
  · exact ⟨_, rfl, rfl, rfl⟩
  · exact (.mk xS xS)

end Go.Proofs.YtmodmjekhlnjpaaGreatDoor
namespace Go.Proofs.YtmodmjekhlnjpaaGreatDoor
open Go.RowKit
/-- What is owned by a hash of a text (256). -/
def hs32 (g : Nat) (v : Value) (m : List Nat) : Sp := Bk g (hc32 m.length v (blks sh32 kn32 st32 m (full sh32 m)) st64) 297
def hr32 (v : Value) (m : List Nat) : Sp := Row b8 5 v (tailOf sh32 m)
def dig32 (m : List Nat) : List Nat := digestS sh32 kn32 st32 m
variable (w0 : World) (sps : List Sp) (rs : List Fa)
theorem new32_h (hst : Cl 7 0 startsV ∈ rs) :
    FnOk Tryz.prog 157 #[.int .i64 256] w0 sps rs fun r s q => ∃ g, r = .tuple #[.pointer (some ⟨g, 0, none⟩), .int .i64 0] ∧ hs32 g (.slice none 0 0) [] :: hr32 (.slice none 0 0) [] :: sps = s ∧ rs = q := new32_ok w0 sps rs hst
theorem write32_h (g : Nat) (v w : Value) (m ys : List Nat) (hct : Cl 8 0 constsV ∈ rs) (hv : Rd b8 w ys ∈ rs) (hn : m.length + ys.length ≤ 1048576) :
    FnOk Tryz.prog 158 #[.pointer (some ⟨g, 0, none⟩), w] w0 (hs32 g v m :: hr32 v m :: sps) rs fun r s q => ∃ v', r = .int .i64 0 ∧ hs32 g v' (m ++ ys) :: hr32 v' (m ++ ys) :: sps = s ∧ rs = q := by
  have h := write32_ok m.length v w (blks sh32 kn32 st32 m (full sh32 m)) st64 (tailOf sh32 m) ys g w0 sps rs hct hv (blks_lt (p := sh32) st32_lt _) hn (by have := tail_len sh32 (by decide) m; simp only [sh32] at this ⊢; omega)
  obtain ⟨h1, h2⟩ := blks_more sh32 kn32 st32 (by decide) m ys
  rw [h1, show (64 : Nat) = 16 * sh32.sz from rfl, h2] at h
  simp only [hs32, hr32, List.length_append]
  exact h
theorem sum32_h (g : Nat) (v : Value) (m : List Nat) (hct : Cl 8 0 constsV ∈ rs) (hn : m.length ≤ 1048576) :
    FnOk Tryz.prog 159 #[.pointer (some ⟨g, 0, none⟩)] w0 (hs32 g v m :: hr32 v m :: sps) rs fun r s q => ∃ v', r = v' ∧ Row b8 5 v' (dig32 m) :: sps = s ∧ rs = q := by
  have h := sum32_ok m.length v (blks sh32 kn32 st32 m (full sh32 m)) st64 (tailOf sh32 m) g w0 sps rs hct (blks_lt (p := sh32) st32_lt _) hn (by have := tail_len sh32 (by decide) m; simp only [sh32] at this ⊢; omega)
  rw [(blks_more sh32 kn32 st32 (by decide) m (padN 4 m.length)).1] at h
  exact h
theorem dig32_length (m : List Nat) : (dig32 m).length = 32 := by rw [dig32, digestS, tellN_length]; rfl
end Go.Proofs.YtmodmjekhlnjpaaGreatDoor
namespace Go.Proofs.YtmodmjekhlnjpaaGreatDoor
open Go.RowKit
def cntN (n c : Nat) : Nat := (n + c - 1) / c
def cutN (c : Nat) (b : List Nat) : List (List Nat) := (List.range (cntN b.length c)).map fun i => (b.drop (i * c)).take c
theorem cnt_lt {n c i : Nat} (hc : 0 < c) (h : i < cntN n c) : i * c < n := by
  have h1 : (i + 1) * c ≤ n + c - 1 := (Nat.le_div_iff_mul_le hc).1 h
  rw [Nat.add_mul] at h1
  omega
theorem cut_length (c : Nat) (b : List Nat) : (cutN c b).length = cntN b.length c := by simp [cutN]
theorem cut_take (c : Nat) (b : List Nat) (i : Nat) (h : i < cntN b.length c) : (cutN c b).take (i + 1) = (cutN c b).take i ++ [(b.drop (i * c)).take c] := by
  rw [List.take_succ_eq_append_getElem (by rw [cut_length]; exact h)]
  simp [cutN]
theorem cut_piece (c : Nat) (b : List Nat) (i : Nat) : (b.take (min b.length (i * c + c))).drop (i * c) = (b.drop (i * c)).take c := by
  rw [List.drop_take]
  apply List.ext_getElem?
  intro j
  simp only [List.getElem?_take, List.getElem?_drop]
  by_cases h : j < c
  · by_cases h2 : i * c + j < b.length
    · rw [if_pos (by omega), if_pos h]
    · rw [List.getElem?_eq_none (by omega)]; simp
  · rw [if_neg (by omega), if_neg h]
def leafN (i : Nat) (c : List Nat) : List Nat := dig32 (0 :: (beB 8 i ++ c))
def blen (x : Nat) : Nat := if x = 0 then 0 else Nat.log2 x + 1
theorem blen_256 (x : Nat) (h : 256 ≤ x) : blen x = 8 + blen (x / 256) := by
  have h0 : x / 256 ≠ 0 := by omega
  rw [blen, blen, if_neg (by omega), if_neg h0]
  have h1 : Nat.log2 (x / 256) + 8 ≤ Nat.log2 x := (Nat.le_log2 (by omega)).2 (by
    have := (Nat.le_log2 h0).1 (Nat.le_refl (Nat.log2 (x / 256)))
    rw [Nat.pow_add]
    have h3 : (2 : Nat) ^ 8 = 256 := rfl
    rw [h3]
    exact (Nat.le_div_iff_mul_le (by decide)).1 this)
  have h2 : Nat.log2 x - 8 ≤ Nat.log2 (x / 256) := (Nat.le_log2 h0).2 (by
    have := (Nat.le_log2 (show x ≠ 0 by omega)).1 (Nat.le_refl (Nat.log2 x))
    have h8 : 8 ≤ Nat.log2 x := (Nat.le_log2 (by omega)).2 h
    rw [Nat.le_div_iff_mul_le (by decide), show (256 : Nat) = 2 ^ 8 from rfl, ← Nat.pow_add, Nat.sub_add_cancel h8]
    exact this)
  omega
def halfN (n : Nat) : Nat := 2 ^ Nat.log2 (n - 1)
theorem half_pos (n : Nat) : 0 < halfN n := Nat.two_pow_pos _
theorem half_lt (n : Nat) (h : 2 ≤ n) : halfN n < n := by
  have := (Nat.le_log2 (show n - 1 ≠ 0 by omega)).1 (Nat.le_refl (Nat.log2 (n - 1)))
  rw [halfN]; omega
theorem half_ge (n : Nat) (h : 2 ≤ n) : n ≤ 2 * halfN n := by
  have : ¬ Nat.log2 (n - 1) + 1 ≤ Nat.log2 (n - 1) := by omega
  rw [Nat.le_log2 (show n - 1 ≠ 0 by omega), Nat.pow_succ] at this
  rw [halfN]; omega
theorem half_unique (n j : Nat) (h1 : 2 ^ j < n) (h2 : n ≤ 2 * 2 ^ j) : halfN n = 2 ^ j := by
  have h3 : Nat.log2 (n - 1) = j := by
    have a : j ≤ Nat.log2 (n - 1) := (Nat.le_log2 (by have := Nat.two_pow_pos j; omega)).2 (by omega)
    have b : ¬ j + 1 ≤ Nat.log2 (n - 1) := by
      rw [Nat.le_log2 (by have := Nat.two_pow_pos j; omega), Nat.pow_succ]
      have := Nat.two_pow_pos j
      omega
    omega
  rw [halfN, h3]
/-- The top of leaves. -/
def topN (l : List (List Nat)) : List Nat :=
  if h : l.length ≤ 1 then l.headD [] else dig32 (1 :: (topN (l.take (halfN l.length)) ++ topN (l.drop (halfN l.length))))
termination_by l.length
decreasing_by
  · have := half_lt l.length (by omega); simp; omega
  · have := half_pos l.length; simp; omega
def walkN (l : List (List Nat)) (p : Nat) : List (List Nat) :=
  if h : l.length ≤ 1 then [] else if p < halfN l.length then walkN (l.take (halfN l.length)) p ++ [topN (l.drop (halfN l.length))] else walkN (l.drop (halfN l.length)) (p - halfN l.length) ++ [topN (l.take (halfN l.length))]
termination_by l.length
decreasing_by
  · have := half_lt l.length (by omega); simp; omega
  · have := half_pos l.length; simp; omega
theorem top_one {l : List (List Nat)} (h : l.length ≤ 1) : topN l = l.headD [] := by rw [topN, dif_pos h]
theorem top_two {l : List (List Nat)} (h : ¬ l.length ≤ 1) : topN l = dig32 (1 :: (topN (l.take (halfN l.length)) ++ topN (l.drop (halfN l.length)))) := by rw [topN, dif_neg h]
theorem walk_one {l : List (List Nat)} {p : Nat} (h : l.length ≤ 1) : walkN l p = [] := by rw [walkN, dif_pos h]
theorem walk_lo {l : List (List Nat)} {p : Nat} (h : ¬ l.length ≤ 1) (hp : p < halfN l.length) : walkN l p = walkN (l.take (halfN l.length)) p ++ [topN (l.drop (halfN l.length))] := by rw [walkN, dif_neg h, if_pos hp]
theorem walk_hi {l : List (List Nat)} {p : Nat} (h : ¬ l.length ≤ 1) (hp : ¬ p < halfN l.length) : walkN l p = walkN (l.drop (halfN l.length)) (p - halfN l.length) ++ [topN (l.take (halfN l.length))] := by rw [walkN, dif_neg h, if_neg hp]
theorem top_length : ∀ (n : Nat) (l : List (List Nat)), l.length = n → 0 < n → (∀ x ∈ l, x.length = 32) → (topN l).length = 32 := by
  intro n l hl h0 h32
  by_cases h : l.length ≤ 1
  · rw [top_one h]
    cases l with
    | nil => simp at hl; omega
    | cons x l => exact h32 x List.mem_cons_self
  · rw [top_two h]; exact dig32_length _
theorem walk_len : ∀ (n : Nat) (l : List (List Nat)) (p : Nat), l.length = n → (walkN l p).length ≤ n := by
  intro n
  induction n using Nat.strongRecOn with
  | ind n ih =>
    intro l p hl
    by_cases h : l.length ≤ 1
    · rw [walk_one h]; simp
    · have h1 := half_lt l.length (by omega)
      have h2 := half_pos l.length
      by_cases hp : p < halfN l.length
      · rw [walk_lo h hp, List.length_append]
        have := ih (halfN l.length) (by omega) (l.take (halfN l.length)) p (by simp; omega)
        simp only [List.length_singleton]; omega
      · rw [walk_hi h hp, List.length_append]
        have := ih (l.length - halfN l.length) (by omega) (l.drop (halfN l.length)) (p - halfN l.length) (by simp)
        simp only [List.length_singleton]; omega
theorem flat_take {α : Type} (l : List (List α)) (t : Nat) (h : t < l.length) : (l.take (t + 1)).flatten = (l.take t).flatten ++ l[t] := by
  rw [List.take_succ_eq_append_getElem h, List.flatten_append]; simp
theorem flat_le {α : Type} (l : List (List α)) (t : Nat) : (l.take t).flatten.length ≤ l.flatten.length := by
  conv => rhs; rw [← List.take_append_drop t l, List.flatten_append]
  simp
end Go.Proofs.YtmodmjekhlnjpaaGreatDoor
namespace Go.Proofs.YtmodmjekhlnjpaaGreatDoor
open Go.RowKit
theorem eight_put (n t off : Nat) (ht : t < 8) (ho : off = t) : (ne .u8 ((beB 8 n).take t ++ List.replicate (8 - t) 0)).set off (.int .u8 ((n / 2 ^ (8 * (8 - 1 - t)) % 2 ^ 8 : Nat) : Int)) = ne .u8 ((beB 8 n).take (t + 1) ++ List.replicate (8 - (t + 1)) 0) := by
  subst ho
  rw [rep_succ (8 - off) (by omega), ne_set, mid_set (by simp [beB_length]; omega), beB_take 8 n off ht, List.append_assoc]
  rfl
theorem half_shl (k : Nat) (h : k < 12) : IntKind.i64.wrap (1 * 2 ^ min (((k : Nat) : Int)).toNat 64) = ((2 ^ k : Nat) : Int) := by
  rw [Int.toNat_natCast, Nat.min_eq_left (by omega), IntKind.wrap_i64]
  have : (2 : Nat) ^ k < 2 ^ 12 := Nat.pow_lt_pow_right (by decide) h
  have h2 : ((2 ^ k : Nat) : Int) = (2 : Int) ^ k := by simp
  rw [← h2]
  generalize 2 ^ k = m at *
  omega
theorem eight_ok (n : Nat) (w0 : World) (sps : List Sp) (rs : List Fa) (hn : n ≤ 4294967296) :
    FnOk Tryz.prog 83 #[.int .i64 (n : Int)] w0 sps rs fun r s q => ∃ v, r = v ∧ Row b8 5 v (beB 8 n) :: sps = s ∧ rs = q := by
  refine fn_enter Tryz.func83 rfl Tryz.ntmps83 rfl ?_
  refine cs_seq ?_
  refine cs_seq_region [0] rfl ?_
  refine c_assign rfl rfl rfl rfl (by conv => lhs; whnf) ?_
  refine can_nil ?_
  refine ps_then ?_
  refine cs_seq ?_
  refine cs_seq_region [0, 1] rfl ?_
  refine c_makeBytes (m := 8) rfl rfl rfl rfl Tryz.underlying22 info_t5 rfl rfl rfl (by decide) (fun _ => Or.inl rfl) (fun g5 => ?_)
  refine c_assign rfl rfl rfl rfl (by conv => lhs; whnf) ?_
  refine can_nil ?_
  refine ps_then ?_
  refine cs_seq ?_
  refine cs_seq ?_
  refine cs_seq_region [0, 1, 2] rfl ?_
  refine c_move rfl rfl rfl rfl (by conv => lhs; whnf) ?_
  refine c_len rfl rfl rfl rfl Tryz.underlying22 rfl ?_
  refine c_move rfl rfl rfl rfl (by conv => lhs; whnf) ?_
  refine can_nil ?_
  refine ps_then ?_
  refine cs_block ?_
  refine cs_loopS [4, 8, 9, 10, 11, 12, 13, 14, 15, 16, 17, 18, 19, 20, 21] (fun m L s r => ∃ t : Nat, t ≤ 8 ∧ m = 8 - t ∧ L = [(8, .int .i64 (t : Int))] ∧ s = Bk g5 (ne .u8 ((beB 8 n).take (t) ++ List.replicate (8 - (t)) 0)) 5 :: sps ∧ rs = r) [(8, .int .i64 (0 : Nat))] (⟨rfl, trivial⟩) (⟨0, by omega, rfl, rfl, rfl, rfl⟩) ?_
  rintro k0 f0 _ _ _ ⟨t, ht, rfl, rfl, rfl, rfl⟩
  refine cs_seq ?_
  refine cs_seq_region [0] rfl ?_
  refine c_lss rfl rfl rfl rfl rfl rfl ?_
  refine can_nil ?_
  refine ps_then ?_
  refine cs_seq ?_
  refine cs_cond rfl (fun hc1 => ?_) (fun hc1 => ?_)
  · simp at hc1
    refine cs_skip ?_
    refine ps_then ?_
    refine cs_seq ?_
    refine cs_block ?_
    refine cs_seq ?_
    refine cs_seq_region [0, 1] rfl ?_
    refine c_move rfl rfl rfl rfl (by conv => lhs; whnf) ?_
    refine c_assign rfl rfl rfl rfl (by conv => lhs; whnf) ?_
    refine can_nil ?_
    refine ps_then ?_
    refine cs_seq_region [0, 1, 2, 3, 4, 5, 6, 7, 8, 9, 10] rfl ?_
    refine c_move rfl rfl rfl rfl (by conv => lhs; whnf) ?_
    refine c_move rfl rfl rfl rfl (by conv => lhs; whnf) ?_
    refine c_move rfl rfl rfl rfl (by conv => lhs; whnf) ?_
    refine n_conv (p := n) rfl rfl rfl rfl Tryz.underlying3 Tryz.underlying97 rfl rfl ?_
    rw [show n % 2 ^ IntKind.bits .u64 = n from Nat.mod_eq_of_lt (by show _ < 2 ^ 64; omega)]
    refine c_move rfl rfl rfl rfl (by conv => lhs; whnf) ?_
    first | refine c_mulI rfl rfl rfl rfl rfl rfl xW ?_ | refine c_mul rfl rfl rfl rfl rfl rfl ?_
    first | refine c_subI rfl rfl rfl rfl rfl rfl xW ?_ | refine c_sub rfl rfl rfl rfl rfl rfl ?_
    refine n_shr (b := 8 * (8 - 1 - t)) rfl rfl rfl rfl rfl rfl (by omega) (by show _ ≤ 64; omega) ?_
    refine n_conv rfl rfl rfl rfl Tryz.underlying97 Tryz.underlying5 rfl rfl ?_
    refine c_indexAddrS1 rfl rfl rfl rfl Tryz.underlying22 Tryz.sizeOf5 rfl rfl xD ?_
    refine c_store1 rfl rfl rfl Tryz.sizeOf5 rfl rfl xF rfl (by simp [ne_length, beB_length]; omega) (eight_put n t _ (by omega) (by omega)) (by (try simp only [List.cons_append, List.nil_append]); exact rfl) (Or.inl rfl) ?_
    refine can_nil ?_
    refine ps_block_normal ?_
    refine ps_then ?_
    refine cs_seq_region [0, 1] rfl ?_
    first | refine c_addI rfl rfl rfl rfl rfl rfl xW ?_ | refine c_add rfl rfl rfl rfl rfl rfl ?_
    refine c_move rfl rfl rfl rfl (by conv => lhs; whnf) ?_
    refine can_nil ?_
    refine ps_roundS [(8, .int .i64 ((t + 1 : Nat) : Int))] ⟨rfl, trivial⟩ (by repeat (first | exact Mix.base | refine Mix.upd rfl ?_ | refine Mix.upds rfl ?_ | refine Mix.mix rfl ?_ | exact Mix.refl)) (8 - (t + 1)) (by omega) (⟨t + 1, by omega, rfl, rfl, rfl, rfl⟩) (.mk xS xS)
  · simp at hc1
    have et : t = 8 := by omega
    subst et
    rw [List.take_of_length_le (Nat.le_of_eq (beB_length _ _)), Nat.sub_self, List.replicate_zero, List.append_nil]
    refine cs_exit ?_
    refine ps_then_exit ?_
    refine ps_then_exit ?_
    refine ps_block_here ?_
    refine ps_then ?_
    refine cs_seq ?_
    refine cs_seq_region [0, 1] rfl ?_
    refine c_move rfl rfl rfl rfl (by conv => lhs; whnf) ?_
    refine c_assign rfl rfl rfl rfl (by conv => lhs; whnf) ?_
    refine can_nil ?_
    refine ps_then ?_
    refine cs_ret ?_
    refine ps_en (en_asRow (dr := b8) (pre := []) (xs := beB 8 n) (m := 8) (fun hh _ => b8_reps (beB_lt _ _)) (beB_length _ _) (by decide)) ?_
    rintro _ _ ⟨rfl, rfl⟩
    apply ps_end1 rfl Tryz.results83 (by conv => lhs; whnf)
    · exact ⟨_, rfl, rfl, rfl⟩
    · exact (.mk xS xS)

theorem digest_ok (mark : Nat) (v : Value) (xs : List (List Nat)) (w0 : World) (sps : List Sp) (rs : List Fa) (hst : Cl 7 0 startsV ∈ rs) (hct : Cl 8 0 constsV ∈ rs) (hm : mark < 256) (hv : Rd bb v xs ∈ rs) (hl : 1 + xs.flatten.length ≤ 1048576) :
    FnOk Tryz.prog 82 #[.int .u8 (mark : Int), v] w0 sps rs fun r s q => ∃ v, r = v ∧ Row b8 5 v (dig32 (mark :: xs.flatten)) :: sps = s ∧ rs = q := by
  refine fn_en (en_shape hv) ?_
  rintro _ _ ⟨rfl, rfl, A0, c0, rfl, hcA0, hAA0, hMA0⟩
  refine fn_enter Tryz.func82 rfl Tryz.ntmps82 rfl ?_
  refine cs_seq ?_
  refine cs_seq_region [0] rfl ?_
  refine c_assign rfl rfl rfl rfl (by conv => lhs; whnf) ?_
  refine can_nil ?_
  refine ps_then ?_
  refine cs_seq ?_
  refine cs_seq_region [0, 1, 2, 3, 4, 5] rfl ?_
  refine c_call rfl rfl rfl rfl Tryz.call157 (new32_h w0 _ _ hst) (by exact rfl) (fun _ _ _ _ => Or.inl rfl) ?_
  rintro _ _ _ ⟨g0, rfl, rfl, rfl⟩
  refine c_move rfl rfl rfl rfl (by conv => lhs; whnf) ?_
  refine c_extract rfl rfl rfl rfl rfl rfl ?_
  refine c_extract rfl rfl rfl rfl rfl rfl ?_
  refine c_assign rfl rfl rfl rfl (by conv => lhs; whnf) ?_
  refine c_assign rfl rfl rfl rfl (by conv => lhs; whnf) ?_
  refine can_nil ?_
  refine ps_then ?_
  refine cs_seq ?_
  refine cs_seq_region [0, 1, 2, 3] rfl ?_
  refine c_move rfl rfl rfl rfl (by conv => lhs; whnf) ?_
  refine c_move rfl rfl rfl rfl (by conv => lhs; whnf) ?_
  refine c_lit (cs := [_]) rfl rfl rfl rfl Tryz.underlying22 Tryz.sizeOf5 Tryz.zeroValue5 rfl rfl rfl rfl rfl (fun _ => Or.inl rfl) (fun g15 => ?_)
  refine can_en (en_asRd (dr := b8) (xs := [mark]) (by repeat (first | exact Rem.here | apply Rem.there)) (fun hh _ => b8_reps (by intro y hy; rw [List.mem_singleton.1 hy]; exact hm)) rfl (by simp)) ?_
  rintro _ _ ⟨rfl, rfl⟩
  refine c_call rfl rfl rfl rfl Tryz.call158 (write32_h w0 _ _ g0 _ _ [] [mark] xM xM (by simp)) (by exact rfl) (fun _ _ _ _ => Or.inl rfl) ?_
  rintro _ _ _ ⟨v1, rfl, rfl, rfl⟩
  refine can_en (en_keep (rs) (by (repeat (refine List.forall_mem_cons.2 ⟨by repeat (first | exact .head _ | assumption | apply List.Mem.tail), ?_⟩)); intro r hr; repeat (first | assumption | apply List.Mem.tail))) ?_
  rintro _ _ ⟨rfl, rfl⟩
  refine can_nil ?_
  refine ps_then ?_
  refine cs_seq ?_
  refine cs_seq ?_
  refine cs_seq_region [0, 1, 2] rfl ?_
  refine c_move rfl rfl rfl rfl (by conv => lhs; whnf) ?_
  refine c_len rfl rfl rfl rfl Tryz.underlying25 rfl ?_
  refine c_move rfl rfl rfl rfl (by conv => lhs; whnf) ?_
  refine can_nil ?_
  refine ps_then ?_
  refine cs_block ?_
  refine cs_loopS [8, 19, 20, 21, 22, 23, 24, 25, 26] (fun m L s r => ∃ (t : Nat) (v1 : Value), t ≤ xs.length ∧ m = xs.length - t ∧ L = [(19, .int .i64 (t : Int))] ∧ s = hs32 g0 v1 (mark :: (xs.take t).flatten) :: hr32 v1 (mark :: (xs.take t).flatten) :: sps ∧ rs = r) [(19, .int .i64 (0 : Nat))] (⟨rfl, trivial⟩) (⟨0, v1, by omega, rfl, rfl, rfl, rfl⟩) ?_
  rintro k0 f0 _ _ _ ⟨t, v1, ht, rfl, rfl, rfl, rfl⟩
  refine cs_seq ?_
  refine cs_seq_region [0] rfl ?_
  refine c_lss rfl rfl rfl rfl rfl rfl ?_
  refine can_nil ?_
  refine ps_then ?_
  refine cs_seq ?_
  refine cs_cond rfl (fun hc1 => ?_) (fun hc1 => ?_)
  · simp at hc1
    refine cs_skip ?_
    refine ps_then ?_
    refine cs_seq ?_
    refine cs_block ?_
    refine cs_seq ?_
    refine cs_en (en_openS (d' := b8) (xs := xs) t (by omega) xM) ?_
    rintro _ _ ⟨gg, off, cq, u, heq, rfl, rfl⟩
    injection heq with e1 e2 e3
    subst e1
    refine cs_seq_region [0, 1, 2] rfl ?_
    refine c_indexAddrS1 rfl rfl rfl rfl Tryz.underlying25 Tryz.sizeOf22 rfl rfl xD ?_
    first | refine c_load1 rfl rfl rfl Tryz.isAgg22 rfl (ldS rfl rfl xM (sub1 (by exact rfl))) ?_ | refine c_load1 rfl rfl rfl Tryz.isAgg22 rfl (ldSC (k := 0) rfl rfl xM (sub1 (by exact rfl))) ?_ | refine c_load1 rfl rfl rfl Tryz.isAgg22 rfl (ldSC rfl rfl xM (sub1 (by exact rfl))) ?_
    refine c_assign rfl rfl rfl rfl (by conv => lhs; whnf) ?_
    refine can_nil ?_
    refine ps_then ?_
    refine cs_seq_region [0, 1, 2] rfl ?_
    refine c_move rfl rfl rfl rfl (by conv => lhs; whnf) ?_
    refine c_move rfl rfl rfl rfl (by conv => lhs; whnf) ?_
    refine c_call rfl rfl rfl rfl Tryz.call158 (write32_h w0 _ _ g0 v1 _ (mark :: (xs.take t).flatten) xs[t] xM xM (by have := flat_le xs (t + 1); rw [flat_take xs t (by omega), List.length_append] at this; simp only [List.length_cons]; omega)) (by exact rfl) (fun _ _ _ _ => Or.inl rfl) ?_
    rintro _ _ _ ⟨v2, rfl, rfl, rfl⟩
    refine can_nil ?_
    refine ps_block_normal ?_
    refine ps_then ?_
    refine cs_seq_region [0, 1] rfl ?_
    first | refine c_addI rfl rfl rfl rfl rfl rfl xW ?_ | refine c_add rfl rfl rfl rfl rfl rfl ?_
    refine c_move rfl rfl rfl rfl (by conv => lhs; whnf) ?_
    refine can_nil ?_
    refine ps_en (en_keep (rs) (by (repeat (refine List.forall_mem_cons.2 ⟨by repeat (first | exact .head _ | assumption | apply List.Mem.tail), ?_⟩)); intro r hr; repeat (first | assumption | apply List.Mem.tail))) ?_
    rintro _ _ ⟨rfl, rfl⟩
    refine ps_roundS [(19, .int .i64 ((t + 1 : Nat) : Int))] ⟨rfl, trivial⟩ (by repeat (first | exact Mix.base | refine Mix.upd rfl ?_ | refine Mix.upds rfl ?_ | refine Mix.mix rfl ?_ | exact Mix.refl)) (xs.length - (t + 1)) (by omega) (⟨t + 1, v2, by omega, rfl, rfl, by rw [flat_take xs t (by omega), ← List.cons_append], rfl⟩) (.mk xS xS)
  · simp at hc1
    have et : t = xs.length := by omega
    subst et
    rw [List.take_length]
    refine cs_exit ?_
    refine ps_then_exit ?_
    refine ps_then_exit ?_
    refine ps_block_here ?_
    refine ps_then ?_
    refine cs_seq ?_
    refine cs_seq_region [0, 1, 2] rfl ?_
    refine c_move rfl rfl rfl rfl (by conv => lhs; whnf) ?_
    refine c_call rfl rfl rfl rfl Tryz.call159 (sum32_h w0 _ _ g0 v1 (mark :: xs.flatten) xM (by simp only [List.length_cons]; omega)) (by exact rfl) (fun _ _ _ _ => Or.inl rfl) ?_
    rintro _ _ _ ⟨v3, rfl, rfl, rfl⟩
    refine c_assign rfl rfl rfl rfl (by conv => lhs; whnf) ?_
    refine can_nil ?_
    refine ps_then ?_
    refine cs_ret ?_
    apply ps_end1 rfl Tryz.results82 (by conv => lhs; whnf)
    · exact ⟨_, rfl, rfl, rfl⟩
    · exact (.mk xS xS)

def lenTab : ByteArray := (ByteArray.mk (List.toArray (List.append (List.append [0, 1, 2, 2, 3, 3, 3, 3, 4, 4, 4, 4, 4, 4, 4, 4, 5, 5, 5, 5, 5, 5, 5, 5, 5, 5, 5, 5, 5, 5, 5, 5, 6, 6, 6, 6, 6, 6, 6, 6, 6, 6, 6, 6, 6, 6, 6, 6, 6, 6, 6, 6, 6, 6, 6, 6, 6, 6, 6, 6, 6, 6, 6, 6] [7, 7, 7, 7, 7, 7, 7, 7, 7, 7, 7, 7, 7, 7, 7, 7, 7, 7, 7, 7, 7, 7, 7, 7, 7, 7, 7, 7, 7, 7, 7, 7, 7, 7, 7, 7, 7, 7, 7, 7, 7, 7, 7, 7, 7, 7, 7, 7, 7, 7, 7, 7, 7, 7, 7, 7, 7, 7, 7, 7, 7, 7, 7, 7]) (List.append [8, 8, 8, 8, 8, 8, 8, 8, 8, 8, 8, 8, 8, 8, 8, 8, 8, 8, 8, 8, 8, 8, 8, 8, 8, 8, 8, 8, 8, 8, 8, 8, 8, 8, 8, 8, 8, 8, 8, 8, 8, 8, 8, 8, 8, 8, 8, 8, 8, 8, 8, 8, 8, 8, 8, 8, 8, 8, 8, 8, 8, 8, 8, 8] [8, 8, 8, 8, 8, 8, 8, 8, 8, 8, 8, 8, 8, 8, 8, 8, 8, 8, 8, 8, 8, 8, 8, 8, 8, 8, 8, 8, 8, 8, 8, 8, 8, 8, 8, 8, 8, 8, 8, 8, 8, 8, 8, 8, 8, 8, 8, 8, 8, 8, 8, 8, 8, 8, 8, 8, 8, 8, 8, 8, 8, 8, 8, 8]))))
theorem lenTab_all : (List.range 256).all (fun x => lenTab.data.toList[x]? == some (UInt8.ofNat (blen x))) = true := by decide +kernel
theorem lenTab_size : lenTab.data.toList.length = 256 := by decide +kernel
theorem lenTab_get (x : Nat) (h : x < 256) : lenTab[x]? = some (UInt8.ofNat (blen x)) := by
  have h1 := List.all_eq_true.1 lenTab_all x (List.mem_range.2 h)
  have h2 : lenTab.data.toList[x]? = some (UInt8.ofNat (blen x)) := by simpa using h1
  have hs : x < lenTab.size := by have := lenTab_size; rw [Array.length_toList] at this; show x < lenTab.data.size; omega
  rw [getElem?_pos lenTab x hs]
  rw [List.getElem?_eq_getElem (by rw [lenTab_size]; exact h)] at h2
  exact h2
theorem blen_le (x : Nat) (h : x < 256) : blen x ≤ 8 := by
  rw [blen]
  split
  · omega
  · have : ¬ 8 ≤ Nat.log2 x := by rw [Nat.le_log2 (by omega)]; omega
    omega
theorem blen_byte (x : Nat) (h : x < 256) : (UInt8.ofNat (blen x)).toNat = blen x := by
  have := blen_le x h
  rw [UInt8.toNat_ofNat']; exact Nat.mod_eq_of_lt (by omega)
set_option maxRecDepth 100000 in
theorem len64_ok (x : Nat) (w0 : World) (sps : List Sp) (rs : List Fa) (hx : x < 65536) :
    FnOk Tryz.prog 183 #[.int .u64 (x : Int)] w0 sps rs fun r s q => r = .int .i64 (blen x : Int) ∧ sps = s ∧ rs = q := by
  refine fn_enter Tryz.func183 rfl Tryz.ntmps183 rfl ?_
  refine cs_seq ?_
  refine cs_seq_region [0] rfl ?_
  refine c_assign rfl rfl rfl rfl (by conv => lhs; whnf) ?_
  refine can_nil ?_
  refine ps_then ?_
  refine cs_seq ?_
  refine cs_seq ?_
  refine cs_seq_region [0, 1] rfl ?_
  refine c_move rfl rfl rfl rfl (by conv => lhs; whnf) ?_
  refine c_geq rfl rfl rfl rfl rfl rfl ?_
  refine can_nil ?_
  refine ps_then ?_
  refine cs_cond rfl (fun hc1 => Bool.noConfusion (show true = false from hc1.symm.trans (decide_eq_false (by omega)))) (fun _ => ?_)
  refine cs_skip ?_
  refine ps_then ?_
  refine cs_seq ?_
  refine cs_seq ?_
  refine cs_seq_region [0, 1] rfl ?_
  refine c_move rfl rfl rfl rfl (by conv => lhs; whnf) ?_
  refine c_geq rfl rfl rfl rfl rfl rfl ?_
  refine can_nil ?_
  refine ps_then ?_
  refine cs_cond rfl (fun hc2 => Bool.noConfusion (show true = false from hc2.symm.trans (decide_eq_false (by omega)))) (fun _ => ?_)
  refine cs_skip ?_
  refine ps_then ?_
  refine cs_seq ?_
  refine cs_seq ?_
  refine cs_seq_region [0, 1] rfl ?_
  refine c_move rfl rfl rfl rfl (by conv => lhs; whnf) ?_
  refine c_geq rfl rfl rfl rfl rfl rfl ?_
  refine can_nil ?_
  refine ps_then ?_
  refine cs_cond rfl (fun hc3 => ?_) (fun hc3 => ?_)
  · simp at hc3
    have hbl := blen_le (x / 256) (by omega)
    refine cs_seq ?_
    refine cs_seq_region [0, 1, 2] rfl ?_
    refine c_move rfl rfl rfl rfl (by conv => lhs; whnf) ?_
    refine n_shr (b := 8) rfl rfl rfl rfl rfl rfl rfl (by decide) ?_
    refine c_assign rfl rfl rfl rfl (by conv => lhs; whnf) ?_
    refine can_nil ?_
    refine ps_then ?_
    refine cs_seq_region [0, 1, 2] rfl ?_
    refine c_move rfl rfl rfl rfl (by conv => lhs; whnf) ?_
    first | refine c_addI rfl rfl rfl rfl rfl rfl xW ?_ | refine c_add rfl rfl rfl rfl rfl rfl ?_
    refine c_assign rfl rfl rfl rfl (by conv => lhs; whnf) ?_
    refine can_nil ?_
    refine ps_then ?_
    refine cs_seq ?_
    refine cs_seq_region [0, 1, 2, 3, 4, 5, 6] rfl ?_
    refine c_move rfl rfl rfl rfl (by conv => lhs; whnf) ?_
    refine c_move rfl rfl rfl rfl (by conv => lhs; whnf) ?_
    refine n_conv rfl rfl rfl rfl Tryz.underlying97 Tryz.underlying5 rfl rfl ?_
    first | refine can_is 21 (.int .u8 ((x : Nat) : Int)) (congrArg (fun z : Nat => Value.int .u8 (z : Int)) (Nat.mod_eq_of_lt (show x < 2 ^ 8 by omega))) ?_ | refine can_is 21 (.int .u8 ((x / 256 : Nat) : Int)) (congrArg (fun z : Nat => Value.int .u8 (z : Int)) (Nat.mod_eq_of_lt (show x / 256 < 2 ^ 8 by omega))) ?_
    first | refine c_indexStr (s := lenTab) rfl rfl rfl rfl Tryz.underlying9 rfl rfl (by omega) (lenTab_get (x) (by omega)) ?_ | refine c_indexStr (s := lenTab) rfl rfl rfl rfl Tryz.underlying9 rfl rfl (by omega) (lenTab_get (x / 256) (by omega)) ?_
    first | refine c_convI rfl rfl rfl rfl Tryz.underlying5 Tryz.underlying3 rfl xW ?_ | refine c_conv rfl rfl rfl rfl Tryz.underlying5 Tryz.underlying3 rfl ?_
    first | refine can_is 23 (.int .i64 ((blen (x) : Nat) : Int)) (congrArg (fun z : Nat => Value.int .i64 (z : Int)) (blen_byte (x) (by omega))) ?_ | refine can_is 23 (.int .i64 ((blen (x / 256) : Nat) : Int)) (congrArg (fun z : Nat => Value.int .i64 (z : Int)) (blen_byte (x / 256) (by omega))) ?_
    first | refine c_addI rfl rfl rfl rfl rfl rfl xW ?_ | refine c_add rfl rfl rfl rfl rfl rfl ?_
    refine c_assign rfl rfl rfl rfl (by conv => lhs; whnf) ?_
    refine can_nil ?_
    refine ps_then ?_
    refine cs_ret ?_
    apply ps_end1 rfl Tryz.results183 (by conv => lhs; whnf)
    · exact ⟨by rw [blen_256 x (by omega)]; exact congrArg (Value.int .i64) (by omega), rfl, rfl⟩
    · exact (.mk xS xS)
  · simp at hc3
    have hbl := blen_le x (by omega)
    refine cs_skip ?_
    refine ps_then ?_
    refine cs_seq ?_
    refine cs_seq_region [0, 1, 2, 3, 4, 5, 6] rfl ?_
    refine c_move rfl rfl rfl rfl (by conv => lhs; whnf) ?_
    refine c_move rfl rfl rfl rfl (by conv => lhs; whnf) ?_
    refine n_conv rfl rfl rfl rfl Tryz.underlying97 Tryz.underlying5 rfl rfl ?_
    first | refine can_is 21 (.int .u8 ((x : Nat) : Int)) (congrArg (fun z : Nat => Value.int .u8 (z : Int)) (Nat.mod_eq_of_lt (show x < 2 ^ 8 by omega))) ?_ | refine can_is 21 (.int .u8 ((x / 256 : Nat) : Int)) (congrArg (fun z : Nat => Value.int .u8 (z : Int)) (Nat.mod_eq_of_lt (show x / 256 < 2 ^ 8 by omega))) ?_
    first | refine c_indexStr (s := lenTab) rfl rfl rfl rfl Tryz.underlying9 rfl rfl (by omega) (lenTab_get (x) (by omega)) ?_ | refine c_indexStr (s := lenTab) rfl rfl rfl rfl Tryz.underlying9 rfl rfl (by omega) (lenTab_get (x / 256) (by omega)) ?_
    first | refine c_convI rfl rfl rfl rfl Tryz.underlying5 Tryz.underlying3 rfl xW ?_ | refine c_conv rfl rfl rfl rfl Tryz.underlying5 Tryz.underlying3 rfl ?_
    first | refine can_is 23 (.int .i64 ((blen (x) : Nat) : Int)) (congrArg (fun z : Nat => Value.int .i64 (z : Int)) (blen_byte (x) (by omega))) ?_ | refine can_is 23 (.int .i64 ((blen (x / 256) : Nat) : Int)) (congrArg (fun z : Nat => Value.int .i64 (z : Int)) (blen_byte (x / 256) (by omega))) ?_
    first | refine c_addI rfl rfl rfl rfl rfl rfl xW ?_ | refine c_add rfl rfl rfl rfl rfl rfl ?_
    refine c_assign rfl rfl rfl rfl (by conv => lhs; whnf) ?_
    refine can_nil ?_
    refine ps_then ?_
    refine cs_ret ?_
    apply ps_end1 rfl Tryz.results183 (by conv => lhs; whnf)
    · exact ⟨congrArg (Value.int .i64) (by omega), rfl, rfl⟩
    · exact (.mk xS xS)

theorem len_ok (x : Nat) (w0 : World) (sps : List Sp) (rs : List Fa) (hx : x < 65536) :
    FnOk Tryz.prog 104 #[.int .u64 (x : Int)] w0 sps rs fun r s q => r = .int .i64 (blen x : Int) ∧ sps = s ∧ rs = q := by
  refine fn_enter Tryz.func104 rfl Tryz.ntmps104 rfl ?_
  refine cs_seq ?_
  refine cs_seq_region [0] rfl ?_
  refine c_assign rfl rfl rfl rfl (by conv => lhs; whnf) ?_
  refine can_nil ?_
  refine ps_then ?_
  refine cs_seq ?_
  refine cs_false rfl ?_
  refine cs_skip ?_
  refine ps_then ?_
  refine cs_seq ?_
  refine cs_seq_region [0, 1, 2] rfl ?_
  refine c_move rfl rfl rfl rfl (by conv => lhs; whnf) ?_
  refine c_call rfl rfl rfl rfl Tryz.call183 (len64_ok x w0 _ _ hx) (by exact rfl) (fun _ _ _ _ => Or.inl rfl) ?_
  rintro _ _ _ ⟨rfl, rfl, rfl⟩
  refine c_assign rfl rfl rfl rfl (by conv => lhs; whnf) ?_
  refine can_nil ?_
  refine ps_then ?_
  refine cs_ret ?_
  apply ps_end1 rfl Tryz.results104 (by conv => lhs; whnf)
  · exact ⟨rfl, rfl, rfl⟩
  · exact (.mk xS xS)

theorem half_ok (n : Nat) (w0 : World) (sps : List Sp) (rs : List Fa) (h2 : 2 ≤ n) (hn : n ≤ 4096) :
    FnOk Tryz.prog 86 #[.int .i64 (n : Int)] w0 sps rs fun r s q => r = .int .i64 (halfN n : Int) ∧ sps = s ∧ rs = q := by
  have hb : blen (n - 1) = Nat.log2 (n - 1) + 1 := by rw [blen, if_neg (by omega)]
  have hlg : Nat.log2 (n - 1) < 12 := by
    have : ¬ 12 ≤ Nat.log2 (n - 1) := by rw [Nat.le_log2 (by omega)]; omega
    omega
  refine fn_enter Tryz.func86 rfl Tryz.ntmps86 rfl ?_
  refine cs_seq ?_
  refine cs_seq_region [0] rfl ?_
  refine c_assign rfl rfl rfl rfl (by conv => lhs; whnf) ?_
  refine can_nil ?_
  refine ps_then ?_
  refine cs_seq ?_
  refine cs_seq_region [0, 1, 2, 3, 4, 5, 6] rfl ?_
  refine c_move rfl rfl rfl rfl (by conv => lhs; whnf) ?_
  first | refine c_subI rfl rfl rfl rfl rfl rfl xW ?_ | refine c_sub rfl rfl rfl rfl rfl rfl ?_
  refine n_conv (p := n - 1) rfl rfl rfl rfl Tryz.underlying3 Tryz.underlying174 (congrArg (Value.int .i64) (by omega)) rfl ?_
  rw [show (n - 1) % 2 ^ IntKind.bits .u64 = n - 1 from Nat.mod_eq_of_lt (by show _ < 2 ^ 64; omega)]
  refine c_call rfl rfl rfl rfl Tryz.call104 (len_ok (n - 1) w0 _ _ (by omega)) (by exact rfl) (fun _ _ _ _ => Or.inl rfl) ?_
  rintro _ _ _ ⟨rfl, rfl, rfl⟩
  rw [hb]
  first | refine c_subI rfl rfl rfl rfl rfl rfl xW ?_ | refine c_sub rfl rfl rfl rfl rfl rfl ?_
  refine can_is 7 (.int .i64 ((Nat.log2 (n - 1) : Nat) : Int)) (congrArg (Value.int .i64) (by omega)) ?_
  refine c_shl rfl rfl rfl rfl rfl rfl (by first | decide | omega) ?_
  refine can_is 8 (.int .i64 ((halfN n : Nat) : Int)) (congrArg (Value.int .i64) (half_shl _ hlg)) ?_
  refine c_assign rfl rfl rfl rfl (by conv => lhs; whnf) ?_
  refine can_nil ?_
  refine ps_then ?_
  refine cs_ret ?_
  apply ps_end1 rfl Tryz.results86 (by conv => lhs; whnf)
  · exact ⟨rfl, rfl, rfl⟩
  · exact (.mk xS xS)

end Go.Proofs.YtmodmjekhlnjpaaGreatDoor
namespace Go.Proofs.YtmodmjekhlnjpaaGreatDoor
open Go.RowKit
theorem count_ok (n c : Nat) (w0 : World) (sps : List Sp) (rs : List Fa) (hc : 64 ≤ c) (hc2 : c ≤ 1024) (hn : n ≤ 131072) :
    FnOk Tryz.prog 81 #[.int .i64 (n : Int), .int .i64 (c : Int)] w0 sps rs fun r s q => r = .tuple #[.int .i64 (cntN n c : Int), .int .i64 0] ∧ sps = s ∧ rs = q := by
  refine fn_enter Tryz.func81 rfl Tryz.ntmps81 rfl ?_
  refine cs_seq ?_
  refine cs_seq_region [0, 1] rfl ?_
  refine c_assign rfl rfl rfl rfl (by conv => lhs; whnf) ?_
  refine c_assign rfl rfl rfl rfl (by conv => lhs; whnf) ?_
  refine can_nil ?_
  refine ps_then ?_
  refine cs_seq ?_
  refine cs_block ?_
  refine cs_seq ?_
  refine cs_seq_region [0, 1, 2, 3, 4, 5, 6, 7, 8, 9, 10] rfl ?_
  refine c_move rfl rfl rfl rfl (by conv => lhs; whnf) ?_
  refine c_lss rfl rfl rfl rfl rfl rfl ?_
  refine c_move rfl rfl rfl rfl (by conv => lhs; whnf) ?_
  refine can_known 9 false rfl (decide_eq_false (by omega)) ?_
  refine c_move rfl rfl rfl rfl (by conv => lhs; whnf) ?_
  refine c_lss rfl rfl rfl rfl rfl rfl ?_
  refine c_pick rfl rfl rfl rfl rfl (by conv => lhs; whnf) ?_
  refine c_move rfl rfl rfl rfl (by conv => lhs; whnf) ?_
  refine can_known 13 false rfl (decide_eq_false (by omega)) ?_
  refine c_move rfl rfl rfl rfl (by conv => lhs; whnf) ?_
  refine c_gtr rfl rfl rfl rfl rfl rfl ?_
  refine c_pick rfl rfl rfl rfl rfl (by conv => lhs; whnf) ?_
  refine c_assign rfl rfl rfl rfl (by conv => lhs; whnf) ?_
  refine can_nil ?_
  refine ps_then ?_
  refine cs_cond rfl (fun hc3 => Bool.noConfusion (show true = false from hc3.symm.trans (decide_eq_false (by omega)))) (fun _ => ?_)
  refine cs_seq ?_
  refine cs_seq_region [0, 1, 2] rfl ?_
  refine c_move rfl rfl rfl rfl (by conv => lhs; whnf) ?_
  refine c_gtr rfl rfl rfl rfl rfl rfl ?_
  refine c_assign rfl rfl rfl rfl (by conv => lhs; whnf) ?_
  refine can_nil ?_
  refine ps_then ?_
  refine cs_cond rfl (fun hc4 => Bool.noConfusion (show true = false from hc4.symm.trans (decide_eq_false (by omega)))) (fun _ => ?_)
  refine cs_skip ?_
  refine ps_block_normal ?_
  refine ps_then ?_
  refine cs_seq ?_
  refine cs_seq_region [0, 1, 2, 3, 4, 5, 6, 7] rfl ?_
  refine c_move rfl rfl rfl rfl (by conv => lhs; whnf) ?_
  refine c_move rfl rfl rfl rfl (by conv => lhs; whnf) ?_
  first | refine c_addI rfl rfl rfl rfl rfl rfl xW ?_ | refine c_add rfl rfl rfl rfl rfl rfl ?_
  first | refine c_subI rfl rfl rfl rfl rfl rfl xW ?_ | refine c_sub rfl rfl rfl rfl rfl rfl ?_
  refine c_move rfl rfl rfl rfl (by conv => lhs; whnf) ?_
  refine c_quoN (n + c - 1) c rfl rfl rfl rfl rfl rfl (by omega) rfl (by omega) (by have := Nat.div_le_self (n + c - 1) c; generalize (n + c - 1) / c = z at *; rw [IntKind.wrap_i64]; omega) ?_
  refine c_assign rfl rfl rfl rfl (by conv => lhs; whnf) ?_
  refine c_assign rfl rfl rfl rfl (by conv => lhs; whnf) ?_
  refine can_nil ?_
  refine ps_then ?_
  refine cs_ret ?_
  apply ps_end2 rfl Tryz.results81 (by conv => lhs; whnf) (by conv => lhs; whnf)
  · exact ⟨rfl, rfl, rfl⟩
  · exact (.mk xS xS)

theorem count_arg (n : Nat) (c : Int) (w0 : World) (sps : List Sp) (rs : List Fa) (hc : c < 64 ∨ c > 1024) :
    FnOk Tryz.prog 81 #[.int .i64 (n : Int), .int .i64 c] w0 sps rs fun r s q => r = .tuple #[.int .i64 0, .int .i64 1] ∧ sps = s ∧ rs = q := by
  refine fn_enter Tryz.func81 rfl Tryz.ntmps81 rfl ?_
  refine cs_seq ?_
  refine cs_seq_region [0, 1] rfl ?_
  refine c_assign rfl rfl rfl rfl (by conv => lhs; whnf) ?_
  refine c_assign rfl rfl rfl rfl (by conv => lhs; whnf) ?_
  refine can_nil ?_
  refine ps_then ?_
  refine cs_seq ?_
  refine cs_block ?_
  refine cs_seq ?_
  refine cs_seq_region [0, 1, 2, 3, 4, 5, 6, 7, 8, 9, 10] rfl ?_
  refine c_move rfl rfl rfl rfl (by conv => lhs; whnf) ?_
  refine c_lss rfl rfl rfl rfl rfl rfl ?_
  refine c_move rfl rfl rfl rfl (by conv => lhs; whnf) ?_
  refine can_known 9 false rfl (decide_eq_false (by omega)) ?_
  refine c_move rfl rfl rfl rfl (by conv => lhs; whnf) ?_
  refine c_lss rfl rfl rfl rfl rfl rfl ?_
  refine c_pick rfl rfl rfl rfl rfl (by conv => lhs; whnf) ?_
  refine c_move rfl rfl rfl rfl (by conv => lhs; whnf) ?_
  refine can_split 13 rfl (fun hg2 => ?_) (fun hg2 => ?_)
  · simp at hg2
    refine can_skip rfl rfl rfl (Or.inl rfl) ?_
    refine can_skip rfl rfl rfl (Or.inl rfl) ?_
    refine c_pick rfl rfl rfl rfl rfl (by conv => lhs; whnf) ?_
    refine c_assign rfl rfl rfl rfl (by conv => lhs; whnf) ?_
    refine can_nil ?_
    refine ps_then ?_
    refine cs_true rfl ?_
    refine cs_seq ?_
    refine cs_seq_region [0, 1] rfl ?_
    refine c_assign rfl rfl rfl rfl (by conv => lhs; whnf) ?_
    refine c_assign rfl rfl rfl rfl (by conv => lhs; whnf) ?_
    refine can_nil ?_
    refine ps_then ?_
    refine cs_ret ?_
    refine ps_block_ret ?_
    refine ps_then_ret ?_
    apply ps_end2 rfl Tryz.results81 (by conv => lhs; whnf) (by conv => lhs; whnf)
    · exact ⟨rfl, rfl, rfl⟩
    · exact (.mk xS xS)
  · simp at hg2
    refine c_move rfl rfl rfl rfl (by conv => lhs; whnf) ?_
    refine c_gtr rfl rfl rfl rfl rfl rfl ?_
    refine c_pick rfl rfl rfl rfl rfl (by conv => lhs; whnf) ?_
    refine c_assign rfl rfl rfl rfl (by conv => lhs; whnf) ?_
    refine can_nil ?_
    refine ps_then ?_
    refine cs_cond rfl (fun _ => ?_) (fun hc3 => Bool.noConfusion (show false = true from hc3.symm.trans (decide_eq_true (by omega))))
    refine cs_seq ?_
    refine cs_seq_region [0, 1] rfl ?_
    refine c_assign rfl rfl rfl rfl (by conv => lhs; whnf) ?_
    refine c_assign rfl rfl rfl rfl (by conv => lhs; whnf) ?_
    refine can_nil ?_
    refine ps_then ?_
    refine cs_ret ?_
    refine ps_block_ret ?_
    refine ps_then_ret ?_
    apply ps_end2 rfl Tryz.results81 (by conv => lhs; whnf) (by conv => lhs; whnf)
    · exact ⟨rfl, rfl, rfl⟩
    · exact (.mk xS xS)

theorem leaf_ok (i : Nat) (v : Value) (xs : List Nat) (w0 : World) (sps : List Sp) (rs : List Fa) (hst : Cl 7 0 startsV ∈ rs) (hct : Cl 8 0 constsV ∈ rs) (hi : i ≤ 4294967296) (hv : Rd b8 v xs ∈ rs) (hl : xs.length ≤ 1024) :
    FnOk Tryz.prog 36 #[.int .i64 (i : Int), v] w0 sps rs fun r s q => ∃ v, r = .tuple #[v, .int .i64 0] ∧ Row b8 5 v (leafN i xs) :: sps = s ∧ rs = q := by
  refine fn_en (en_shape hv) ?_
  rintro _ _ ⟨rfl, rfl, A0, c0, rfl, hcA0, hAA0, hMA0⟩
  refine fn_enter Tryz.func36 rfl Tryz.ntmps36 rfl ?_
  refine cs_seq ?_
  refine cs_seq_region [0, 1] rfl ?_
  refine c_assign rfl rfl rfl rfl (by conv => lhs; whnf) ?_
  refine c_assign rfl rfl rfl rfl (by conv => lhs; whnf) ?_
  refine can_nil ?_
  refine ps_then ?_
  refine cs_seq ?_
  refine cs_block ?_
  refine cs_seq ?_
  refine cs_seq_region [0, 1, 2] rfl ?_
  refine c_move rfl rfl rfl rfl (by conv => lhs; whnf) ?_
  refine c_lss rfl rfl rfl rfl rfl rfl ?_
  refine c_assign rfl rfl rfl rfl (by conv => lhs; whnf) ?_
  refine can_nil ?_
  refine ps_then ?_
  refine cs_cond rfl (fun hc1 => Bool.noConfusion (show true = false from hc1.symm.trans (decide_eq_false (by omega)))) (fun _ => ?_)
  refine cs_seq ?_
  refine cs_seq_region [0, 1, 2, 3] rfl ?_
  refine c_move rfl rfl rfl rfl (by conv => lhs; whnf) ?_
  refine c_len rfl rfl rfl rfl Tryz.underlying22 rfl ?_
  refine c_gtr rfl rfl rfl rfl rfl rfl ?_
  refine c_assign rfl rfl rfl rfl (by conv => lhs; whnf) ?_
  refine can_nil ?_
  refine ps_then ?_
  refine cs_cond rfl (fun hc2 => Bool.noConfusion (show true = false from hc2.symm.trans (decide_eq_false (by omega)))) (fun _ => ?_)
  refine cs_skip ?_
  refine ps_block_normal ?_
  refine ps_then ?_
  refine cs_seq ?_
  refine cs_seq_region [0, 1, 2, 3, 4, 5, 6] rfl ?_
  refine c_move rfl rfl rfl rfl (by conv => lhs; whnf) ?_
  refine c_call rfl rfl rfl rfl Tryz.call83 (eight_ok i w0 _ _ hi) (by exact rfl) (fun _ _ _ _ => Or.inl rfl) ?_
  rintro _ _ _ ⟨v1, rfl, rfl, rfl⟩
  refine can_en (en_rowShape (xs := beB 8 i) xM) ?_
  rintro _ _ ⟨rfl, rfl, B14, c14, rfl, -, -, -⟩
  refine can_en (en_give (xs := beB 8 i) (by repeat (first | exact Rem.here | apply Rem.there))) ?_
  rintro _ _ ⟨rfl, rfl⟩
  refine c_move rfl rfl rfl rfl (by conv => lhs; whnf) ?_
  refine c_lit (cs := [_, _]) rfl rfl rfl rfl Tryz.underlying25 Tryz.sizeOf22 Tryz.zeroValue22 rfl rfl rfl rfl rfl (fun _ => Or.inl rfl) (fun g16 => ?_)
  refine can_en (en_asRd (dr := bb) (xs := [beB 8 i, xs]) (by repeat (first | exact Rem.here | apply Rem.there)) (fun hh hr => reps2 ⟨_, rfl, hr (Rd b8 _ (beB 8 i)) xM⟩ ⟨_, rfl, hr (Rd b8 _ (xs)) xM⟩) rfl (by simp)) ?_
  rintro _ _ ⟨rfl, rfl⟩
  refine c_call rfl rfl rfl rfl Tryz.call82 (digest_ok 0 _ [beB 8 i, xs] w0 _ _ xM xM (by decide) xM (by simp [beB_length]; omega)) (by exact rfl) (fun _ _ _ _ => Or.inl rfl) ?_
  rintro _ _ _ ⟨v2, rfl, rfl, rfl⟩
  rw [show [beB 8 i, xs].flatten = beB 8 i ++ xs from by simp]
  refine c_assign rfl rfl rfl rfl (by conv => lhs; whnf) ?_
  refine c_assign rfl rfl rfl rfl (by conv => lhs; whnf) ?_
  refine can_nil ?_
  refine ps_then ?_
  refine cs_ret ?_
  refine ps_en (en_keep (rs) (by (repeat (refine List.forall_mem_cons.2 ⟨by repeat (first | exact .head _ | assumption | apply List.Mem.tail), ?_⟩)); intro r hr; repeat (first | assumption | apply List.Mem.tail))) ?_
  rintro _ _ ⟨rfl, rfl⟩
  apply ps_end2 rfl Tryz.results36 (by conv => lhs; whnf) (by conv => lhs; whnf)
  · exact ⟨_, rfl, rfl, rfl⟩
  · exact (.mk xS xS)

theorem cut_ok (c : Nat) (v : Value) (xs : List Nat) (w0 : World) (sps : List Sp) (rs : List Fa) (hc : 64 ≤ c) (hc2 : c ≤ 1024) (hn : xs.length ≤ 131072) (hv : Rd b8 v xs ∈ rs) :
    FnOk Tryz.prog 35 #[v, .int .i64 (c : Int)] w0 sps rs fun r s q => ∃ v, r = .tuple #[v, .int .i64 0] ∧ Row bb 22 v (cutN c xs) :: sps = s ∧ rs = q := by
  have hle : cntN xs.length c ≤ 131072 + 1024 := Nat.le_trans (Nat.div_le_self _ _) (by omega)
  refine fn_en (en_shape hv) ?_
  rintro _ _ ⟨rfl, rfl, A0, c0, rfl, hcA0, hAA0, hMA0⟩
  refine fn_enter Tryz.func35 rfl Tryz.ntmps35 rfl ?_
  refine cs_seq ?_
  refine cs_seq_region [0, 1] rfl ?_
  refine c_assign rfl rfl rfl rfl (by conv => lhs; whnf) ?_
  refine c_assign rfl rfl rfl rfl (by conv => lhs; whnf) ?_
  refine can_nil ?_
  refine ps_then ?_
  refine cs_seq ?_
  refine cs_seq_region [0, 1, 2, 3, 4, 5, 6, 7, 8] rfl ?_
  refine c_move rfl rfl rfl rfl (by conv => lhs; whnf) ?_
  refine c_len rfl rfl rfl rfl Tryz.underlying22 rfl ?_
  refine c_move rfl rfl rfl rfl (by conv => lhs; whnf) ?_
  refine c_call rfl rfl rfl rfl Tryz.call81 (count_ok xs.length c w0 _ _ hc hc2 hn) (by exact rfl) (fun _ _ _ _ => Or.inl rfl) ?_
  rintro _ _ _ ⟨rfl, rfl, rfl⟩
  refine c_move rfl rfl rfl rfl (by conv => lhs; whnf) ?_
  refine c_extract rfl rfl rfl rfl rfl rfl ?_
  refine c_extract rfl rfl rfl rfl rfl rfl ?_
  refine c_assign rfl rfl rfl rfl (by conv => lhs; whnf) ?_
  refine c_assign rfl rfl rfl rfl (by conv => lhs; whnf) ?_
  refine can_nil ?_
  refine ps_then ?_
  refine cs_seq ?_
  refine cs_seq ?_
  refine cs_seq_region [0, 1] rfl ?_
  refine c_move rfl rfl rfl rfl (by conv => lhs; whnf) ?_
  refine c_neq rfl rfl rfl rfl rfl rfl ?_
  refine can_nil ?_
  refine ps_then ?_
  refine cs_cond rfl (fun hc1 => Bool.noConfusion (show true = false from hc1.symm.trans (rfl))) (fun _ => ?_)
  refine cs_skip ?_
  refine ps_then ?_
  refine cs_seq ?_
  refine cs_seq_region [0] rfl ?_
  refine c_assign rfl rfl rfl rfl (by conv => lhs; whnf) ?_
  refine can_nil ?_
  refine ps_then ?_
  refine cs_seq ?_
  refine cs_seq ?_
  refine cs_seq_region [0, 1] rfl ?_
  refine c_move rfl rfl rfl rfl (by conv => lhs; whnf) ?_
  refine c_move rfl rfl rfl rfl (by conv => lhs; whnf) ?_
  refine can_nil ?_
  refine ps_then ?_
  refine cs_block ?_
  refine cs_en (en_nilRow bb 22) ?_
  rintro _ _ ⟨rfl, rfl⟩
  refine cs_loopS [8, 9, 10, 22, 23, 24, 25, 26, 27, 28, 29, 30, 31, 32, 33, 34, 35, 36, 37, 38, 39, 40, 41] (fun m L s r => ∃ (i : Nat) (v : Value), i ≤ cntN xs.length c ∧ m = cntN xs.length c - i ∧ L = [(22, .int .i64 (i : Int)), (8, v)] ∧ s = Row bb 22 v ((cutN c xs).take i) :: sps ∧ rs = r) [(22, .int .i64 (0 : Nat)), (8, .slice none 0 0)] (⟨rfl, rfl, trivial⟩) (⟨0, _, by omega, rfl, rfl, rfl, rfl⟩) ?_
  rintro k0 f0 _ _ _ ⟨i, v, hi, rfl, rfl, rfl, rfl⟩
  refine cs_seq ?_
  refine cs_seq_region [0] rfl ?_
  refine c_lss rfl rfl rfl rfl rfl rfl ?_
  refine can_nil ?_
  refine ps_then ?_
  refine cs_seq ?_
  refine cs_cond rfl (fun hc2 => ?_) (fun hc2 => ?_)
  · simp at hc2
    have hic := cnt_lt (show 0 < c by omega) hc2
    refine cs_skip ?_
    refine ps_then ?_
    refine cs_seq ?_
    refine cs_block ?_
    refine cs_seq ?_
    refine cs_seq_region [0, 1] rfl ?_
    refine c_move rfl rfl rfl rfl (by conv => lhs; whnf) ?_
    refine c_assign rfl rfl rfl rfl (by conv => lhs; whnf) ?_
    refine can_nil ?_
    refine ps_then ?_
    refine cs_seq ?_
    refine cs_seq_region [0, 1, 2, 3] rfl ?_
    refine c_move rfl rfl rfl rfl (by conv => lhs; whnf) ?_
    refine c_move rfl rfl rfl rfl (by conv => lhs; whnf) ?_
    first | refine c_mulI rfl rfl rfl rfl rfl rfl xW ?_ | refine c_mul rfl rfl rfl rfl rfl rfl ?_
    refine can_is 27 (.int .i64 ((i * c : Nat) : Int)) (congrArg (Value.int .i64) (by simp)) ?_
    refine c_assign rfl rfl rfl rfl (by conv => lhs; whnf) ?_
    refine can_nil ?_
    refine ps_then ?_
    refine cs_seq_region [0, 1, 2, 3, 4, 5, 6, 7, 8, 9, 10, 11, 12, 13] rfl ?_
    refine c_move rfl rfl rfl rfl (by conv => lhs; whnf) ?_
    refine c_move rfl rfl rfl rfl (by conv => lhs; whnf) ?_
    refine c_move rfl rfl rfl rfl (by conv => lhs; whnf) ?_
    refine c_move rfl rfl rfl rfl (by conv => lhs; whnf) ?_
    refine c_len rfl rfl rfl rfl Tryz.underlying22 rfl ?_
    refine c_move rfl rfl rfl rfl (by conv => lhs; whnf) ?_
    refine c_move rfl rfl rfl rfl (by conv => lhs; whnf) ?_
    first | refine c_addI rfl rfl rfl rfl rfl rfl xW ?_ | refine c_add rfl rfl rfl rfl rfl rfl ?_
    refine c_min rfl rfl rfl rfl rfl rfl ?_
    refine can_is 36 (.int .i64 ((min xs.length (i * c + c) : Nat) : Int)) (congrArg (Value.int .i64) (by omega)) ?_
    refine c_slice (k := .i64) (k' := .i64) (lo := i * c) (hi := min xs.length (i * c + c)) rfl rfl rfl rfl Tryz.underlying22 Tryz.sizeOf5 rfl xM rfl rfl (.inr rfl) (.inr rfl) (by first | omega | (simp <;> omega)) (by first | omega | (simp <;> omega)) (fun A37 => ?_)
    rw [cut_piece]
    refine can_en (en_nilRow b8 5) ?_
    rintro _ _ ⟨rfl, rfl⟩
    refine c_append (dr := b8) (xs := []) (ys := ((xs.drop (i * c)).take c)) rfl rfl rfl rfl sty_b8 rfl rfl xF xM (by simp; omega) (fun _ => Or.inl rfl) (fun A38 => ?_)
    refine can_en (en_rowShape (xs := ((xs.drop (i * c)).take c)) xM) ?_
    rintro _ _ ⟨rfl, rfl, B38, c38, rfl, -, -, -⟩
    refine can_en (en_give (xs := ((xs.drop (i * c)).take c)) (by repeat (first | exact Rem.here | apply Rem.there))) ?_
    rintro _ _ ⟨rfl, rfl⟩
    refine c_lit (cs := [_]) rfl rfl rfl rfl Tryz.underlying25 Tryz.sizeOf22 Tryz.zeroValue22 rfl rfl rfl rfl rfl (fun _ => Or.inl rfl) (fun g39 => ?_)
    refine c_append1 (dr := bb) (ys := [((xs.drop (i * c)).take c)]) rfl rfl rfl rfl sty_bb rfl rfl (by repeat (first | exact Rem.here | apply Rem.there)) xF rfl (fun hh hr => Reps.one1 ⟨_, rfl, hr (Rd b8 _ ((xs.drop (i * c)).take c)) xM⟩) (by simp [cut_length]; omega) (fun _ => Or.inl rfl) (fun A40 => ?_)
    refine c_assign rfl rfl rfl rfl (by conv => lhs; whnf) ?_
    refine can_nil ?_
    refine ps_block_normal ?_
    refine ps_then ?_
    refine cs_seq_region [0, 1] rfl ?_
    first | refine c_addI rfl rfl rfl rfl rfl rfl xW ?_ | refine c_add rfl rfl rfl rfl rfl rfl ?_
    refine c_move rfl rfl rfl rfl (by conv => lhs; whnf) ?_
    refine can_nil ?_
    refine ps_en (en_keep (rs) (by (repeat (refine List.forall_mem_cons.2 ⟨by repeat (first | exact .head _ | assumption | apply List.Mem.tail), ?_⟩)); intro r hr; repeat (first | assumption | apply List.Mem.tail))) ?_
    rintro _ _ ⟨rfl, rfl⟩
    refine ps_roundS [(22, .int .i64 ((i + 1 : Nat) : Int)), (8, _)] ⟨rfl, rfl, trivial⟩ (by repeat (first | exact Mix.base | refine Mix.upd rfl ?_ | refine Mix.upds rfl ?_ | refine Mix.mix rfl ?_ | exact Mix.refl)) (cntN xs.length c - (i + 1)) (by omega) (⟨i + 1, _, by omega, rfl, rfl, by rw [cut_take c xs i (by omega)], rfl⟩) (.mk xS xS)
  · simp at hc2
    have ei : i = cntN xs.length c := by omega
    subst ei
    rw [List.take_of_length_le (Nat.le_of_eq (cut_length _ _))]
    refine cs_exit ?_
    refine ps_then_exit ?_
    refine ps_then_exit ?_
    refine ps_block_here ?_
    refine ps_then ?_
    refine cs_seq ?_
    refine cs_seq_region [0, 1, 2] rfl ?_
    refine c_move rfl rfl rfl rfl (by conv => lhs; whnf) ?_
    refine c_assign rfl rfl rfl rfl (by conv => lhs; whnf) ?_
    refine c_assign rfl rfl rfl rfl (by conv => lhs; whnf) ?_
    refine can_nil ?_
    refine ps_then ?_
    refine cs_ret ?_
    apply ps_end2 rfl Tryz.results35 (by conv => lhs; whnf) (by conv => lhs; whnf)
    · exact ⟨_, rfl, rfl, rfl⟩
    · exact (.mk xS xS)

theorem cut_arg (c : Int) (v : Value) (xs : List Nat) (w0 : World) (sps : List Sp) (rs : List Fa) (hc : c < 64 ∨ c > 1024) (hv : Rd b8 v xs ∈ rs) :
    FnOk Tryz.prog 35 #[v, .int .i64 c] w0 sps rs fun r s q => r = .tuple #[.slice none 0 0, .int .i64 1] ∧ sps = s ∧ rs = q := by
  refine fn_en (en_shape hv) ?_
  rintro _ _ ⟨rfl, rfl, A0, c0, rfl, hcA0, hAA0, hMA0⟩
  refine fn_enter Tryz.func35 rfl Tryz.ntmps35 rfl ?_
  refine cs_seq ?_
  refine cs_seq_region [0, 1] rfl ?_
  refine c_assign rfl rfl rfl rfl (by conv => lhs; whnf) ?_
  refine c_assign rfl rfl rfl rfl (by conv => lhs; whnf) ?_
  refine can_nil ?_
  refine ps_then ?_
  refine cs_seq ?_
  refine cs_seq_region [0, 1, 2, 3, 4, 5, 6, 7, 8] rfl ?_
  refine c_move rfl rfl rfl rfl (by conv => lhs; whnf) ?_
  refine c_len rfl rfl rfl rfl Tryz.underlying22 rfl ?_
  refine c_move rfl rfl rfl rfl (by conv => lhs; whnf) ?_
  refine c_call rfl rfl rfl rfl Tryz.call81 (count_arg xs.length c w0 _ _ hc) (by exact rfl) (fun _ _ _ _ => Or.inl rfl) ?_
  rintro _ _ _ ⟨rfl, rfl, rfl⟩
  refine c_move rfl rfl rfl rfl (by conv => lhs; whnf) ?_
  refine c_extract rfl rfl rfl rfl rfl rfl ?_
  refine c_extract rfl rfl rfl rfl rfl rfl ?_
  refine c_assign rfl rfl rfl rfl (by conv => lhs; whnf) ?_
  refine c_assign rfl rfl rfl rfl (by conv => lhs; whnf) ?_
  refine can_nil ?_
  refine ps_then ?_
  refine cs_seq ?_
  refine cs_seq ?_
  refine cs_seq_region [0, 1] rfl ?_
  refine c_move rfl rfl rfl rfl (by conv => lhs; whnf) ?_
  refine c_neq rfl rfl rfl rfl rfl rfl ?_
  refine can_nil ?_
  refine ps_then ?_
  refine cs_cond rfl (fun _ => ?_) (fun hc1 => Bool.noConfusion (show false = true from hc1.symm.trans (rfl)))
  refine cs_seq ?_
  refine cs_seq_region [0, 1, 2] rfl ?_
  refine c_move rfl rfl rfl rfl (by conv => lhs; whnf) ?_
  refine c_assign rfl rfl rfl rfl (by conv => lhs; whnf) ?_
  refine c_assign rfl rfl rfl rfl (by conv => lhs; whnf) ?_
  refine can_nil ?_
  refine ps_then ?_
  refine cs_ret ?_
  refine ps_then_ret ?_
  apply ps_end2 rfl Tryz.results35 (by conv => lhs; whnf) (by conv => lhs; whnf)
  · exact ⟨rfl, rfl, rfl⟩
  · exact (.mk xS xS)

theorem top_ok (w0 : World) : ∀ (n : Nat) (v : Value) (xs : List (List Nat)) (sps : List Sp) (rs : List Fa) (_ : Cl 7 0 startsV ∈ rs) (_ : Cl 8 0 constsV ∈ rs) (_ : Rd bb v xs ∈ rs) (_ : xs.length = n) (_ : 0 < n) (_ : n ≤ 4096) (_ : ∀ x ∈ xs, x.length = 32),
    FnOk Tryz.prog 87 #[v] w0 sps rs fun r s q => ∃ v, r = v ∧ sps = s ∧ Rd b8 v (topN xs) :: rs = q := by
  intro n
  induction n using Nat.strongRecOn with
  | ind n ih =>
  intro v xs sps rs hst hct hv hn h0 hm h32
  refine fn_en (en_shape hv) ?_
  rintro _ _ ⟨rfl, rfl, A0, c0, rfl, hcA0, hAA0, hMA0⟩
  refine fn_enter Tryz.func87 rfl Tryz.ntmps87 rfl ?_
  refine cs_seq ?_
  refine cs_seq_region [0] rfl ?_
  refine c_assign rfl rfl rfl rfl (by conv => lhs; whnf) ?_
  refine can_nil ?_
  refine ps_then ?_
  refine cs_seq ?_
  refine cs_seq ?_
  refine cs_seq_region [0, 1, 2] rfl ?_
  refine c_move rfl rfl rfl rfl (by conv => lhs; whnf) ?_
  refine c_len rfl rfl rfl rfl Tryz.underlying25 rfl ?_
  refine c_eql rfl rfl rfl rfl rfl rfl ?_
  refine can_nil ?_
  refine ps_then ?_
  refine cs_cond rfl (fun hc1 => ?_) (fun hc1 => ?_)
  · simp at hc1
    refine cs_seq ?_
    refine cs_en (en_openS (d' := b8) (xs := xs) 0 (by omega) xM) ?_
    rintro _ _ ⟨gg, off, cq, u, heq, rfl, rfl⟩
    injection heq with e1 e2 e3
    subst e1
    refine cs_seq_region [0, 1, 2, 3] rfl ?_
    refine c_move rfl rfl rfl rfl (by conv => lhs; whnf) ?_
    refine c_indexAddrS1 rfl rfl rfl rfl Tryz.underlying25 Tryz.sizeOf22 rfl rfl xD ?_
    first | refine c_load1 rfl rfl rfl Tryz.isAgg22 rfl (ldS rfl rfl xM (sub1 (by exact rfl))) ?_ | refine c_load1 rfl rfl rfl Tryz.isAgg22 rfl (ldSC (k := 0) rfl rfl xM (sub1 (by exact rfl))) ?_ | refine c_load1 rfl rfl rfl Tryz.isAgg22 rfl (ldSC rfl rfl xM (sub1 (by exact rfl))) ?_
    refine c_assign rfl rfl rfl rfl (by conv => lhs; whnf) ?_
    refine can_nil ?_
    refine ps_then ?_
    refine cs_ret ?_
    refine ps_then_ret ?_
    refine ps_en (en_keep (Rd b8 _ xs[0] :: rs) (by (repeat (refine List.forall_mem_cons.2 ⟨by repeat (first | exact .head _ | assumption | apply List.Mem.tail), ?_⟩)); intro r hr; repeat (first | assumption | apply List.Mem.tail))) ?_
    rintro _ _ ⟨rfl, rfl⟩
    rw [show xs[0] = topN xs from by
      rw [top_one (by omega)]
      cases xs with
      | nil => simp at hn; omega
      | cons x l => rfl]
    apply ps_end1 rfl Tryz.results87 (by conv => lhs; whnf)
    · exact ⟨_, rfl, rfl, rfl⟩
    · exact (.mk xS xS)
  · simp at hc1
    have hlt := half_lt xs.length (by omega)
    have hpos := half_pos xs.length
    have hge := half_ge xs.length (by omega)
    refine cs_skip ?_
    refine ps_then ?_
    refine cs_seq ?_
    refine cs_seq_region [0, 1, 2, 3] rfl ?_
    refine c_move rfl rfl rfl rfl (by conv => lhs; whnf) ?_
    refine c_len rfl rfl rfl rfl Tryz.underlying25 rfl ?_
    refine c_call rfl rfl rfl rfl Tryz.call86 (half_ok xs.length w0 _ _ (by omega) (by omega)) (by exact rfl) (fun _ _ _ _ => Or.inl rfl) ?_
    rintro _ _ _ ⟨rfl, rfl, rfl⟩
    refine c_assign rfl rfl rfl rfl (by conv => lhs; whnf) ?_
    refine can_nil ?_
    refine ps_then ?_
    refine cs_seq ?_
    refine cs_draw_region [0, 0, 0, 2, 0, 0, 0, 2, 2, 2, 0] [false, false, false, false, false, false, false, false, false, false, false] [0, 1, 2, 4, 5, 6, 3, 7, 8, 9, 10] (by kernel_rfl) (by kernel_rfl) (by kernel_rfl) (by kernel_rfl) xQ ?_
    refine can_forget rfl ?_
    refine c_move rfl rfl rfl rfl (by conv => lhs; whnf) ?_
    refine c_move rfl rfl rfl rfl (by conv => lhs; whnf) ?_
    refine c_slice (k := .i64) (k' := .i64) (hi := (halfN xs.length)) rfl rfl rfl rfl Tryz.underlying25 Tryz.sizeOf22 rfl xM rfl rfl (.inl ⟨rfl, rfl⟩) (.inr rfl) (by first | omega | (simp <;> omega)) (by first | omega | (simp <;> omega)) (fun A15 => ?_)
    refine c_move rfl rfl rfl rfl (by conv => lhs; whnf) ?_
    refine c_move rfl rfl rfl rfl (by conv => lhs; whnf) ?_
    refine c_slice (k := .i64) (k' := .i64) (lo := (halfN xs.length)) rfl rfl rfl rfl Tryz.underlying25 Tryz.sizeOf22 rfl xM rfl rfl (.inr rfl) (.inl ⟨rfl, rfl⟩) (by first | omega | (simp <;> omega)) (by first | omega | (simp <;> omega)) (fun A19 => ?_)
    rw [List.take_length]
    refine c_call rfl rfl rfl rfl Tryz.call87 (ih (halfN xs.length) (by omega) _ (xs.take (halfN xs.length)) _ _ xM xM xM (by simp; omega) (by omega) (by omega) (fun x hx => h32 x (List.mem_of_mem_take hx))) (by exact rfl) (fun _ _ _ _ => Or.inl rfl) ?_
    rintro _ _ _ ⟨v1, rfl, rfl, rfl⟩
    refine can_en (en_shape (xs := topN (xs.take (halfN xs.length))) xM) ?_
    rintro _ _ ⟨rfl, rfl, B16, c16, rfl, -, -, -⟩
    refine c_call rfl rfl rfl rfl Tryz.call87 (ih (xs.length - (halfN xs.length)) (by omega) _ (xs.drop (halfN xs.length)) _ _ xM xM xM (by simp) (by omega) (by omega) (fun x hx => h32 x (List.mem_of_mem_drop hx))) (by exact rfl) (fun _ _ _ _ => Or.inl rfl) ?_
    rintro _ _ _ ⟨v2, rfl, rfl, rfl⟩
    refine can_en (en_shape (xs := topN (xs.drop (halfN xs.length))) xM) ?_
    rintro _ _ ⟨rfl, rfl, B20, c20, rfl, -, -, -⟩
    refine c_lit (cs := [_, _]) rfl rfl rfl rfl Tryz.underlying25 Tryz.sizeOf22 Tryz.zeroValue22 rfl rfl rfl rfl rfl (fun _ => Or.inl rfl) (fun g21 => ?_)
    refine can_en (en_asRd (dr := bb) (xs := [topN (xs.take (halfN xs.length)), topN (xs.drop (halfN xs.length))]) (by repeat (first | exact Rem.here | apply Rem.there)) (fun hh hr => reps2 ⟨_, rfl, hr (Rd b8 _ (topN (xs.take (halfN xs.length)))) xM⟩ ⟨_, rfl, hr (Rd b8 _ (topN (xs.drop (halfN xs.length)))) xM⟩) rfl (by simp)) ?_
    rintro _ _ ⟨rfl, rfl⟩
    refine c_call rfl rfl rfl rfl Tryz.call82 (digest_ok 1 _ [topN (xs.take (halfN xs.length)), topN (xs.drop (halfN xs.length))] w0 _ _ xM xM (by decide) xM (by simp [top_length (halfN xs.length) (xs.take (halfN xs.length)) (by simp; omega) (by omega) (fun x hx => h32 x (List.mem_of_mem_take hx)), top_length (xs.length - (halfN xs.length)) (xs.drop (halfN xs.length)) (by simp) (by omega) (fun x hx => h32 x (List.mem_of_mem_drop hx))])) (by exact rfl) (fun _ _ _ _ => Or.inl rfl) ?_
    rintro _ _ _ ⟨v3, rfl, rfl, rfl⟩
    refine can_en (en_give (xs := dig32 (1 :: [topN (xs.take (halfN xs.length)), topN (xs.drop (halfN xs.length))].flatten)) (by repeat (first | exact Rem.here | apply Rem.there))) ?_
    rintro _ _ ⟨rfl, rfl⟩
    refine c_assign rfl rfl rfl rfl (by conv => lhs; whnf) ?_
    refine can_nil ?_
    refine ps_then ?_
    refine cs_ret ?_
    refine ps_en (en_keep (Rd b8 _ (dig32 (1 :: [topN (xs.take (halfN xs.length)), topN (xs.drop (halfN xs.length))].flatten)) :: rs) (by (repeat (refine List.forall_mem_cons.2 ⟨by repeat (first | exact .head _ | assumption | apply List.Mem.tail), ?_⟩)); intro r hr; repeat (first | assumption | apply List.Mem.tail))) ?_
    rintro _ _ ⟨rfl, rfl⟩
    rw [show dig32 (1 :: [topN (xs.take (halfN xs.length)), topN (xs.drop (halfN xs.length))].flatten) = topN xs from by rw [top_two (l := xs) (by omega)]; simp only [List.flatten_cons, List.flatten_nil, List.append_nil]]
    apply ps_end1 rfl Tryz.results87 (by conv => lhs; whnf)
    · exact ⟨_, rfl, rfl, rfl⟩
    · exact (.mk xS xS)

theorem leaves_ok (v : Value) (xs : List (List Nat)) (w0 : World) (sps : List Sp) (rs : List Fa) (hv : Rd bb v xs ∈ rs) (hl : xs.length ≤ 4096) (h32 : ∀ x ∈ xs, x.length = 32) :
    FnOk Tryz.prog 84 #[v] w0 sps rs fun r s q => r = .int .i64 0 ∧ sps = s ∧ rs = q := by
  refine fn_en (en_shape hv) ?_
  rintro _ _ ⟨rfl, rfl, A0, c0, rfl, hcA0, hAA0, hMA0⟩
  refine fn_enter Tryz.func84 rfl Tryz.ntmps84 rfl ?_
  refine cs_seq ?_
  refine cs_seq_region [0] rfl ?_
  refine c_assign rfl rfl rfl rfl (by conv => lhs; whnf) ?_
  refine can_nil ?_
  refine ps_then ?_
  refine cs_seq ?_
  refine cs_seq ?_
  refine cs_seq_region [0, 1, 2] rfl ?_
  refine c_move rfl rfl rfl rfl (by conv => lhs; whnf) ?_
  refine c_len rfl rfl rfl rfl Tryz.underlying25 rfl ?_
  refine c_gtr rfl rfl rfl rfl rfl rfl ?_
  refine can_nil ?_
  refine ps_then ?_
  refine cs_cond rfl (fun hc1 => Bool.noConfusion (show true = false from hc1.symm.trans (decide_eq_false (by omega)))) (fun _ => ?_)
  refine cs_skip ?_
  refine ps_then ?_
  refine cs_seq ?_
  refine cs_seq ?_
  refine cs_seq_region [0, 1, 2] rfl ?_
  refine c_move rfl rfl rfl rfl (by conv => lhs; whnf) ?_
  refine c_len rfl rfl rfl rfl Tryz.underlying25 rfl ?_
  refine c_move rfl rfl rfl rfl (by conv => lhs; whnf) ?_
  refine can_nil ?_
  refine ps_then ?_
  refine cs_block ?_
  refine cs_loopS [2, 4, 10, 11, 12, 13, 14, 15, 16, 17] (fun m L s r => ∃ t : Nat, t ≤ xs.length ∧ m = xs.length - t ∧ L = [(10, .int .i64 (t : Int))] ∧ sps = s ∧ rs = r) [(10, .int .i64 (0 : Nat))] (⟨rfl, trivial⟩) (⟨0, by omega, rfl, rfl, rfl, rfl⟩) ?_
  rintro k0 f0 _ _ _ ⟨t, ht, rfl, rfl, rfl, rfl⟩
  refine cs_seq ?_
  refine cs_seq_region [0] rfl ?_
  refine c_lss rfl rfl rfl rfl rfl rfl ?_
  refine can_nil ?_
  refine ps_then ?_
  refine cs_seq ?_
  refine cs_cond rfl (fun hc2 => ?_) (fun hc2 => ?_)
  · simp at hc2
    refine cs_skip ?_
    refine ps_then ?_
    refine cs_seq ?_
    refine cs_block ?_
    refine cs_seq ?_
    refine cs_en (en_openS (d' := b8) (xs := xs) t (by omega) xM) ?_
    rintro _ _ ⟨gg, off, cq, u, heq, rfl, rfl⟩
    injection heq with e1 e2 e3
    subst e1
    refine cs_en (en_shape (xs := xs[t]) xM) ?_
    rintro _ _ ⟨rfl, rfl, B1, c1, rfl, hb1, hb2, hb3⟩
    refine cs_seq_region [0, 1, 2] rfl ?_
    refine c_indexAddrS1 rfl rfl rfl rfl Tryz.underlying25 Tryz.sizeOf22 rfl rfl xD ?_
    first | refine c_load1 rfl rfl rfl Tryz.isAgg22 rfl (ldS rfl rfl xM (sub1 (by exact rfl))) ?_ | refine c_load1 rfl rfl rfl Tryz.isAgg22 rfl (ldSC (k := 0) rfl rfl xM (sub1 (by exact rfl))) ?_ | refine c_load1 rfl rfl rfl Tryz.isAgg22 rfl (ldSC rfl rfl xM (sub1 (by exact rfl))) ?_
    refine c_assign rfl rfl rfl rfl (by conv => lhs; whnf) ?_
    refine can_nil ?_
    refine ps_then ?_
    refine cs_seq ?_
    refine cs_seq_region [0, 1, 2] rfl ?_
    refine c_move rfl rfl rfl rfl (by conv => lhs; whnf) ?_
    refine c_len rfl rfl rfl rfl Tryz.underlying22 rfl ?_
    refine c_neq rfl rfl rfl rfl rfl rfl ?_
    refine can_nil ?_
    refine ps_then ?_
    refine cs_cond rfl (fun hc3 => Bool.noConfusion (show true = false from hc3.symm.trans (by rw [h32 _ (List.getElem_mem _)]; rfl))) (fun _ => ?_)
    refine cs_skip ?_
    refine ps_block_normal ?_
    refine ps_then ?_
    refine cs_seq_region [0, 1] rfl ?_
    first | refine c_addI rfl rfl rfl rfl rfl rfl xW ?_ | refine c_add rfl rfl rfl rfl rfl rfl ?_
    refine c_move rfl rfl rfl rfl (by conv => lhs; whnf) ?_
    refine can_nil ?_
    refine ps_en (en_keep (rs) (by (repeat (refine List.forall_mem_cons.2 ⟨by repeat (first | exact .head _ | assumption | apply List.Mem.tail), ?_⟩)); intro r hr; repeat (first | assumption | apply List.Mem.tail))) ?_
    rintro _ _ ⟨rfl, rfl⟩
    refine ps_roundS [(10, .int .i64 ((t + 1 : Nat) : Int))] ⟨rfl, trivial⟩ (by repeat (first | exact Mix.base | refine Mix.upd rfl ?_ | refine Mix.upds rfl ?_ | refine Mix.mix rfl ?_ | exact Mix.refl)) (xs.length - (t + 1)) (by omega) (⟨t + 1, by omega, rfl, rfl, rfl, rfl⟩) (.mk xS xS)
  · simp at hc2
    refine cs_exit ?_
    refine ps_then_exit ?_
    refine ps_then_exit ?_
    refine ps_block_here ?_
    refine ps_then ?_
    refine cs_seq ?_
    refine cs_seq_region [0] rfl ?_
    refine c_assign rfl rfl rfl rfl (by conv => lhs; whnf) ?_
    refine can_nil ?_
    refine ps_then ?_
    refine cs_ret ?_
    apply ps_end1 rfl Tryz.results84 (by conv => lhs; whnf)
    · exact ⟨rfl, rfl, rfl⟩
    · exact (.mk xS xS)

end Go.Proofs.YtmodmjekhlnjpaaGreatDoor
namespace Go.Proofs.YtmodmjekhlnjpaaGreatDoor
open Go.RowKit
def cloV (g : Nat) : Value := .func (.func 85) #[] #[.pointer (some ⟨g, 0, none⟩)]
theorem walk_ok (w0 : World) (g : Nat) : ∀ (n : Nat) (v : Value) (xs : List (List Nat)) (p : Nat) (sps : List Sp) (rs : List Fa) (_ : Cl 7 0 startsV ∈ rs) (_ : Cl 8 0 constsV ∈ rs) (_ : Cl g 0 [cloV g] ∈ rs) (_ : Rd bb v xs ∈ rs) (_ : xs.length = n) (_ : p < n) (_ : n ≤ 4096) (_ : ∀ x ∈ xs, x.length = 32),
    FnOk Tryz.prog 85 #[v, .int .i64 (p : Int), .pointer (some ⟨g, 0, none⟩)] w0 sps rs fun r s q => ∃ v, r = v ∧ Row bb 22 v (walkN xs p) :: sps = s ∧ rs = q := by
  intro n
  induction n using Nat.strongRecOn with
  | ind n ih =>
  intro v xs p sps rs hst hct hclo hv hn hp hm h32
  refine fn_en (en_shape hv) ?_
  rintro _ _ ⟨rfl, rfl, A0, c0, rfl, hcA0, hAA0, hMA0⟩
  refine fn_enter Tryz.func85 rfl Tryz.ntmps85 rfl ?_
  refine cs_seq ?_
  refine cs_seq_region [0] rfl ?_
  refine c_assign rfl rfl rfl rfl (by conv => lhs; whnf) ?_
  refine can_nil ?_
  refine ps_then ?_
  refine cs_seq ?_
  refine cs_seq ?_
  refine cs_seq_region [0, 1, 2] rfl ?_
  refine c_move rfl rfl rfl rfl (by conv => lhs; whnf) ?_
  refine c_len rfl rfl rfl rfl Tryz.underlying25 rfl ?_
  refine c_eql rfl rfl rfl rfl rfl rfl ?_
  refine can_nil ?_
  refine ps_then ?_
  refine cs_cond rfl (fun hc1 => ?_) (fun hc1 => ?_)
  · simp at hc1
    refine cs_seq ?_
    refine cs_seq_region [0] rfl ?_
    refine c_assign rfl rfl rfl rfl (by conv => lhs; whnf) ?_
    refine can_nil ?_
    refine ps_then ?_
    refine cs_ret ?_
    refine ps_then_ret ?_
    refine ps_en (en_nilRow bb 22) ?_
    rintro _ _ ⟨rfl, rfl⟩
    rw [← walk_one (l := xs) (p := p) (by omega)]
    apply ps_end1 rfl Tryz.results85 (by conv => lhs; whnf)
    · exact ⟨_, rfl, rfl, rfl⟩
    · exact (.mk xS xS)
  · simp at hc1
    have hlt := half_lt xs.length (by omega)
    have hpos := half_pos xs.length
    have hge := half_ge xs.length (by omega)
    have htl_t : (topN (xs.take (halfN xs.length))).length = 32 := top_length (halfN xs.length) _ (by simp; omega) (by omega) (fun x hx => h32 x (List.mem_of_mem_take hx))
    have htl_d : (topN (xs.drop (halfN xs.length))).length = 32 := top_length (xs.length - (halfN xs.length)) _ (by simp) (by omega) (fun x hx => h32 x (List.mem_of_mem_drop hx))
    refine cs_skip ?_
    refine ps_then ?_
    refine cs_seq ?_
    refine cs_seq_region [0, 1, 2, 3] rfl ?_
    refine c_move rfl rfl rfl rfl (by conv => lhs; whnf) ?_
    refine c_len rfl rfl rfl rfl Tryz.underlying25 rfl ?_
    refine c_call rfl rfl rfl rfl Tryz.call86 (half_ok xs.length w0 _ _ (by omega) (by omega)) (by exact rfl) (fun _ _ _ _ => Or.inl rfl) ?_
    rintro _ _ _ ⟨rfl, rfl, rfl⟩
    refine c_assign rfl rfl rfl rfl (by conv => lhs; whnf) ?_
    refine can_nil ?_
    refine ps_then ?_
    refine cs_seq ?_
    refine cs_seq ?_
    refine cs_seq_region [0, 1, 2] rfl ?_
    refine c_move rfl rfl rfl rfl (by conv => lhs; whnf) ?_
    refine c_move rfl rfl rfl rfl (by conv => lhs; whnf) ?_
    refine c_lss rfl rfl rfl rfl rfl rfl ?_
    refine can_nil ?_
    refine ps_then ?_
    refine cs_cond rfl (fun hc2 => ?_) (fun hc2 => ?_)
    · simp at hc2
      refine cs_seq ?_
      refine cs_draw_region [1, 0, 0, 0, 0, 2, 0, 0, 0, 2, 2, 2, 2, 0] [false, false, false, false, false, false, false, false, false, true, true, true, true, false] [0, 1, 2, 3, 4, 6, 7, 8, 5, 9, 10, 11, 12, 13] (by kernel_rfl) (by kernel_rfl) (by kernel_rfl) (by kernel_rfl) xQ ?_
      first | refine c_load1 rfl rfl rfl Tryz.isAgg154 rfl (ldD rfl rfl xE xM (sub1 (by exact rfl))) ?_ | refine c_load1 rfl rfl rfl Tryz.isAgg154 rfl (ldDC (k := 0) rfl rfl xE xM (sub1 (by exact rfl))) ?_ | refine c_load1 rfl rfl rfl Tryz.isAgg154 rfl (ldDC rfl rfl xE xM (sub1 (by exact rfl))) ?_
      refine c_move rfl rfl rfl rfl (by conv => lhs; whnf) ?_
      refine c_move rfl rfl rfl rfl (by conv => lhs; whnf) ?_
      refine c_slice (k := .i64) (k' := .i64) (hi := (halfN xs.length)) rfl rfl rfl rfl Tryz.underlying25 Tryz.sizeOf22 rfl xM rfl rfl (.inl ⟨rfl, rfl⟩) (.inr rfl) (by first | omega | (simp <;> omega)) (by first | omega | (simp <;> omega)) (fun A19 => ?_)
      refine c_move rfl rfl rfl rfl (by conv => lhs; whnf) ?_
      refine c_move rfl rfl rfl rfl (by conv => lhs; whnf) ?_
      refine c_move rfl rfl rfl rfl (by conv => lhs; whnf) ?_
      refine c_slice (k := .i64) (k' := .i64) (lo := (halfN xs.length)) rfl rfl rfl rfl Tryz.underlying25 Tryz.sizeOf22 rfl xM rfl rfl (.inr rfl) (.inl ⟨rfl, rfl⟩) (by first | omega | (simp <;> omega)) (by first | omega | (simp <;> omega)) (fun A24 => ?_)
      rw [List.take_length]
      refine c_callF rfl rfl rfl rfl rfl Tryz.call85 (ih (halfN xs.length) (by omega) _ (xs.take (halfN xs.length)) p _ _ xM xM xM xM (by simp; omega) (by omega) (by omega) (fun x hx => h32 x (List.mem_of_mem_take hx))) (by exact rfl) (fun _ _ _ _ => Or.inl rfl) ?_
      rintro _ _ _ ⟨v1, rfl, rfl, rfl⟩
      refine c_call rfl rfl rfl rfl Tryz.call87 (top_ok w0 (xs.length - (halfN xs.length)) _ (xs.drop (halfN xs.length)) _ _ xM xM xM (by simp <;> omega) (by omega) (by omega) (fun x hx => h32 x (List.mem_of_mem_drop hx))) (by exact rfl) (by rintro v s r ⟨v2, rfl, rfl, rfl⟩; exact Or.inr xE) ?_
      rintro _ _ _ ⟨v2, rfl, rfl, rfl⟩
      refine can_en (en_nilRow b8 5) ?_
      rintro _ _ ⟨rfl, rfl⟩
      refine c_append (dr := b8) (xs := []) (ys := topN (xs.drop (halfN xs.length))) rfl rfl rfl rfl sty_b8 rfl rfl xF xM (by rw [htl_d]; decide) (fun _ => Or.inr xE) (fun AZ => ?_)
      refine can_en (en_rowShape (xs := topN (xs.drop (halfN xs.length))) xM) ?_
      rintro _ _ ⟨rfl, rfl, B26, c26, rfl, -, -, -⟩
      refine can_en (en_give (xs := topN (xs.drop (halfN xs.length))) (by repeat (first | exact Rem.here | apply Rem.there))) ?_
      rintro _ _ ⟨rfl, rfl⟩
      refine c_lit (cs := [_]) rfl rfl rfl rfl Tryz.underlying25 Tryz.sizeOf22 Tryz.zeroValue22 rfl rfl rfl rfl rfl (fun _ => Or.inr xE) (fun g27 => ?_)
      refine c_append1 (dr := bb) (ys := [topN (xs.drop (halfN xs.length))]) rfl rfl rfl rfl sty_bb rfl rfl (by repeat (first | exact Rem.here | apply Rem.there)) xF rfl (fun hh hr => Reps.one1 ⟨_, rfl, hr (Rd b8 _ (topN (xs.drop (halfN xs.length)))) xM⟩) (by have := walk_len _ (xs.take (halfN xs.length)) p rfl; have := walk_len _ (xs.drop (halfN xs.length)) (p - (halfN xs.length)) rfl; simp only [List.length_take, List.length_drop] at *; omega) (fun _ => Or.inr xE) (fun AY => ?_)
      refine can_forget rfl ?_
      refine c_assign rfl rfl rfl rfl (by conv => lhs; whnf) ?_
      refine can_nil ?_
      refine ps_then ?_
      refine cs_ret ?_
      refine ps_then_ret ?_
      refine ps_en (en_keep (rs) (by (repeat (refine List.forall_mem_cons.2 ⟨by repeat (first | exact .head _ | assumption | apply List.Mem.tail), ?_⟩)); intro r hr; repeat (first | assumption | apply List.Mem.tail))) ?_
      rintro _ _ ⟨rfl, rfl⟩
      rw [← walk_lo (l := xs) (p := p) (by omega) (by omega)]
      apply ps_end1 rfl Tryz.results85 (by conv => lhs; whnf)
      · exact ⟨_, rfl, rfl, rfl⟩
      · exact (.mk xS xS)
    · simp at hc2
      refine cs_skip ?_
      refine ps_then ?_
      refine cs_seq ?_
      refine cs_draw_region [1, 0, 0, 0, 0, 0, 0, 2, 0, 0, 0, 2, 2, 2, 2, 0] [false, false, false, false, false, false, false, false, false, false, false, true, true, true, true, false] [0, 1, 2, 3, 4, 5, 6, 8, 9, 10, 7, 11, 12, 13, 14, 15] (by kernel_rfl) (by kernel_rfl) (by kernel_rfl) (by kernel_rfl) xQ ?_
      first | refine c_load1 rfl rfl rfl Tryz.isAgg154 rfl (ldD rfl rfl xE xM (sub1 (by exact rfl))) ?_ | refine c_load1 rfl rfl rfl Tryz.isAgg154 rfl (ldDC (k := 0) rfl rfl xE xM (sub1 (by exact rfl))) ?_ | refine c_load1 rfl rfl rfl Tryz.isAgg154 rfl (ldDC rfl rfl xE xM (sub1 (by exact rfl))) ?_
      refine c_move rfl rfl rfl rfl (by conv => lhs; whnf) ?_
      refine c_move rfl rfl rfl rfl (by conv => lhs; whnf) ?_
      refine c_slice (k := .i64) (k' := .i64) (lo := (halfN xs.length)) rfl rfl rfl rfl Tryz.underlying25 Tryz.sizeOf22 rfl xM rfl rfl (.inr rfl) (.inl ⟨rfl, rfl⟩) (by first | omega | (simp <;> omega)) (by first | omega | (simp <;> omega)) (fun A32 => ?_)
      rw [List.take_length]
      refine c_move rfl rfl rfl rfl (by conv => lhs; whnf) ?_
      refine c_move rfl rfl rfl rfl (by conv => lhs; whnf) ?_
      first | refine c_subI rfl rfl rfl rfl rfl rfl xW ?_ | refine c_sub rfl rfl rfl rfl rfl rfl ?_
      refine can_is 35 (.int .i64 ((p - (halfN xs.length) : Nat) : Int)) (congrArg (Value.int .i64) (by omega)) ?_
      refine c_move rfl rfl rfl rfl (by conv => lhs; whnf) ?_
      refine c_move rfl rfl rfl rfl (by conv => lhs; whnf) ?_
      refine c_slice (k := .i64) (k' := .i64) (hi := (halfN xs.length)) rfl rfl rfl rfl Tryz.underlying25 Tryz.sizeOf22 rfl xM rfl rfl (.inl ⟨rfl, rfl⟩) (.inr rfl) (by first | omega | (simp <;> omega)) (by first | omega | (simp <;> omega)) (fun A39 => ?_)
      refine c_callF rfl rfl rfl rfl rfl Tryz.call85 (ih (xs.length - (halfN xs.length)) (by omega) _ (xs.drop (halfN xs.length)) (p - (halfN xs.length)) _ _ xM xM xM xM (by simp) (by omega) (by omega) (fun x hx => h32 x (List.mem_of_mem_drop hx))) (by exact rfl) (fun _ _ _ _ => Or.inl rfl) ?_
      rintro _ _ _ ⟨v1, rfl, rfl, rfl⟩
      refine c_call rfl rfl rfl rfl Tryz.call87 (top_ok w0 ((halfN xs.length)) _ (xs.take (halfN xs.length)) _ _ xM xM xM (by simp <;> omega) (by omega) (by omega) (fun x hx => h32 x (List.mem_of_mem_take hx))) (by exact rfl) (by rintro v s r ⟨v2, rfl, rfl, rfl⟩; exact Or.inr xE) ?_
      rintro _ _ _ ⟨v2, rfl, rfl, rfl⟩
      refine can_en (en_nilRow b8 5) ?_
      rintro _ _ ⟨rfl, rfl⟩
      refine c_append (dr := b8) (xs := []) (ys := topN (xs.take (halfN xs.length))) rfl rfl rfl rfl sty_b8 rfl rfl xF xM (by rw [htl_t]; decide) (fun _ => Or.inr xE) (fun AZ => ?_)
      refine can_en (en_rowShape (xs := topN (xs.take (halfN xs.length))) xM) ?_
      rintro _ _ ⟨rfl, rfl, B41, c41, rfl, -, -, -⟩
      refine can_en (en_give (xs := topN (xs.take (halfN xs.length))) (by repeat (first | exact Rem.here | apply Rem.there))) ?_
      rintro _ _ ⟨rfl, rfl⟩
      refine c_lit (cs := [_]) rfl rfl rfl rfl Tryz.underlying25 Tryz.sizeOf22 Tryz.zeroValue22 rfl rfl rfl rfl rfl (fun _ => Or.inr xE) (fun g42 => ?_)
      refine c_append1 (dr := bb) (ys := [topN (xs.take (halfN xs.length))]) rfl rfl rfl rfl sty_bb rfl rfl (by repeat (first | exact Rem.here | apply Rem.there)) xF rfl (fun hh hr => Reps.one1 ⟨_, rfl, hr (Rd b8 _ (topN (xs.take (halfN xs.length)))) xM⟩) (by have := walk_len _ (xs.take (halfN xs.length)) p rfl; have := walk_len _ (xs.drop (halfN xs.length)) (p - (halfN xs.length)) rfl; simp only [List.length_take, List.length_drop] at *; omega) (fun _ => Or.inr xE) (fun AY => ?_)
      refine can_forget rfl ?_
      refine c_assign rfl rfl rfl rfl (by conv => lhs; whnf) ?_
      refine can_nil ?_
      refine ps_then ?_
      refine cs_ret ?_
      refine ps_en (en_keep (rs) (by (repeat (refine List.forall_mem_cons.2 ⟨by repeat (first | exact .head _ | assumption | apply List.Mem.tail), ?_⟩)); intro r hr; repeat (first | assumption | apply List.Mem.tail))) ?_
      rintro _ _ ⟨rfl, rfl⟩
      rw [← walk_hi (l := xs) (p := p) (by omega) (by omega)]
      apply ps_end1 rfl Tryz.results85 (by conv => lhs; whnf)
      · exact ⟨_, rfl, rfl, rfl⟩
      · exact (.mk xS xS)

theorem prove_ok (v : Value) (xs : List (List Nat)) (p : Nat) (w0 : World) (sps : List Sp) (rs : List Fa) (hst : Cl 7 0 startsV ∈ rs) (hct : Cl 8 0 constsV ∈ rs) (hv : Rd bb v xs ∈ rs) (hp : p < xs.length) (hm : xs.length ≤ 4096) (h32 : ∀ x ∈ xs, x.length = 32) :
    FnOk Tryz.prog 37 #[v, .int .i64 (p : Int)] w0 sps rs fun r s q => ∃ v, r = .tuple #[v, .int .i64 0] ∧ Row bb 22 v (walkN xs p) :: sps = s ∧ rs = q := by
  refine fn_en (en_shape hv) ?_
  rintro _ _ ⟨rfl, rfl, A0, c0, rfl, hcA0, hAA0, hMA0⟩
  refine fn_enter Tryz.func37 rfl Tryz.ntmps37 rfl ?_
  refine cs_seq ?_
  refine cs_seq_region [0, 1] rfl ?_
  refine c_assign rfl rfl rfl rfl (by conv => lhs; whnf) ?_
  refine c_assign rfl rfl rfl rfl (by conv => lhs; whnf) ?_
  refine can_nil ?_
  refine ps_then ?_
  refine cs_seq ?_
  refine cs_seq ?_
  refine cs_seq_region [0, 1, 2] rfl ?_
  refine c_move rfl rfl rfl rfl (by conv => lhs; whnf) ?_
  refine c_call rfl rfl rfl rfl Tryz.call84 (leaves_ok _ xs w0 _ _ xM hm h32) (by exact rfl) (fun _ _ _ _ => Or.inl rfl) ?_
  rintro _ _ _ ⟨rfl, rfl, rfl⟩
  refine c_assign rfl rfl rfl rfl (by conv => lhs; whnf) ?_
  refine can_nil ?_
  refine ps_then ?_
  refine cs_seq ?_
  refine cs_seq_region [0, 1] rfl ?_
  refine c_move rfl rfl rfl rfl (by conv => lhs; whnf) ?_
  refine c_neq rfl rfl rfl rfl rfl rfl ?_
  refine can_nil ?_
  refine ps_then ?_
  refine cs_cond rfl (fun hc1 => Bool.noConfusion (show true = false from hc1.symm.trans (rfl))) (fun _ => ?_)
  refine cs_skip ?_
  refine ps_then ?_
  refine cs_seq ?_
  refine cs_seq ?_
  refine cs_seq_region [0, 1, 2, 3, 4, 5, 6, 7] rfl ?_
  refine c_move rfl rfl rfl rfl (by conv => lhs; whnf) ?_
  refine c_lss rfl rfl rfl rfl rfl rfl ?_
  refine c_move rfl rfl rfl rfl (by conv => lhs; whnf) ?_
  refine can_known 15 false rfl (decide_eq_false (by omega)) ?_
  refine c_move rfl rfl rfl rfl (by conv => lhs; whnf) ?_
  refine c_move rfl rfl rfl rfl (by conv => lhs; whnf) ?_
  refine c_len rfl rfl rfl rfl Tryz.underlying25 rfl ?_
  refine c_geq rfl rfl rfl rfl rfl rfl ?_
  refine c_pick rfl rfl rfl rfl rfl (by conv => lhs; whnf) ?_
  refine can_nil ?_
  refine ps_then ?_
  refine cs_cond rfl (fun hc3 => Bool.noConfusion (show true = false from hc3.symm.trans (decide_eq_false (by omega)))) (fun _ => ?_)
  refine cs_skip ?_
  refine ps_then ?_
  refine cs_seq ?_
  refine cs_seq_region [0] rfl ?_
  refine c_alloc rfl rfl rfl rfl Tryz.zeroValue154 rfl (fun _ => Or.inl rfl) (fun g7 => ?_)
  refine can_nil ?_
  refine ps_then ?_
  refine cs_seq ?_
  refine cs_seq_region [0, 1] rfl ?_
  refine c_func rfl rfl rfl rfl rfl ?_
  refine can_is 21 (cloV g7) (by show Value.func _ _ (Array.map _ #[_]) = _; rw [List.map_toArray]; rfl) ?_
  refine c_store1 (bs' := [cloV g7]) rfl rfl rfl Tryz.sizeOf154 rfl rfl xF rfl (Nat.le_of_ble_eq_true rfl) rfl (by (try simp only [List.cons_append, List.nil_append]); exact rfl) (Or.inl rfl) ?_
  refine can_nil ?_
  refine ps_then ?_
  refine cs_seq ?_
  refine cs_en (en_giveBk (by repeat (first | exact Rem.here | apply Rem.there))) ?_
  rintro _ _ ⟨rfl, rfl⟩
  refine cs_seq_region [0, 1, 2, 3, 4, 5] rfl ?_
  refine c_load1 (v := cloV g7) rfl rfl rfl Tryz.isAgg154 rfl (ldSC (k := 0) rfl rfl xM (sub1 (by exact rfl))) ?_
  refine c_move rfl rfl rfl rfl (by conv => lhs; whnf) ?_
  refine c_move rfl rfl rfl rfl (by conv => lhs; whnf) ?_
  refine c_callF rfl rfl rfl rfl rfl Tryz.call85 (walk_ok w0 g7 xs.length _ xs p _ _ xM xM xM xM rfl hp hm h32) (by exact rfl) (fun _ _ _ _ => Or.inl rfl) ?_
  rintro _ _ _ ⟨v1, rfl, rfl, rfl⟩
  refine c_assign rfl rfl rfl rfl (by conv => lhs; whnf) ?_
  refine c_assign rfl rfl rfl rfl (by conv => lhs; whnf) ?_
  refine can_nil ?_
  refine ps_then ?_
  refine cs_ret ?_
  refine ps_en (en_keep (rs) (by (repeat (refine List.forall_mem_cons.2 ⟨by repeat (first | exact .head _ | assumption | apply List.Mem.tail), ?_⟩)); intro r hr; repeat (first | assumption | apply List.Mem.tail))) ?_
  rintro _ _ ⟨rfl, rfl⟩
  apply ps_end2 rfl Tryz.results37 (by conv => lhs; whnf) (by conv => lhs; whnf)
  · exact ⟨_, rfl, rfl, rfl⟩
  · exact (.mk xS xS)

end Go.Proofs.YtmodmjekhlnjpaaGreatDoor
namespace Go.Proofs.YtmodmjekhlnjpaaGreatDoor
open Go.RowKit
section
variable {P : Program} {n : Fr} {Q : Exit → Act → World → Prop} {w0 : World} {e : Nat → Value} {sps : List Sp} {rs : List Fa} {fn : Func} {R : Value → List Sp → List Fa → Prop} {x : Exit} {v v1 v2 v3 : Value} {r1 r2 r3 : ResultVar}
/-- The way out of a body that defers and does not panic. -/
def bodyPostN (P : Program) (fn : Func) (R : Ending → World → Prop) : Exit → Act → World → Prop
  | .normal, a, w | .ret, a, w => bodyPostD P fn R .ret a w
  | _, _, _ => False
theorem qok_bodyN {R' : Ending → World → Prop} : QOk (bodyPostN P fn R') := fun _ _ _ _ _ h => h.elim
/-- A function that defers is entered. -/
theorem fn_enter_d {m : Nat} {f : FuncId} {c : Code} {l : List Value} (hf : P.funcs[f]? = some fn) (hb : fn.body = some c) (hn : fn.ntmps = m) (hl : Nat.ble l.length m = true) (h : CS P ⟨m, []⟩ c (bodyPostN P fn (Post w0 R)) w0 (env0 l) sps rs) : FnOk P f l.toArray w0 sps rs R := by
  intro W hs
  refine calls_of_wp_defers hf hb (wp_mono (h _ W ⟨rfl, ?_, fun t => ?_⟩ hs) fun x a W hq => by cases x <;> first | exact hq | exact hq.elim)
  · have hl' : l.length ≤ m := by simpa using hl
    simp [hn]; omega
  · simp only [env0, Array.getD_eq_getD_getElem?, List.getD_eq_getElem?_getD]
    rw [Array.getElem?_append]
    split
    · simp
    · rename_i h
      simp only [List.size_toArray, Nat.not_lt] at h
      rw [List.getElem?_eq_none h, Array.getElem?_replicate]
      split <;> rfl
/-- What is deferred turns nothing. -/
def Quiet (P : Program) (f : FuncId) (args : Array Value) : Prop := ∀ W, CallsD P f args .returning W fun e u W' => (∃ v, e = .returned v) ∧ u = .returning ∧ W' = W
theorem ps_endD1 {f : FuncId} {caps : Array Value} {m : Nat} (hx : isEnd x = true) (hq : Quiet P f caps) (hi : ∀ W, (invoke (.fn (.func f) caps) #[]).run P W = .ok (.enter f caps) W) (hv : ∀ a W, Env ⟨m, [⟨.fn (.func f) caps, #[]⟩]⟩ e a → St w0 W sps rs → (results fn a.tmps).run P W = .ok v W) {s : List Sp} {r : List Fa} (h : R v s r) (hE : Arr sps s) (hF : ∀ q ∈ r, q ∈ rs) : PS ⟨m, [⟨.fn (.func f) caps, #[]⟩]⟩ (bodyPostN P fn (Post w0 R)) x w0 e sps rs := by
  intro a W he hs
  have h' : Leaves P fn a.tmps (Post w0 R) a.defers .returning W := by
    rw [he.defers]
    refine ⟨by simp, _, _, f, caps, rfl, hi W, ?_⟩
    refine fun c cs hc => ?_
    obtain ⟨e', u', w', fr, ⟨⟨v', rfl⟩, rfl, rfl⟩, h2⟩ := hq W c cs hc
    exact ⟨.returned v', .returning, _, fr, ⟨v, hv a _ he hs, v, s, r, rfl, h, hE.st (hs.facts hF)⟩, h2⟩
  cases x <;> first | exact h' | cases hx
theorem run_res2 (hr : fn.results = #[r1, r2]) (h1 : ResOk P n w0 e sps rs r1 v1) (h2 : ResOk P n w0 e sps rs r2 v2) : ∀ a W, Env n e a → St w0 W sps rs → (results fn a.tmps).run P W = .ok (.tuple #[v1, v2]) W := fun a W he hs => by
  have q1 := h1 a W he hs
  have q2 := h2 a W he hs
  rw [results_eq, hr]; simp [q1, q2]
end
section
variable {P : Program} {ops : Array Oper} {Q : Exit → Act → World → Prop} {kds : List Nat} {nds : List Bool} {sc : List Sp} {rc : List Fa} {n : Fr} {w0 : World} {i : Nat} {l : List Nat} {e : Nat → Value} {sps : List Sp} {rs : List Fa}
  {ty : TypeId} {pos : String} {af : Array Edge} {g : Option (Nat × Bool)} {x : Operand}
theorem c_defer {f : FuncId} {caps : Array Value} (ho : ops[i]? = some ⟨none, .defer ⟨.value x, #[], #[]⟩, ty, pos, af, g⟩) (hw : guardOf ops g e = true) (hk : loudK kds i = true) (hx : ev e x = .func (.func f) #[] caps) (hnd : nds.getD i false = false)
    (h : Can P ops Q kds nds sc rc ⟨n.n, ⟨.fn (.func f) caps, #[]⟩ :: n.ds⟩ w0 l e sps rs) : Can P ops Q kds nds sc rc n w0 (i :: l) e sps rs := by
  intro a W he hs
  refine ⟨_, ho, ?_⟩
  have hk2 : kds.getD i 2 = 2 := Nat.eq_of_beq_eq_true hk
  rw [if_pos hk2]
  have hwd : Region.wanted ⟨none, .defer ⟨.value x, #[], #[]⟩, ty, pos, af, g⟩ (yielded ops a.tmps) = true := (wanted_of he ops _).trans hw
  have hrun : (execOp (ev e) ⟨none, .defer ⟨.value x, #[], #[]⟩, ty, pos, af, g⟩).run P W = .ok (.defer ⟨.fn (.func f) caps, #[]⟩) W := by
    simp [execOp, resolve, Deferred.ofValue, hx]
  simp only [wpOp, ho, hwd, if_true, Oper.wp, he.eval, hrun, Oper.upon]
  exact .inl ⟨fun hn => (by rw [hnd] at hn; cases hn), h { a with defers := ⟨.fn (.func f) caps, #[]⟩ :: a.defers } W ⟨by rw [he.defers], he.size, he.at_⟩ hs⟩
end
end Go.Proofs.YtmodmjekhlnjpaaGreatDoor
namespace Go.Proofs.YtmodmjekhlnjpaaGreatDoor
open Go.RowKit
theorem caught_quiet (p q : Value) : Quiet Tryz.prog 89 #[p, q] := by
  intro w
  refine (?_ : CallsD _ _ _ _ _ fun e u' w' => e = .returned (.tuple #[]) ∧ u' = .returning ∧ w' = w).mono ?_
  · refine callsD_of_wpS Tryz.func89 rfl fun c₀ cs hu => ?_
    apply wpS_seq
    apply wpS_region
    simp [wpOpsS, go_sem, recoverD, hu, Tryz.ntmps89, Exit.thenS]
    apply wpS_seq
    apply wpS_region
    simp [wpOpsS, go_sem, recoverD, hu, Tryz.ntmps89, Exit.thenS]
    refine wpS_cond (t := false) (by simp [Act.eval, Array.replicate]) ?_
    simp only [Bool.false_eq_true, if_false]
    refine wpS_of_wp (wp_skip ?_)
    cases c₀
    simp_all [bodyPostS, results, Tryz.results89]
  · rintro e u' w' ⟨rfl, rfl, rfl⟩
    exact ⟨⟨_, rfl⟩, rfl, rfl⟩
end Go.Proofs.YtmodmjekhlnjpaaGreatDoor
namespace Go.Proofs.YtmodmjekhlnjpaaGreatDoor
open Go.RowKit
/-- A value that is built right. -/
inductive Nd where
  | num (n : Nat)
  | byt (b : List Nat)
  | lst (l : List Nd)
namespace Nd
def kind : Nd → Nat | num _ => 1 | byt _ => 2 | lst _ => 3
def nm : Nd → Nat | num n => n | _ => 0
def bs : Nd → List Nat | byt b => b | _ => []
def ls : Nd → List Nd | lst l => l | _ => []
end Nd
/-- A value in four cells, the values in it by another rep. -/
def mkR (dr : Rep Nd) : Rep Nd where
  sz := 4
  K := fun h x cs => ∃ a b, cs = [.int .i64 (x.kind : Int), .int .u64 (x.nm : Int), a, b] ∧ x.nm < 2 ^ 64 ∧ SV b8 h a x.bs ∧ SV dr h b x.ls
  len := by rintro h x cs ⟨a, b, rfl, _⟩; rfl
  one := by
    rintro h x cs ⟨a, b, rfl, _, ⟨A, c, rfl, _⟩, ⟨B, c', rfl, _⟩⟩ u hu
    simp only [List.mem_cons, List.not_mem_nil, or_false] at hu
    rcases hu with rfl | rfl | rfl | rfl <;> rfl
  mono := by rintro h h' x cs hh ⟨a, b, e, h1, h2, h3⟩; exact ⟨a, b, e, h1, h2.mono hh, h3.mono hh⟩
def rep0 : Rep Nd where
  sz := 4
  K := fun _ _ _ => False
  len := fun h => h.elim
  one := fun h => h.elim
  mono := fun _ h => h
def ndR : Nat → Rep Nd
  | 0 => mkR rep0
  | d + 1 => mkR (ndR d)
theorem ndR_sz (d : Nat) : (ndR d).sz = 4 := by cases d <;> rfl
section
variable {w0 : World} {sps : List Sp} {rs : List Fa} {dr : Rep Nd} {x : Nd} {cs : List Value}
/-- A value's cells. -/
theorem en_nd (hm : Kf (mkR dr) x cs ∈ rs) : En w0 sps rs fun s r => ∃ A a B b, cs = [.int .i64 (x.kind : Int), .int .u64 (x.nm : Int), .slice A x.bs.length a, .slice B x.ls.length b] ∧ x.nm < 2 ^ 64 ∧ x.bs.length ≤ 9223372036854775807 ∧ x.ls.length ≤ 9223372036854775807 ∧ sps = s ∧ Rd b8 (.slice A x.bs.length a) x.bs :: Rd dr (.slice B x.ls.length b) x.ls :: rs = r := fun W hs => by
  obtain ⟨hb, o, h1, h2, h3, h4⟩ := hs
  obtain ⟨u, v, e, hn, hu, hv⟩ := h4 _ hm
  obtain ⟨A, a, rfl, hA⟩ := id hu
  obtain ⟨B, b, rfl, hB⟩ := id hv
  refine ⟨_, _, ⟨hb, o, h1, h2, h3, fun r hr => ?_⟩, A, a, B, b, e, hn, hA.2.2.1, hB.2.2.1, rfl, rfl⟩
  rcases List.mem_cons.1 hr with rfl | hr
  · exact hu
  · rcases List.mem_cons.1 hr with rfl | hr
    · exact hv
    · exact h4 r hr
theorem en_num {n : Nat} (hm : Kf (mkR dr) (.num n) cs ∈ rs) : En w0 sps rs fun s r => ∃ A a B b, cs = [.int .i64 1, .int .u64 (n : Int), .slice A 0 a, .slice B 0 b] ∧ n < 2 ^ 64 ∧ sps = s ∧ Rd b8 (.slice A 0 a) [] :: Rd dr (.slice B 0 b) [] :: rs = r := fun W hs => by
  obtain ⟨s, r, h, A, a, B, b, h1, h2, h3, h4, h5, h6⟩ := en_nd hm W hs
  exact ⟨s, r, h, A, a, B, b, h1, h2, h5, h6⟩
theorem en_byt {l : List Nat} (hm : Kf (mkR dr) (.byt l) cs ∈ rs) : En w0 sps rs fun s r => ∃ A a B b, cs = [.int .i64 2, .int .u64 0, .slice A l.length a, .slice B 0 b] ∧ l.length ≤ 9223372036854775807 ∧ sps = s ∧ Rd b8 (.slice A l.length a) l :: Rd dr (.slice B 0 b) [] :: rs = r := fun W hs => by
  obtain ⟨s, r, h, A, a, B, b, h1, h2, h3, h4, h5, h6⟩ := en_nd hm W hs
  exact ⟨s, r, h, A, a, B, b, h1, h3, h5, h6⟩
theorem en_lst {l : List Nd} (hm : Kf (mkR dr) (.lst l) cs ∈ rs) : En w0 sps rs fun s r => ∃ A a B b, cs = [.int .i64 3, .int .u64 0, .slice A 0 a, .slice B l.length b] ∧ l.length ≤ 9223372036854775807 ∧ sps = s ∧ Rd b8 (.slice A 0 a) [] :: Rd dr (.slice B l.length b) l :: rs = r := fun W hs => by
  obtain ⟨s, r, h, A, a, B, b, h1, h2, h3, h4, h5, h6⟩ := en_nd hm W hs
  exact ⟨s, r, h, A, a, B, b, h1, h4, h5, h6⟩
theorem mkR_of {hh : Hp} {a b : Value} (hn : x.nm < 2 ^ 64) (h1 : SV b8 hh a x.bs) (h2 : SV dr hh b x.ls) : (mkR dr).K hh x [.int .i64 (x.kind : Int), .int .u64 (x.nm : Int), a, b] := ⟨a, b, rfl, hn, h1, h2⟩
theorem fn_no {P : Program} {f : FuncId} {args : Array Value} {R : Value → List Sp → List Fa → Prop} (hm : Kf rep0 x cs ∈ rs) : FnOk P f args w0 sps rs R := fun _ hs => (hs.fact hm).elim
/-- Four cells. -/
theorem en_four (hsz : dr.sz = 4) (hm : Kf dr x cs ∈ rs) : En w0 sps rs fun s r => sps = s ∧ rs = r ∧ ∃ a b c d, cs = [a, b, c, d] ∧ a.oneCell' = true ∧ b.oneCell' = true ∧ c.oneCell' = true ∧ d.oneCell' = true := fun W hs => by
  have hk := hs.fact hm
  have hl := dr.len hk
  have ho := dr.one hk
  refine ⟨_, _, hs, rfl, rfl, ?_⟩
  rw [hsz] at hl
  match cs, hl with
  | [a, b, c, d], _ => exact ⟨a, b, c, d, rfl, ho _ (by simp), ho _ (by simp), ho _ (by simp), ho _ (by simp)⟩
theorem all_four {a b c d : Value} (h1 : a.oneCell' = true) (h2 : b.oneCell' = true) (h3 : c.oneCell' = true) (h4 : d.oneCell' = true) : ([a, b, c, d].all fun u => u.oneCell') = true := by simp [h1, h2, h3, h4]
end
def leN (n : Nat) : List Nat := if h : n = 0 then [] else n % 256 :: leN (n / 256)
termination_by n
decreasing_by omega
theorem leN_zero : leN 0 = [] := by rw [leN]; rfl
theorem leN_pos {n : Nat} (h : 0 < n) : leN n = n % 256 :: leN (n / 256) := by rw [leN, dif_neg (by omega)]
theorem leN_len : ∀ (k n : Nat), n < 256 ^ k → (leN n).length ≤ k
  | 0, n, h => by
    have : n = 0 := by simpa using h
    rw [this, leN_zero]; simp
  | k + 1, n, h => by
    rcases Nat.eq_zero_or_pos n with rfl | h0
    · rw [leN_zero]; simp
    · rw [leN_pos h0, List.length_cons]
      have := leN_len k (n / 256) (by rw [Nat.div_lt_iff_lt_mul (by decide)]; rw [Nat.pow_succ] at h; exact h)
      omega
def cntB (n : Nat) : List Nat := if n < 192 then [n] else (191 + (leN n).length) :: (leN n).reverse
theorem cntB_lo {n : Nat} (h : n < 192) : cntB n = [n] := if_pos h
theorem cntB_hi {n : Nat} (h : ¬ n < 192) : cntB n = (leN n ++ [191 + (leN n).length]).reverse := by rw [cntB, if_neg h]; simp
theorem cntB_len (n : Nat) (h : n < 2 ^ 64) : (cntB n).length ≤ 9 := by
  have := leN_len 8 n (by rw [show (256 : Nat) ^ 8 = 2 ^ 64 by decide]; exact h)
  rw [cntB]; split
  · simp
  · simp; omega
mutual
def encN : Nd → List Nat
  | .num n => 1 :: cntB n
  | .byt b => 2 :: (cntB b.length ++ b)
  | .lst l => 3 :: (cntB l.length ++ encL l)
def encL : List Nd → List Nat
  | [] => []
  | x :: l => encN x ++ encL l
end
mutual
def cntNd : Nd → Nat
  | .num _ => 1
  | .byt _ => 1
  | .lst l => 1 + cntL l
def cntL : List Nd → Nat
  | [] => 0
  | x :: l => cntNd x + cntL l
end
theorem encL_append (l m : List Nd) : encL (l ++ m) = encL l ++ encL m := by
  induction l with
  | nil => rfl
  | cons x l ih => simp only [List.cons_append, encL, ih, List.append_assoc]
theorem encL_take (l : List Nd) (t : Nat) (h : t < l.length) : encL (l.take (t + 1)) = encL (l.take t) ++ encN l[t] := by
  rw [List.take_succ_eq_append_getElem h, encL_append]
  simp [encL]
theorem cntL_append (l m : List Nd) : cntL (l ++ m) = cntL l + cntL m := by
  induction l with
  | nil => simp [cntL]
  | cons x l ih => simp only [List.cons_append, cntL, ih, Nat.add_assoc]
theorem cntL_take (l : List Nd) (t : Nat) (h : t < l.length) : cntL (l.take (t + 1)) = cntL (l.take t) + cntNd l[t] := by
  rw [List.take_succ_eq_append_getElem h, cntL_append]
  simp [cntL]
theorem cntL_le (l : List Nd) (t : Nat) : cntL (l.take t) ≤ cntL l := by
  conv => rhs; rw [← List.take_append_drop t l, cntL_append]
  omega
theorem encL_le (l : List Nd) (t : Nat) : (encL (l.take t)).length ≤ (encL l).length := by
  conv => rhs; rw [← List.take_append_drop t l, encL_append]
  simp
theorem encN_pos (x : Nd) : 1 ≤ (encN x).length := by cases x <;> simp [encN]
theorem encL_len (l : List Nd) : l.length ≤ (encL l).length := by
  induction l with
  | nil => simp
  | cons x l ih => have := encN_pos x; simp only [encL, List.length_cons, List.length_append]; omega
theorem encL_mem {l : List Nd} {y : Nd} (h : y ∈ l) : (encN y).length ≤ (encL l).length := by
  induction l with
  | nil => cases h
  | cons x l ih =>
    simp only [encL, List.length_append]
    rcases List.mem_cons.1 h with rfl | h
    · omega
    · have := ih h; omega
theorem enc_bs (x : Nd) : x.bs.length ≤ (encN x).length := by cases x <;> simp [encN, Nd.bs]; omega
theorem enc_ls (x : Nd) : x.ls.length ≤ (encN x).length := by
  cases x with
  | lst l => have := encL_len l; simp only [encN, Nd.ls, List.length_cons, List.length_append]; omega
  | _ => simp [Nd.ls]
theorem enc_el {x y : Nd} (h : y ∈ x.ls) : (encN y).length ≤ (encN x).length := by
  cases x with
  | lst l => have := encL_mem h; simp only [encN, Nd.ls, List.length_cons, List.length_append] at *; omega
  | _ => cases h
/-- A row that is turned round, half way. -/
structure Turned (xs ys : List Nat) (i : Nat) : Prop where
  len : ys.length = xs.length
  at_ : ∀ k, k < xs.length → ys.getD k 0 = if k < i ∨ xs.length - i ≤ k then xs.getD (xs.length - 1 - k) 0 else xs.getD k 0
theorem Turned.zero (xs : List Nat) : Turned xs xs 0 := ⟨rfl, fun k hk => by rw [if_neg (by omega)]⟩
theorem getD_set (l : List Nat) (i k x : Nat) (h : i < l.length) : (l.set i x).getD k 0 = if k = i then x else l.getD k 0 := by
  simp only [List.getD_eq_getElem?_getD, List.getElem?_set]
  by_cases hk : i = k
  · subst hk; simp [h]
  · rw [if_neg hk, if_neg (fun e => hk e.symm)]
theorem Turned.step {xs ys : List Nat} {i j : Nat} (h : Turned xs ys i) (hj : j = xs.length - 1 - i) (hij : i < j) : Turned xs ((ys.set i (ys.getD j 0)).set j (ys.getD i 0)) (i + 1) := by
  have hl := h.len
  refine ⟨by simp [hl], fun k hk => ?_⟩
  have e1 : ys.getD i 0 = xs.getD i 0 := by rw [h.at_ i (by omega), if_neg (by omega)]
  have e2 : ys.getD j 0 = xs.getD j 0 := by rw [h.at_ j (by omega), if_neg (by omega)]
  rw [getD_set _ _ _ _ (by simp; omega), getD_set _ _ _ _ (by omega), e1, e2, h.at_ k hk]
  by_cases h1 : k = j
  · subst h1
    rw [if_pos rfl, if_pos (by omega)]
    congr 1; omega
  · rw [if_neg h1]
    by_cases h2 : k = i
    · subst h2
      rw [if_pos rfl, if_pos (by omega), hj]
    · rw [if_neg h2]
      by_cases h3 : k < i ∨ xs.length - i ≤ k
      · rw [if_pos h3, if_pos (by omega)]
      · rw [if_neg h3, if_neg (by omega)]
theorem Turned.done {xs ys : List Nat} {i : Nat} (h : Turned xs ys i) (hi : xs.length ≤ 2 * i + 1) : ys = xs.reverse := by
  apply List.ext_getElem (by simp [h.len])
  intro k h1 h2
  have hk : k < xs.length := by rw [← h.len]; exact h1
  have := h.at_ k hk
  rw [List.getD_eq_getElem?_getD, List.getElem?_eq_getElem h1, Option.getD_some] at this
  rw [this, List.getElem_reverse]
  split
  · rw [List.getD_eq_getElem?_getD, List.getElem?_eq_getElem (by omega), Option.getD_some]
  · rw [List.getD_eq_getElem?_getD, List.getElem?_eq_getElem hk, Option.getD_some]
    congr 1; omega
end Go.Proofs.YtmodmjekhlnjpaaGreatDoor
namespace Go.Proofs.YtmodmjekhlnjpaaGreatDoor
open Go.RowKit
theorem reverse_ok (v : Value) (xs : List Nat) (w0 : World) (sps : List Sp) (rs : List Fa) (h0 : 0 < xs.length) :
    FnOk Tryz.prog 223 #[v] w0 (Row b8 5 v xs :: sps) rs fun r s q => r = .tuple #[] ∧ Row b8 5 v xs.reverse :: sps = s ∧ rs = q := by
  refine fn_en (en_rowBk (xs := xs) (by repeat (first | exact Rem.here | apply Rem.there)) h0) ?_
  rintro _ _ ⟨gg, tl, rfl, hlt, hml, rfl, rfl⟩
  have hml' : xs.length + tl.length ≤ 9223372036854775807 := hml
  refine fn_enter Tryz.func223 rfl Tryz.ntmps223 rfl ?_
  refine cs_seq ?_
  refine cs_seq_region [0, 1, 2, 3, 4] rfl ?_
  refine c_move rfl rfl rfl rfl (by conv => lhs; whnf) ?_
  refine c_len rfl rfl rfl rfl Tryz.underlying22 rfl ?_
  first | refine c_subI rfl rfl rfl rfl rfl rfl xW ?_ | refine c_sub rfl rfl rfl rfl rfl rfl ?_
  refine c_assign rfl rfl rfl rfl (by conv => lhs; whnf) ?_
  refine c_assign rfl rfl rfl rfl (by conv => lhs; whnf) ?_
  refine can_nil ?_
  refine ps_then ?_
  refine cs_block ?_
  refine cs_loopS [2, 3, 7, 8, 9, 10, 11, 12, 13, 14, 15, 16, 17, 18, 19, 20, 21, 22, 23, 24, 25, 26, 27] (fun m L s r => ∃ (i : Nat) (ys : List Nat), Turned xs ys i ∧ i ≤ xs.length ∧ m = xs.length - i ∧ L = [(2, .int .i64 (i : Int)), (3, .int .i64 ((xs.length : Int) - 1 - (i : Int)))] ∧ s = Bk gg (ne .u8 (ys) ++ tl) 5 :: sps ∧ rs = r) [(2, .int .i64 (0 : Nat)), (3, .int .i64 ((xs.length : Int) - 1 - (0 : Nat)))] (⟨rfl, congrArg (Value.int .i64) (by omega), trivial⟩) (⟨0, xs, Turned.zero xs, by omega, rfl, rfl, rfl, rfl⟩) ?_
  rintro k0 f0 _ _ _ ⟨i, ys, hT, hi, rfl, rfl, rfl, rfl⟩
  have hyl := hT.len
  refine cs_seq ?_
  refine cs_seq ?_
  refine cs_seq_region [0, 1, 2] rfl ?_
  refine c_move rfl rfl rfl rfl (by conv => lhs; whnf) ?_
  refine c_move rfl rfl rfl rfl (by conv => lhs; whnf) ?_
  refine c_lss rfl rfl rfl rfl rfl rfl ?_
  refine can_nil ?_
  refine ps_then ?_
  refine cs_cond rfl (fun hc1 => ?_) (fun hc1 => ?_)
  · simp at hc1
    refine cs_skip ?_
    refine ps_then ?_
    refine cs_seq ?_
    refine cs_block ?_
    refine cs_draw_region [0, 0, 0, 0, 0, 0, 0, 1, 0, 0, 0, 1, 0, 2, 0, 2] [false, false, false, false, false, false, false, false, false, false, false, false, false, false, false, false] [0, 1, 2, 3, 4, 5, 6, 7, 8, 9, 10, 11, 12, 13, 14, 15] (by kernel_rfl) (by kernel_rfl) (by kernel_rfl) (by kernel_rfl) xQ ?_
    refine c_move rfl rfl rfl rfl (by conv => lhs; whnf) ?_
    refine c_move rfl rfl rfl rfl (by conv => lhs; whnf) ?_
    refine c_move rfl rfl rfl rfl (by conv => lhs; whnf) ?_
    refine c_move rfl rfl rfl rfl (by conv => lhs; whnf) ?_
    refine c_move rfl rfl rfl rfl (by conv => lhs; whnf) ?_
    refine c_move rfl rfl rfl rfl (by conv => lhs; whnf) ?_
    refine c_indexAddrS1 rfl rfl rfl rfl Tryz.underlying22 Tryz.sizeOf5 rfl rfl xD ?_
    refine c_load1 rfl rfl rfl Tryz.isAgg5 rfl (ldD rfl rfl xE xM (sub1 (ne_app_get (i := xs.length - 1 - i) (by omega) (by omega)))) ?_
    refine c_move rfl rfl rfl rfl (by conv => lhs; whnf) ?_
    refine c_move rfl rfl rfl rfl (by conv => lhs; whnf) ?_
    refine c_indexAddrS1 rfl rfl rfl rfl Tryz.underlying22 Tryz.sizeOf5 rfl rfl xD ?_
    refine c_load1 rfl rfl rfl Tryz.isAgg5 rfl (ldD rfl rfl xE xM (sub1 (ne_app_get (i := i) (by omega) (by omega)))) ?_
    refine can_forget rfl ?_
    refine c_indexAddrS1 rfl rfl rfl rfl Tryz.underlying22 Tryz.sizeOf5 rfl rfl xD ?_
    refine c_store1 rfl rfl rfl Tryz.sizeOf5 rfl rfl xF rfl (by simp [ne_length]; omega) (ne_app_set (i := i) (by omega) (by omega)) (by (try simp only [List.cons_append, List.nil_append]); exact rfl) (Or.inl rfl) ?_
    refine c_indexAddrS1 rfl rfl rfl rfl Tryz.underlying22 Tryz.sizeOf5 rfl rfl xD ?_
    refine c_store1 rfl rfl rfl Tryz.sizeOf5 rfl rfl xF rfl (by simp [ne_length]; omega) (ne_app_set (i := xs.length - 1 - i) (by omega) (by simp; omega)) (by (try simp only [List.cons_append, List.nil_append]); exact rfl) (Or.inl rfl) ?_
    refine can_nil ?_
    refine ps_block_normal ?_
    refine ps_then ?_
    refine cs_seq_region [0, 1, 2, 3, 4, 5] rfl ?_
    refine c_move rfl rfl rfl rfl (by conv => lhs; whnf) ?_
    first | refine c_addI rfl rfl rfl rfl rfl rfl xW ?_ | refine c_add rfl rfl rfl rfl rfl rfl ?_
    refine c_move rfl rfl rfl rfl (by conv => lhs; whnf) ?_
    first | refine c_subI rfl rfl rfl rfl rfl rfl xW ?_ | refine c_sub rfl rfl rfl rfl rfl rfl ?_
    refine c_assign rfl rfl rfl rfl (by conv => lhs; whnf) ?_
    refine c_assign rfl rfl rfl rfl (by conv => lhs; whnf) ?_
    refine can_nil ?_
    refine ps_roundS [(2, .int .i64 ((i + 1 : Nat) : Int)), (3, .int .i64 ((xs.length : Int) - 1 - ((i + 1 : Nat) : Int)))] ⟨rfl, congrArg (Value.int .i64) (by omega), trivial⟩ (by repeat (first | exact Mix.base | refine Mix.upd rfl ?_ | refine Mix.upds rfl ?_ | refine Mix.mix rfl ?_ | exact Mix.refl)) (xs.length - (i + 1)) (by omega) (⟨i + 1, _, hT.step rfl (by omega), by omega, rfl, rfl, rfl, rfl⟩) (.mk xS xS)
  · simp at hc1
    obtain rfl := hT.done (by omega)
    refine cs_exit ?_
    refine ps_then_exit ?_
    refine ps_then_exit ?_
    refine ps_block_here ?_
    refine ps_en (en_bkRow (xs := xs.reverse) (by repeat (first | exact Rem.here | apply Rem.there)) (fun x hx => hlt x (List.mem_reverse.1 hx)) (by simpa using hml)) ?_
    rintro _ _ ⟨rfl, rfl⟩
    rw [List.length_reverse]
    apply ps_end0 rfl Tryz.results223
    · exact ⟨rfl, rfl, rfl⟩
    · exact (.mk xS xS)

theorem count8_ok (n : Nat) (w0 : World) (sps : List Sp) (rs : List Fa) (hn : n < 2 ^ 64) :
    FnOk Tryz.prog 161 #[.int .u64 (n : Int)] w0 sps rs fun r s q => ∃ v, r = v ∧ Row b8 5 v (cntB n) :: sps = s ∧ rs = q := by
  have hll := leN_len 8 n (by rw [show (256 : Nat) ^ 8 = 2 ^ 64 by decide]; exact hn)
  refine fn_enter Tryz.func161 rfl Tryz.ntmps161 rfl ?_
  refine cs_seq ?_
  refine cs_seq_region [0] rfl ?_
  refine c_assign rfl rfl rfl rfl (by conv => lhs; whnf) ?_
  refine can_nil ?_
  refine ps_then ?_
  refine cs_seq ?_
  refine cs_seq ?_
  refine cs_seq_region [0, 1] rfl ?_
  refine c_move rfl rfl rfl rfl (by conv => lhs; whnf) ?_
  refine c_lss rfl rfl rfl rfl rfl rfl ?_
  refine can_nil ?_
  refine ps_then ?_
  refine cs_cond rfl (fun hc1 => ?_) (fun hc1 => ?_)
  · simp at hc1
    refine cs_seq ?_
    refine cs_seq_region [0, 1, 2, 3] rfl ?_
    refine c_move rfl rfl rfl rfl (by conv => lhs; whnf) ?_
    refine n_conv rfl rfl rfl rfl Tryz.underlying97 Tryz.underlying5 rfl rfl ?_
    refine can_is 7 (.int .u8 (n : Int)) (congrArg (fun z : Nat => Value.int .u8 (z : Int)) (Nat.mod_eq_of_lt (show n < 2 ^ 8 by omega))) ?_
    refine c_lit (cs := [_]) rfl rfl rfl rfl Tryz.underlying22 Tryz.sizeOf5 Tryz.zeroValue5 rfl rfl rfl rfl rfl (fun _ => Or.inl rfl) (fun g8 => ?_)
    refine c_assign rfl rfl rfl rfl (by conv => lhs; whnf) ?_
    refine can_nil ?_
    refine ps_then ?_
    refine cs_ret ?_
    refine ps_then_ret ?_
    refine ps_en (en_asRow (dr := b8) (pre := []) (xs := [n]) (m := 1) (fun hh _ => b8_reps (by intro z hz; rw [List.mem_singleton.1 hz]; omega)) rfl (by decide)) ?_
    rintro _ _ ⟨rfl, rfl⟩
    rw [← cntB_lo (n := n) (by omega)]
    apply ps_end1 rfl Tryz.results161 (by conv => lhs; whnf)
    · exact ⟨_, rfl, rfl, rfl⟩
    · exact (.mk xS xS)
  · simp at hc1
    refine cs_skip ?_
    refine ps_then ?_
    refine cs_seq ?_
    refine cs_seq_region [0] rfl ?_
    refine c_assign rfl rfl rfl rfl (by conv => lhs; whnf) ?_
    refine can_nil ?_
    refine ps_then ?_
    refine cs_seq ?_
    refine cs_block ?_
    refine cs_en (en_nilRow b8 5) ?_
    rintro _ _ ⟨rfl, rfl⟩
    refine cs_loopS [0, 3, 9, 10, 11, 12, 13, 14, 15, 16, 17] (fun k L s r => ∃ (m : Nat) (v : Value) (out : List Nat), out ++ leN m = leN n ∧ m = k ∧ L = [(0, .int .u64 (m : Int)), (3, v)] ∧ s = Row b8 5 v out :: sps ∧ rs = r) [(0, .int .u64 (n : Int)), (3, .slice none 0 0)] (⟨rfl, rfl, trivial⟩) (⟨n, _, [], rfl, rfl, rfl, rfl, rfl⟩) ?_
    rintro k0 f0 _ _ _ ⟨m, v, out, hO, rfl, rfl, rfl, rfl⟩
    have hol : out.length + (leN m).length = (leN n).length := by rw [← hO, List.length_append]
    refine cs_seq ?_
    refine cs_seq ?_
    refine cs_seq_region [0, 1] rfl ?_
    refine c_move rfl rfl rfl rfl (by conv => lhs; whnf) ?_
    refine c_gtr rfl rfl rfl rfl rfl rfl ?_
    refine can_nil ?_
    refine ps_then ?_
    refine cs_cond rfl (fun hc2 => ?_) (fun hc2 => ?_)
    · simp at hc2
      refine cs_skip ?_
      refine ps_then ?_
      refine cs_seq ?_
      refine cs_block ?_
      refine cs_seq_region [0, 1, 2, 3, 4, 5] rfl ?_
      refine c_move rfl rfl rfl rfl (by conv => lhs; whnf) ?_
      refine c_move rfl rfl rfl rfl (by conv => lhs; whnf) ?_
      refine n_conv rfl rfl rfl rfl Tryz.underlying97 Tryz.underlying5 rfl rfl ?_
      refine c_lit (cs := [_]) rfl rfl rfl rfl Tryz.underlying22 Tryz.sizeOf5 Tryz.zeroValue5 rfl rfl rfl rfl rfl (fun _ => Or.inl rfl) (fun g16 => ?_)
      refine c_append1 (dr := b8) (ys := [m % 2 ^ 8]) rfl rfl rfl rfl sty_b8 rfl rfl (by repeat (first | exact Rem.here | apply Rem.there)) xF rfl (fun hh _ => b8_reps (by intro z hz; rw [List.mem_singleton.1 hz]; exact Nat.mod_lt _ (by decide))) (by omega) (fun _ => Or.inl rfl) (fun AX => ?_)
      refine c_assign rfl rfl rfl rfl (by conv => lhs; whnf) ?_
      refine can_nil ?_
      refine ps_block_normal ?_
      refine ps_then ?_
      refine cs_seq_region [0, 1, 2] rfl ?_
      refine c_move rfl rfl rfl rfl (by conv => lhs; whnf) ?_
      refine n_shr (b := 8) rfl rfl rfl rfl rfl rfl rfl (by decide) ?_
      refine c_assign rfl rfl rfl rfl (by conv => lhs; whnf) ?_
      refine can_nil ?_
      refine ps_roundS [(0, .int .u64 ((m / 2 ^ 8 : Nat) : Int)), (3, AX)] ⟨rfl, rfl, trivial⟩ (by repeat (first | exact Mix.base | refine Mix.upd rfl ?_ | refine Mix.upds rfl ?_ | refine Mix.mix rfl ?_ | exact Mix.refl)) (m / 2 ^ 8) (by omega) (⟨m / 2 ^ 8, AX, out ++ [m % 2 ^ 8], by rw [List.append_assoc, ← hO]; congr 1; exact (leN_pos (by omega)).symm, rfl, rfl, rfl, rfl⟩) (.mk xS xS)
    · simp at hc2
      subst hc2
      obtain rfl : out = leN n := by rw [← hO, leN_zero, List.append_nil]
      refine cs_exit ?_
      refine ps_then_exit ?_
      refine ps_then_exit ?_
      refine ps_block_here ?_
      refine ps_then ?_
      refine cs_seq ?_
      refine cs_en (en_rowShape (xs := leN n) xM) ?_
      rintro _ _ ⟨rfl, rfl, B9, c9, rfl, -, -, -⟩
      refine cs_seq_region [0, 1, 2, 3, 4, 5, 6, 7, 8] rfl ?_
      refine c_move rfl rfl rfl rfl (by conv => lhs; whnf) ?_
      refine c_move rfl rfl rfl rfl (by conv => lhs; whnf) ?_
      refine c_len rfl rfl rfl rfl Tryz.underlying22 rfl ?_
      first | refine c_addI rfl rfl rfl rfl rfl rfl xW ?_ | refine c_add rfl rfl rfl rfl rfl rfl ?_
      first | refine c_subI rfl rfl rfl rfl rfl rfl xW ?_ | refine c_sub rfl rfl rfl rfl rfl rfl ?_
      refine n_conv (p := 191 + (leN n).length) rfl rfl rfl rfl Tryz.underlying3 Tryz.underlying5 (congrArg (Value.int .i64) (by omega)) rfl ?_
      rw [show (191 + (leN n).length) % 2 ^ IntKind.bits .u8 = 191 + (leN n).length from Nat.mod_eq_of_lt (by show _ < 2 ^ 8; omega)]
      refine c_lit (cs := [_]) rfl rfl rfl rfl Tryz.underlying22 Tryz.sizeOf5 Tryz.zeroValue5 rfl rfl rfl rfl rfl (fun _ => Or.inl rfl) (fun g24 => ?_)
      refine c_append1 (dr := b8) (ys := [191 + (leN n).length]) rfl rfl rfl rfl sty_b8 rfl rfl (by repeat (first | exact Rem.here | apply Rem.there)) xF rfl (fun hh _ => b8_reps (by intro z hz; rw [List.mem_singleton.1 hz]; omega)) (by omega) (fun _ => Or.inl rfl) (fun AX => ?_)
      refine c_assign rfl rfl rfl rfl (by conv => lhs; whnf) ?_
      refine can_nil ?_
      refine ps_then ?_
      refine cs_seq ?_
      refine cs_seq_region [0, 1] rfl ?_
      refine c_move rfl rfl rfl rfl (by conv => lhs; whnf) ?_
      refine c_call rfl rfl rfl rfl Tryz.call223 (reverse_ok _ (leN n ++ [191 + (leN n).length]) w0 _ _ (by simp)) (by exact rfl) (fun _ _ _ _ => Or.inl rfl) ?_
      rintro _ _ _ ⟨rfl, rfl, rfl⟩
      refine can_nil ?_
      refine ps_then ?_
      refine cs_seq ?_
      refine cs_seq_region [0, 1] rfl ?_
      refine c_move rfl rfl rfl rfl (by conv => lhs; whnf) ?_
      refine c_assign rfl rfl rfl rfl (by conv => lhs; whnf) ?_
      refine can_nil ?_
      refine ps_then ?_
      refine cs_ret ?_
      rw [← cntB_hi (n := n) (by omega)]
      apply ps_end1 rfl Tryz.results161 (by conv => lhs; whnf)
      · exact ⟨_, rfl, rfl, rfl⟩
      · exact (.mk xS xS)

end Go.Proofs.YtmodmjekhlnjpaaGreatDoor
namespace Go.Proofs.YtmodmjekhlnjpaaGreatDoor
open Go.RowKit
theorem info_nd : (Tryz.prog.info? 99).map (fun i => (i.zero, i.size, i.bytes)) = some (some (.agg #[.int .i64 0, .int .u64 0, .slice none 0 0, .slice none 0 0]), 4, 64) := by kernel_rfl
theorem sty_nd : STy Tryz.prog 96 99 4 64 := STy.mk Tryz.underlying96 info_nd rfl (by decide) (by decide)
theorem bytes_ok (dr : Rep Nd) (v : Value) (xs : List Nat) (w0 : World) (sps : List Sp) (rs : List Fa) (hv : Rd b8 v xs ∈ rs) (hl : xs.length ≤ 1000000) :
    FnOk Tryz.prog 38 #[v] w0 sps rs fun r s q => ∃ cs, r = .agg cs.toArray ∧ sps = s ∧ Kf (mkR dr) (.byt xs) cs :: rs = q := by
  refine fn_enter Tryz.func38 rfl Tryz.ntmps38 rfl ?_
  refine cs_seq ?_
  refine cs_seq_region [0] rfl ?_
  refine c_alloc rfl rfl rfl rfl Tryz.zeroValue99 rfl (fun _ => Or.inl rfl) (fun g2 => ?_)
  refine can_nil ?_
  refine ps_then ?_
  refine cs_seq ?_
  refine cs_seq_region [0, 1, 2, 3] rfl ?_
  refine c_move rfl rfl rfl rfl (by conv => lhs; whnf) ?_
  refine can_en (en_nilRow b8 5) ?_
  rintro _ _ ⟨rfl, rfl⟩
  refine c_append (dr := b8) (xs := []) (ys := xs) rfl rfl rfl rfl sty_b8 rfl rfl xF xM (by simp; omega) (fun _ => Or.inl rfl) (fun A4 => ?_)
  refine can_en (en_rowShape (xs := xs) xM) ?_
  rintro _ _ ⟨rfl, rfl, B4, c4, rfl, -, -, -⟩
  refine c_buildS (cs := [_, _, _, _]) rfl rfl rfl rfl Tryz.underlying99 Tryz.zeroValue99 (by intro w; simp [Tryz.sizeOf3, Tryz.sizeOf22, Tryz.sizeOf96, Tryz.sizeOf97]; rfl) rfl rfl ?_
  refine c_storeB rfl rfl rfl Tryz.sizeOf99 rfl rfl xF (by first | (simp [ne_length, wlist_length]; done) | rfl) (by first | (simp [ne_length, wlist_length]; done) | rfl) (by first | exact ne_one _ _ | rfl | simp [Value.oneCell']) (by (try simp only [List.cons_append, List.nil_append]); exact rfl) (Or.inl rfl) ?_
  refine can_nil ?_
  refine ps_then ?_
  refine cs_ret ?_
  refine ps_en (en_give (xs := xs) (by repeat (first | exact Rem.here | apply Rem.there))) ?_
  rintro _ _ ⟨rfl, rfl⟩
  refine ps_en (en_fact (r := Kf (mkR dr) (.byt xs) [_, _, .slice B4 xs.length c4, _]) (fun hh hr => mkR_of (x := .byt xs) (show (0 : Nat) < 2 ^ 64 by decide) (hr (Rd b8 (.slice B4 xs.length c4) xs) xM) (SV.nil _ _))) ?_
  rintro _ _ ⟨rfl, rfl⟩
  refine ps_en (en_keep (Kf (mkR dr) (.byt xs) _ :: rs) (by (repeat (refine List.forall_mem_cons.2 ⟨by repeat (first | exact .head _ | assumption | apply List.Mem.tail), ?_⟩)); intro r hr; repeat (first | assumption | apply List.Mem.tail))) ?_
  rintro _ _ ⟨rfl, rfl⟩
  apply ps_res1 rfl Tryz.results38 (res_cellN Tryz.isAgg99 Tryz.sizeOf99 rfl xM (by first | (simp [ne_length, wlist_length]; done) | rfl))
  · exact ⟨_, rfl, rfl, rfl⟩
  · exact (.mk xS xS)

theorem own_step (dr : Rep Nd) (hsz : dr.sz = 4) (w0 : World) (ih : ∀ (y : Nd) (cs : List Value) (sps : List Sp) (rs : List Fa), (encN y).length ≤ 1000000 → Kf dr y cs ∈ rs → FnOk Tryz.prog 92 #[.agg cs.toArray] w0 sps rs fun r s q => ∃ cs', r = .agg cs'.toArray ∧ sps = s ∧ Kf dr y cs' :: rs = q)
    (x : Nd) (cs : List Value) (sps : List Sp) (rs : List Fa) (hl : (encN x).length ≤ 1000000) (hm : Kf (mkR dr) x cs ∈ rs) : FnOk Tryz.prog 92 #[.agg cs.toArray] w0 sps rs fun r s q => ∃ cs', r = .agg cs'.toArray ∧ sps = s ∧ Kf (mkR dr) x cs' :: rs = q := by
  have hbs := enc_bs x
  have hls := enc_ls x
  refine fn_en (en_nd hm) ?_
  rintro _ _ ⟨A, a, B, b, rfl, hnm, -, -, rfl, rfl⟩
  refine fn_enter Tryz.func92 rfl Tryz.ntmps92 rfl ?_
  refine cs_seq ?_
  refine cs_seq_region [0, 1] rfl ?_
  refine c_box rfl rfl rfl rfl rfl (fun _ => Or.inl rfl) (fun g1 => ?_)
  refine c_alloc rfl rfl rfl rfl Tryz.zeroValue99 rfl (fun _ => Or.inl rfl) (fun g2 => ?_)
  refine can_nil ?_
  refine ps_then ?_
  refine cs_seq ?_
  refine cs_seq_region [0, 1, 2, 3, 4] rfl ?_
  refine c_fieldAddr rfl rfl rfl rfl Tryz.underlying99 rfl Tryz.sizeOf22 rfl rfl ?_
  first | refine c_load1 rfl rfl rfl Tryz.isAgg22 rfl (ldS rfl rfl xM (sub1 (by exact rfl))) ?_ | refine c_load1 rfl rfl rfl Tryz.isAgg22 rfl (ldSC (k := 0) rfl rfl xM (sub1 (by exact rfl))) ?_ | refine c_load1 rfl rfl rfl Tryz.isAgg22 rfl (ldSC rfl rfl xM (sub1 (by exact rfl))) ?_
  refine can_en (en_nilRow b8 5) ?_
  rintro _ _ ⟨rfl, rfl⟩
  refine c_append (dr := b8) (xs := []) (ys := x.bs) rfl rfl rfl rfl sty_b8 rfl rfl xF xM (by simp; omega) (fun _ => Or.inl rfl) (fun A8 => ?_)
  refine can_en (en_rowShape (xs := x.bs) xM) ?_
  rintro _ _ ⟨rfl, rfl, B8, c8, rfl, -, -, -⟩
  refine can_en (en_give (xs := x.bs) (by repeat (first | exact Rem.here | apply Rem.there))) ?_
  rintro _ _ ⟨rfl, rfl⟩
  refine c_fieldAddr rfl rfl rfl rfl Tryz.underlying99 rfl Tryz.sizeOf22 rfl rfl ?_
  refine c_store1 (bs' := [.int .i64 (x.kind : Int), .int .u64 (x.nm : Int), (.slice B8 x.bs.length c8), _]) rfl rfl rfl Tryz.sizeOf22 rfl rfl xF rfl (Nat.le_of_ble_eq_true rfl) rfl (by (try simp only [List.cons_append, List.nil_append]); exact rfl) (Or.inl rfl) ?_
  refine can_nil ?_
  refine ps_then ?_
  refine cs_seq ?_
  refine cs_seq_region [0, 1, 2] rfl ?_
  refine c_fieldAddr rfl rfl rfl rfl Tryz.underlying99 rfl Tryz.sizeOf96 rfl rfl ?_
  first | refine c_load1 rfl rfl rfl Tryz.isAgg96 rfl (ldS rfl rfl xM (sub1 (by exact rfl))) ?_ | refine c_load1 rfl rfl rfl Tryz.isAgg96 rfl (ldSC (k := 0) rfl rfl xM (sub1 (by exact rfl))) ?_ | refine c_load1 rfl rfl rfl Tryz.isAgg96 rfl (ldSC rfl rfl xM (sub1 (by exact rfl))) ?_
  refine c_assign rfl rfl rfl rfl (by conv => lhs; whnf) ?_
  refine can_nil ?_
  refine ps_then ?_
  refine cs_seq ?_
  refine cs_seq_region [0, 1] rfl ?_
  refine c_fieldAddr rfl rfl rfl rfl Tryz.underlying99 rfl Tryz.sizeOf96 rfl rfl ?_
  refine c_store1 (bs' := [.int .i64 (x.kind : Int), .int .u64 (x.nm : Int), (.slice B8 x.bs.length c8), (.slice none 0 0)]) rfl rfl rfl Tryz.sizeOf96 rfl rfl xF rfl (Nat.le_of_ble_eq_true rfl) rfl (by (try simp only [List.cons_append, List.nil_append]); exact rfl) (Or.inl rfl) ?_
  refine can_nil ?_
  refine ps_then ?_
  refine cs_seq ?_
  refine cs_seq ?_
  refine cs_seq_region [0, 1, 2] rfl ?_
  refine c_move rfl rfl rfl rfl (by conv => lhs; whnf) ?_
  refine c_len rfl rfl rfl rfl Tryz.underlying96 rfl ?_
  refine c_move rfl rfl rfl rfl (by conv => lhs; whnf) ?_
  refine can_nil ?_
  refine ps_then ?_
  refine cs_block ?_
  refine cs_en (en_nilRow dr 99) ?_
  rintro _ _ ⟨rfl, rfl⟩
  refine cs_en (en_arr (sps' := Bk g1 [.int .i64 (x.kind : Int), .int .u64 (x.nm : Int), (.slice B8 x.bs.length c8), (.slice none 0 0)] 99 :: Row dr 99 (.slice none 0 0) ([]) :: Bk g2 [.int .i64 0, .int .u64 0, .slice none 0 0, .slice none 0 0] 99 :: sps) (by repeat (first | exact Arr.refl | (refine Arr.cons (by repeat (first | exact Rem.here | apply Rem.there)) ?_) | refine Arr.sub (by repeat (first | exact List.Sublist.refl _ | apply List.Sublist.cons_cons | apply List.Sublist.cons))))) ?_
  rintro _ _ ⟨rfl, rfl⟩
  refine cs_loopS [5, 15, 16, 17, 18, 19, 20, 21, 22, 23, 24, 25, 26] (fun m L s r => ∃ (t : Nat) (w : Value), t ≤ x.ls.length ∧ m = x.ls.length - t ∧ L = [(15, .int .i64 (t : Int))] ∧ s = Bk g1 [.int .i64 (x.kind : Int), .int .u64 (x.nm : Int), (.slice B8 x.bs.length c8), w] 99 :: Row dr 99 w (x.ls.take t) :: Bk g2 [.int .i64 0, .int .u64 0, .slice none 0 0, .slice none 0 0] 99 :: sps ∧ r = Rd b8 (.slice B8 x.bs.length c8) x.bs :: Rd b8 (.slice A x.bs.length a) x.bs :: Rd dr (.slice B x.ls.length b) x.ls :: rs) [(15, .int .i64 (0 : Nat))] (⟨rfl, trivial⟩) (⟨0, _, by omega, rfl, rfl, rfl, rfl⟩) ?_
  rintro k0 f0 _ _ _ ⟨t, w, ht, rfl, rfl, rfl, rfl⟩
  refine cs_en (en_rowShape (xs := x.ls.take t) xM) ?_
  rintro _ _ ⟨rfl, rfl, Bw, cw, rfl, -, -, -⟩
  refine cs_seq ?_
  refine cs_seq_region [0] rfl ?_
  refine c_lss rfl rfl rfl rfl rfl rfl ?_
  refine can_nil ?_
  refine ps_then ?_
  refine cs_seq ?_
  refine cs_cond rfl (fun hc1 => ?_) (fun hc1 => ?_)
  · simp at hc1
    refine cs_skip ?_
    refine ps_then ?_
    refine cs_seq ?_
    refine cs_block ?_
    refine cs_seq ?_
    refine cs_en (en_open (dr := dr) (xs := x.ls) t (by omega) xM) ?_
    rintro _ _ ⟨gg, off, cq, cs1, heq, hcl, rfl, rfl⟩
    injection heq with e1 e2 e3
    subst e1
    refine cs_en (en_four hsz (x := x.ls[t]) (cs := cs1) xM) ?_
    rintro _ _ ⟨rfl, rfl, a1, b1, c1, d1, rfl, q1, q2, q3, q4⟩
    rw [hsz]
    refine cs_seq_region [0, 1, 2, 3] rfl ?_
    refine c_indexAddrS rfl rfl rfl rfl Tryz.underlying96 Tryz.sizeOf99 rfl rfl xD ?_
    first | refine c_loadN rfl rfl rfl Tryz.isAgg99 Tryz.sizeOf99 rfl (ldS rfl rfl xM subAll) (by first | (simp [ne_length, wlist_length]; done) | rfl) ?_ | refine c_loadN (cs := [_, _, _, _]) rfl rfl rfl Tryz.isAgg99 Tryz.sizeOf99 rfl (ldS rfl rfl xM (subN (m := 4) (by exact rfl))) rfl ?_ | refine c_loadN rfl rfl rfl Tryz.isAgg99 Tryz.sizeOf99 rfl (ldSC (k := 0) rfl rfl xM subAll) (by first | (simp [ne_length, wlist_length]; done) | rfl) ?_
    refine c_alloc rfl rfl rfl rfl Tryz.zeroValue99 rfl (fun _ => Or.inl rfl) (fun g5 => ?_)
    refine c_storeB (cs := [a1, b1, c1, d1]) rfl rfl rfl Tryz.sizeOf99 rfl rfl xF rfl rfl (all_four q1 q2 q3 q4) (by (try simp only [List.cons_append, List.nil_append]); exact rfl) (Or.inl rfl) ?_
    refine can_nil ?_
    refine ps_then ?_
    refine cs_draw_region_at ([Bk g5 [a1, b1, c1, d1] 99, Bk g1 [.int .i64 (x.kind : Int), .int .u64 (x.nm : Int), (.slice B8 x.bs.length c8), .slice Bw (x.ls.take t).length cw] 99]) [0, 1, 1, 2, 2, 2, 0, 2] [false, false, false, true, true, true, false, false] [0, 1, 2, 3, 4, 5, 6, 7] (by kernel_rfl) (by kernel_rfl) (by kernel_rfl) (by kernel_rfl) xQ ?_
    refine c_fieldAddr rfl rfl rfl rfl Tryz.underlying99 rfl Tryz.sizeOf96 rfl rfl ?_
    first | refine c_load1 rfl rfl rfl Tryz.isAgg96 rfl (ldD rfl rfl xE xM (sub1 (by exact rfl))) ?_ | refine c_load1 rfl rfl rfl Tryz.isAgg96 rfl (ldDC (k := 0) rfl rfl xE xM (sub1 (by exact rfl))) ?_ | refine c_load1 rfl rfl rfl Tryz.isAgg96 rfl (ldDC rfl rfl xE xM (sub1 (by exact rfl))) ?_
    first | refine c_loadN rfl rfl rfl Tryz.isAgg99 Tryz.sizeOf99 rfl (ldD rfl rfl xE xM subAll) (by first | (simp [ne_length, wlist_length]; done) | rfl) ?_ | refine c_loadN (cs := [_, _, _, _]) rfl rfl rfl Tryz.isAgg99 Tryz.sizeOf99 rfl (ldD rfl rfl xE xM (subN (m := 4) (by exact rfl))) rfl ?_ | refine c_loadN rfl rfl rfl Tryz.isAgg99 Tryz.sizeOf99 rfl (ldDC (k := 0) rfl rfl xE xM subAll) (by first | (simp [ne_length, wlist_length]; done) | rfl) ?_
    refine c_call rfl rfl rfl rfl Tryz.call92 (ih x.ls[t] [a1, b1, c1, d1] _ _ (Nat.le_trans (enc_el (x := x) (List.getElem_mem _)) hl) xM) (by exact rfl) (by rintro v s r ⟨cs2, rfl, rfl, rfl⟩; exact Or.inr xE) ?_
    rintro _ _ _ ⟨cs2, rfl, rfl, rfl⟩
    refine can_en (en_four hsz (x := x.ls[t]) (cs := cs2) xM) ?_
    rintro _ _ ⟨rfl, rfl, a2, b2, c2, d2, rfl, -, -, -, -⟩
    refine c_lit (cs := [_, _, _, _]) rfl rfl rfl rfl Tryz.underlying96 Tryz.sizeOf99 Tryz.zeroValue99 rfl rfl rfl rfl rfl (fun _ => Or.inr xE) (fun g23 => ?_)
    refine c_append1 (dr := dr) (ys := [x.ls[t]]) rfl rfl rfl rfl (by rw [hsz]; exact sty_nd) rfl rfl (by repeat (first | exact Rem.here | apply Rem.there)) xF rfl (fun hh hr => Reps.one1 (hr (Kf dr x.ls[t] [a2, b2, c2, d2]) xM)) (by simp; omega) (fun _ => Or.inr xE) (fun A24 => ?_)
    refine can_en (en_rowShape (xs := x.ls.take t ++ [x.ls[t]]) xM) ?_
    rintro _ _ ⟨rfl, rfl, B24, c24, rfl, -, -, -⟩
    refine can_forget rfl ?_
    refine c_fieldAddr rfl rfl rfl rfl Tryz.underlying99 rfl Tryz.sizeOf96 rfl rfl ?_
    refine c_store1 (bs' := [.int .i64 (x.kind : Int), .int .u64 (x.nm : Int), (.slice B8 x.bs.length c8), (.slice B24 (x.ls.take t ++ [x.ls[t]]).length c24)]) rfl rfl rfl Tryz.sizeOf96 rfl rfl xF rfl (Nat.le_of_ble_eq_true rfl) rfl (by (try simp only [List.cons_append, List.nil_append]); exact rfl) (Or.inl rfl) ?_
    refine can_nil ?_
    refine ps_block_normal ?_
    refine ps_then ?_
    refine cs_seq_region [0, 1] rfl ?_
    first | refine c_addI rfl rfl rfl rfl rfl rfl xW ?_ | refine c_add rfl rfl rfl rfl rfl rfl ?_
    refine c_move rfl rfl rfl rfl (by conv => lhs; whnf) ?_
    refine can_nil ?_
    refine ps_en (en_arr (sps' := Bk g1 [.int .i64 (x.kind : Int), .int .u64 (x.nm : Int), (.slice B8 x.bs.length c8), (.slice B24 (x.ls.take t ++ [x.ls[t]]).length c24)] 99 :: Row dr 99 (.slice B24 (x.ls.take t ++ [x.ls[t]]).length c24) (x.ls.take t ++ [x.ls[t]]) :: Bk g2 [.int .i64 0, .int .u64 0, .slice none 0 0, .slice none 0 0] 99 :: sps) (by repeat (first | exact Arr.refl | (refine Arr.cons (by repeat (first | exact Rem.here | apply Rem.there)) ?_) | refine Arr.sub (by repeat (first | exact List.Sublist.refl _ | apply List.Sublist.cons_cons | apply List.Sublist.cons))))) ?_
    rintro _ _ ⟨rfl, rfl⟩
    refine ps_en (en_keep (Rd b8 (.slice B8 x.bs.length c8) x.bs :: Rd b8 (.slice A x.bs.length a) x.bs :: Rd dr (.slice _ x.ls.length b) x.ls :: rs) (by (repeat (refine List.forall_mem_cons.2 ⟨by repeat (first | exact .head _ | assumption | apply List.Mem.tail), ?_⟩)); intro r hr; repeat (first | assumption | apply List.Mem.tail))) ?_
    rintro _ _ ⟨rfl, rfl⟩
    refine ps_roundS [(15, .int .i64 ((t + 1 : Nat) : Int))] ⟨rfl, trivial⟩ (by repeat (first | exact Mix.base | refine Mix.upd rfl ?_ | refine Mix.upds rfl ?_ | refine Mix.mix rfl ?_ | exact Mix.refl)) (x.ls.length - (t + 1)) (by omega) (⟨t + 1, _, by omega, rfl, rfl, by rw [List.take_succ_eq_append_getElem (show t < x.ls.length by omega)], rfl⟩) (.mk xS xS)
  · simp at hc1
    obtain rfl : t = x.ls.length := by omega
    rw [List.take_length]
    refine cs_exit ?_
    refine ps_then_exit ?_
    refine ps_then_exit ?_
    refine ps_block_here ?_
    refine ps_then ?_
    refine cs_seq ?_
    refine cs_seq_region [0, 1] rfl ?_
    first | refine c_loadN rfl rfl rfl Tryz.isAgg99 Tryz.sizeOf99 rfl (ldS rfl rfl xM subAll) (by first | (simp [ne_length, wlist_length]; done) | rfl) ?_ | refine c_loadN (cs := [_, _, _, _]) rfl rfl rfl Tryz.isAgg99 Tryz.sizeOf99 rfl (ldS rfl rfl xM (subN (m := 4) (by exact rfl))) rfl ?_ | refine c_loadN rfl rfl rfl Tryz.isAgg99 Tryz.sizeOf99 rfl (ldSC (k := 0) rfl rfl xM subAll) (by first | (simp [ne_length, wlist_length]; done) | rfl) ?_
    refine c_storeB rfl rfl rfl Tryz.sizeOf99 rfl rfl xF (by first | (simp [ne_length, wlist_length]; done) | rfl) (by first | (simp [ne_length, wlist_length]; done) | rfl) (by first | exact ne_one _ _ | rfl | simp [Value.oneCell']) (by (try simp only [List.cons_append, List.nil_append]); exact rfl) (Or.inl rfl) ?_
    refine can_nil ?_
    refine ps_then ?_
    refine cs_ret ?_
    refine ps_en (en_give (xs := x.ls) (by repeat (first | exact Rem.here | apply Rem.there))) ?_
    rintro _ _ ⟨rfl, rfl⟩
    refine ps_en (en_fact (r := Kf (mkR dr) x [.int .i64 (x.kind : Int), .int .u64 (x.nm : Int), (.slice B8 x.bs.length c8), .slice Bw x.ls.length cw]) (fun hh hr => mkR_of hnm (hr (Rd b8 (.slice B8 x.bs.length c8) x.bs) xM) (hr (Rd dr (.slice Bw x.ls.length cw) x.ls) xM))) ?_
    rintro _ _ ⟨rfl, rfl⟩
    refine ps_en (en_keep (Kf (mkR dr) x [.int .i64 (x.kind : Int), .int .u64 (x.nm : Int), (.slice B8 x.bs.length c8), .slice Bw x.ls.length cw] :: rs) (by (repeat (refine List.forall_mem_cons.2 ⟨by repeat (first | exact .head _ | assumption | apply List.Mem.tail), ?_⟩)); intro r hr; repeat (first | assumption | apply List.Mem.tail))) ?_
    rintro _ _ ⟨rfl, rfl⟩
    apply ps_res1 rfl Tryz.results92 (res_cellN Tryz.isAgg99 Tryz.sizeOf99 rfl xM (by first | (simp [ne_length, wlist_length]; done) | rfl))
    · exact ⟨_, rfl, rfl, rfl⟩
    · exact (.mk xS xS)

end Go.Proofs.YtmodmjekhlnjpaaGreatDoor
namespace Go.Proofs.YtmodmjekhlnjpaaGreatDoor
open Go.RowKit
theorem own_ok (w0 : World) : ∀ (d : Nat) (x : Nd) (cs : List Value) (sps : List Sp) (rs : List Fa), (encN x).length ≤ 1000000 → Kf (ndR d) x cs ∈ rs → FnOk Tryz.prog 92 #[.agg cs.toArray] w0 sps rs fun r s q => ∃ cs', r = .agg cs'.toArray ∧ sps = s ∧ Kf (ndR d) x cs' :: rs = q
  | 0, x, cs, sps, rs, hl, hm => own_step rep0 rfl w0 (fun _ _ _ _ _ h => fn_no h) x cs sps rs hl hm
  | d + 1, x, cs, sps, rs, hl, hm => own_step (ndR d) (ndR_sz d) w0 (own_ok w0 d) x cs sps rs hl hm
theorem list_ok (d : Nat) (v : Value) (xs : List Nd) (w0 : World) (sps : List Sp) (rs : List Fa) (hv : Rd (ndR d) v xs ∈ rs) (hl : (encN (.lst xs)).length ≤ 1000000) :
    FnOk Tryz.prog 40 #[v] w0 sps rs fun r s q => ∃ cs', r = .agg cs'.toArray ∧ sps = s ∧ Kf (ndR (d + 1)) (.lst xs) cs' :: rs = q := by
  refine fn_en (en_shape hv) ?_
  rintro _ _ ⟨rfl, rfl, A0, c0, rfl, hcA0, hAA0, hMA0⟩
  refine fn_enter Tryz.func40 rfl Tryz.ntmps40 rfl ?_
  refine cs_seq ?_
  refine cs_seq_region [0] rfl ?_
  refine c_alloc rfl rfl rfl rfl Tryz.zeroValue99 rfl (fun _ => Or.inl rfl) (fun g2 => ?_)
  refine can_nil ?_
  refine ps_then ?_
  refine cs_seq ?_
  refine cs_seq_region [0, 1, 2, 3] rfl ?_
  refine c_move rfl rfl rfl rfl (by conv => lhs; whnf) ?_
  refine c_buildS (cs := [_, _, _, _]) rfl rfl rfl rfl Tryz.underlying99 Tryz.zeroValue99 (by intro w; simp [Tryz.sizeOf3, Tryz.sizeOf22, Tryz.sizeOf96, Tryz.sizeOf97]; rfl) rfl rfl ?_
  refine can_en (en_fact (r := Kf (ndR (d + 1)) (.lst xs) [.int .i64 3, .int .u64 0, .slice none 0 0, .slice A0 xs.length c0]) (fun hh hr => mkR_of (x := .lst xs) (show (0 : Nat) < 2 ^ 64 by decide) (SV.nil _ _) (hr (Rd (ndR d) (.slice A0 xs.length c0) xs) xM))) ?_
  rintro _ _ ⟨rfl, rfl⟩
  refine c_call rfl rfl rfl rfl Tryz.call92 (own_ok w0 (d + 1) (.lst xs) [.int .i64 3, .int .u64 0, .slice none 0 0, .slice A0 xs.length c0] _ _ hl xM) (by exact rfl) (fun _ _ _ _ => Or.inl rfl) ?_
  rintro _ _ _ ⟨cs2, rfl, rfl, rfl⟩
  refine can_en (en_four (ndR_sz (d + 1)) (x := .lst xs) (cs := cs2) xM) ?_
  rintro _ _ ⟨rfl, rfl, a2, b2, c2, d2, rfl, q1, q2, q3, q4⟩
  refine c_storeB (cs := [a2, b2, c2, d2]) rfl rfl rfl Tryz.sizeOf99 rfl rfl xF rfl rfl (all_four q1 q2 q3 q4) (by (try simp only [List.cons_append, List.nil_append]); exact rfl) (Or.inl rfl) ?_
  refine can_nil ?_
  refine ps_then ?_
  refine cs_ret ?_
  refine ps_en (en_keep (Kf (ndR (d + 1)) (.lst xs) _ :: rs) (by (repeat (refine List.forall_mem_cons.2 ⟨by repeat (first | exact .head _ | assumption | apply List.Mem.tail), ?_⟩)); intro r hr; repeat (first | assumption | apply List.Mem.tail))) ?_
  rintro _ _ ⟨rfl, rfl⟩
  apply ps_res1 rfl Tryz.results40 (res_cellN Tryz.isAgg99 Tryz.sizeOf99 rfl xM (by first | (simp [ne_length, wlist_length]; done) | rfl))
  · exact ⟨_, rfl, rfl, rfl⟩
  · exact (.mk xS xS)

theorem right_num (dr : Rep Nd) (hsz : dr.sz = 4) (w0 : World)  (n : Nat) (cs : List Value) (sps : List Sp) (rs : List Fa) (hm : Kf (mkR dr) (.num n) cs ∈ rs) : FnOk Tryz.prog 88 #[.agg cs.toArray] w0 sps rs fun r s q => r = .bool true ∧ sps = s ∧ rs = q := by
  refine fn_en (en_num hm) ?_
  rintro _ _ ⟨A, a, B, b, rfl, hlen, rfl, rfl⟩
  refine fn_enter Tryz.func88 rfl Tryz.ntmps88 rfl ?_
  refine cs_seq ?_
  refine cs_seq_region [0, 1] rfl ?_
  refine c_box rfl rfl rfl rfl rfl (fun _ => Or.inl rfl) (fun g1 => ?_)
  refine c_assign rfl rfl rfl rfl (by conv => lhs; whnf) ?_
  refine can_nil ?_
  refine ps_then ?_
  refine cs_seq ?_
  refine cs_seq ?_
  refine cs_seq_region [0, 1] rfl ?_
  refine c_fieldAddr rfl rfl rfl rfl Tryz.underlying99 rfl Tryz.sizeOf3 rfl rfl ?_
  first | refine c_load1 rfl rfl rfl Tryz.isAgg3 rfl (ldS rfl rfl xM (sub1 (by exact rfl))) ?_ | refine c_load1 rfl rfl rfl Tryz.isAgg3 rfl (ldSC (k := 0) rfl rfl xM (sub1 (by exact rfl))) ?_ | refine c_load1 rfl rfl rfl Tryz.isAgg3 rfl (ldSC rfl rfl xM (sub1 (by exact rfl))) ?_
  refine can_nil ?_
  refine ps_then ?_
  refine cs_block ?_
  refine cs_seq ?_
  refine cs_seq_region [0, 1] rfl ?_
  refine c_eql rfl rfl rfl rfl rfl rfl ?_
  refine c_assign rfl rfl rfl rfl (by conv => lhs; whnf) ?_
  refine can_nil ?_
  refine ps_then ?_
  refine cs_cond rfl (fun _ => ?_) (fun hc1 => Bool.noConfusion (show false = true from hc1.symm.trans (rfl)))
  refine cs_seq ?_
  refine cs_seq_region [0, 1, 2, 3, 4, 5, 6, 7, 8, 9, 10] rfl ?_
  refine c_fieldAddr rfl rfl rfl rfl Tryz.underlying99 rfl Tryz.sizeOf22 rfl rfl ?_
  first | refine c_load1 rfl rfl rfl Tryz.isAgg22 rfl (ldS rfl rfl xM (sub1 (by exact rfl))) ?_ | refine c_load1 rfl rfl rfl Tryz.isAgg22 rfl (ldSC (k := 0) rfl rfl xM (sub1 (by exact rfl))) ?_ | refine c_load1 rfl rfl rfl Tryz.isAgg22 rfl (ldSC rfl rfl xM (sub1 (by exact rfl))) ?_
  refine c_len rfl rfl rfl rfl Tryz.underlying22 rfl ?_
  refine c_eql rfl rfl rfl rfl rfl rfl ?_
  refine c_move rfl rfl rfl rfl (by conv => lhs; whnf) ?_
  refine can_known 13 true rfl (rfl) ?_
  refine c_fieldAddr rfl rfl rfl rfl Tryz.underlying99 rfl Tryz.sizeOf96 rfl rfl ?_
  first | refine c_load1 rfl rfl rfl Tryz.isAgg96 rfl (ldS rfl rfl xM (sub1 (by exact rfl))) ?_ | refine c_load1 rfl rfl rfl Tryz.isAgg96 rfl (ldSC (k := 0) rfl rfl xM (sub1 (by exact rfl))) ?_ | refine c_load1 rfl rfl rfl Tryz.isAgg96 rfl (ldSC rfl rfl xM (sub1 (by exact rfl))) ?_
  refine c_len rfl rfl rfl rfl Tryz.underlying96 rfl ?_
  refine c_eql rfl rfl rfl rfl rfl rfl ?_
  refine c_pick rfl rfl rfl rfl rfl (by conv => lhs; whnf) ?_
  refine c_assign rfl rfl rfl rfl (by conv => lhs; whnf) ?_
  refine can_nil ?_
  refine ps_then ?_
  refine cs_ret ?_
  refine ps_block_ret ?_
  refine ps_then_ret ?_
  refine ps_en (en_keep (rs) (by (repeat (refine List.forall_mem_cons.2 ⟨by repeat (first | exact .head _ | assumption | apply List.Mem.tail), ?_⟩)); intro r hr; repeat (first | assumption | apply List.Mem.tail))) ?_
  rintro _ _ ⟨rfl, rfl⟩
  apply ps_end1 rfl Tryz.results88 (by conv => lhs; whnf)
  · exact ⟨rfl, rfl, rfl⟩
  · exact (.mk xS xS)

theorem right_byt (dr : Rep Nd) (hsz : dr.sz = 4) (w0 : World)  (l : List Nat) (cs : List Value) (sps : List Sp) (rs : List Fa) (hm : Kf (mkR dr) (.byt l) cs ∈ rs) : FnOk Tryz.prog 88 #[.agg cs.toArray] w0 sps rs fun r s q => r = .bool true ∧ sps = s ∧ rs = q := by
  refine fn_en (en_byt hm) ?_
  rintro _ _ ⟨A, a, B, b, rfl, hlen, rfl, rfl⟩
  refine fn_enter Tryz.func88 rfl Tryz.ntmps88 rfl ?_
  refine cs_seq ?_
  refine cs_seq_region [0, 1] rfl ?_
  refine c_box rfl rfl rfl rfl rfl (fun _ => Or.inl rfl) (fun g1 => ?_)
  refine c_assign rfl rfl rfl rfl (by conv => lhs; whnf) ?_
  refine can_nil ?_
  refine ps_then ?_
  refine cs_seq ?_
  refine cs_seq ?_
  refine cs_seq_region [0, 1] rfl ?_
  refine c_fieldAddr rfl rfl rfl rfl Tryz.underlying99 rfl Tryz.sizeOf3 rfl rfl ?_
  first | refine c_load1 rfl rfl rfl Tryz.isAgg3 rfl (ldS rfl rfl xM (sub1 (by exact rfl))) ?_ | refine c_load1 rfl rfl rfl Tryz.isAgg3 rfl (ldSC (k := 0) rfl rfl xM (sub1 (by exact rfl))) ?_ | refine c_load1 rfl rfl rfl Tryz.isAgg3 rfl (ldSC rfl rfl xM (sub1 (by exact rfl))) ?_
  refine can_nil ?_
  refine ps_then ?_
  refine cs_block ?_
  refine cs_seq ?_
  refine cs_seq_region [0, 1] rfl ?_
  refine c_eql rfl rfl rfl rfl rfl rfl ?_
  refine c_assign rfl rfl rfl rfl (by conv => lhs; whnf) ?_
  refine can_nil ?_
  refine ps_then ?_
  refine cs_cond rfl (fun hc1 => Bool.noConfusion (show true = false from hc1.symm.trans (rfl))) (fun _ => ?_)
  refine cs_seq ?_
  refine cs_seq_region [0, 1] rfl ?_
  refine c_eql rfl rfl rfl rfl rfl rfl ?_
  refine c_assign rfl rfl rfl rfl (by conv => lhs; whnf) ?_
  refine can_nil ?_
  refine ps_then ?_
  refine cs_cond rfl (fun _ => ?_) (fun hc2 => Bool.noConfusion (show false = true from hc2.symm.trans (rfl)))
  refine cs_seq ?_
  refine cs_seq_region [0, 1, 2, 3, 4, 5, 6, 7, 8, 9] rfl ?_
  refine c_fieldAddr rfl rfl rfl rfl Tryz.underlying99 rfl Tryz.sizeOf97 rfl rfl ?_
  first | refine c_load1 rfl rfl rfl Tryz.isAgg97 rfl (ldS rfl rfl xM (sub1 (by exact rfl))) ?_ | refine c_load1 rfl rfl rfl Tryz.isAgg97 rfl (ldSC (k := 0) rfl rfl xM (sub1 (by exact rfl))) ?_ | refine c_load1 rfl rfl rfl Tryz.isAgg97 rfl (ldSC rfl rfl xM (sub1 (by exact rfl))) ?_
  refine c_eql rfl rfl rfl rfl rfl rfl ?_
  refine c_move rfl rfl rfl rfl (by conv => lhs; whnf) ?_
  refine can_known 24 true rfl (rfl) ?_
  refine c_fieldAddr rfl rfl rfl rfl Tryz.underlying99 rfl Tryz.sizeOf96 rfl rfl ?_
  first | refine c_load1 rfl rfl rfl Tryz.isAgg96 rfl (ldS rfl rfl xM (sub1 (by exact rfl))) ?_ | refine c_load1 rfl rfl rfl Tryz.isAgg96 rfl (ldSC (k := 0) rfl rfl xM (sub1 (by exact rfl))) ?_ | refine c_load1 rfl rfl rfl Tryz.isAgg96 rfl (ldSC rfl rfl xM (sub1 (by exact rfl))) ?_
  refine c_len rfl rfl rfl rfl Tryz.underlying96 rfl ?_
  refine c_eql rfl rfl rfl rfl rfl rfl ?_
  refine c_pick rfl rfl rfl rfl rfl (by conv => lhs; whnf) ?_
  refine c_assign rfl rfl rfl rfl (by conv => lhs; whnf) ?_
  refine can_nil ?_
  refine ps_then ?_
  refine cs_ret ?_
  refine ps_block_ret ?_
  refine ps_then_ret ?_
  refine ps_en (en_keep (rs) (by (repeat (refine List.forall_mem_cons.2 ⟨by repeat (first | exact .head _ | assumption | apply List.Mem.tail), ?_⟩)); intro r hr; repeat (first | assumption | apply List.Mem.tail))) ?_
  rintro _ _ ⟨rfl, rfl⟩
  apply ps_end1 rfl Tryz.results88 (by conv => lhs; whnf)
  · exact ⟨rfl, rfl, rfl⟩
  · exact (.mk xS xS)

theorem right_lst (dr : Rep Nd) (hsz : dr.sz = 4) (w0 : World) (ih : ∀ (y : Nd) (cs : List Value) (sps : List Sp) (rs : List Fa), Kf dr y cs ∈ rs → FnOk Tryz.prog 88 #[.agg cs.toArray] w0 sps rs fun r s q => r = .bool true ∧ sps = s ∧ rs = q) (l : List Nd) (cs : List Value) (sps : List Sp) (rs : List Fa) (hm : Kf (mkR dr) (.lst l) cs ∈ rs) : FnOk Tryz.prog 88 #[.agg cs.toArray] w0 sps rs fun r s q => r = .bool true ∧ sps = s ∧ rs = q := by
  refine fn_en (en_lst hm) ?_
  rintro _ _ ⟨A, a, B, b, rfl, hlen, rfl, rfl⟩
  refine fn_enter Tryz.func88 rfl Tryz.ntmps88 rfl ?_
  refine cs_seq ?_
  refine cs_seq_region [0, 1] rfl ?_
  refine c_box rfl rfl rfl rfl rfl (fun _ => Or.inl rfl) (fun g1 => ?_)
  refine c_assign rfl rfl rfl rfl (by conv => lhs; whnf) ?_
  refine can_nil ?_
  refine ps_then ?_
  refine cs_seq ?_
  refine cs_seq ?_
  refine cs_seq_region [0, 1] rfl ?_
  refine c_fieldAddr rfl rfl rfl rfl Tryz.underlying99 rfl Tryz.sizeOf3 rfl rfl ?_
  first | refine c_load1 rfl rfl rfl Tryz.isAgg3 rfl (ldS rfl rfl xM (sub1 (by exact rfl))) ?_ | refine c_load1 rfl rfl rfl Tryz.isAgg3 rfl (ldSC (k := 0) rfl rfl xM (sub1 (by exact rfl))) ?_ | refine c_load1 rfl rfl rfl Tryz.isAgg3 rfl (ldSC rfl rfl xM (sub1 (by exact rfl))) ?_
  refine can_nil ?_
  refine ps_then ?_
  refine cs_block ?_
  refine cs_seq ?_
  refine cs_seq_region [0, 1] rfl ?_
  refine c_eql rfl rfl rfl rfl rfl rfl ?_
  refine c_assign rfl rfl rfl rfl (by conv => lhs; whnf) ?_
  refine can_nil ?_
  refine ps_then ?_
  refine cs_cond rfl (fun hc1 => Bool.noConfusion (show true = false from hc1.symm.trans (rfl))) (fun _ => ?_)
  refine cs_seq ?_
  refine cs_seq_region [0, 1] rfl ?_
  refine c_eql rfl rfl rfl rfl rfl rfl ?_
  refine c_assign rfl rfl rfl rfl (by conv => lhs; whnf) ?_
  refine can_nil ?_
  refine ps_then ?_
  refine cs_cond rfl (fun hc2 => Bool.noConfusion (show true = false from hc2.symm.trans (rfl))) (fun _ => ?_)
  refine cs_seq ?_
  refine cs_seq_region [0, 1] rfl ?_
  refine c_eql rfl rfl rfl rfl rfl rfl ?_
  refine c_assign rfl rfl rfl rfl (by conv => lhs; whnf) ?_
  refine can_nil ?_
  refine ps_then ?_
  refine cs_cond rfl (fun _ => ?_) (fun hc3 => Bool.noConfusion (show false = true from hc3.symm.trans (rfl)))
  refine cs_seq ?_
  refine cs_seq ?_
  refine cs_seq_region [0, 1, 2, 3] rfl ?_
  refine c_fieldAddr rfl rfl rfl rfl Tryz.underlying99 rfl Tryz.sizeOf96 rfl rfl ?_
  first | refine c_load1 rfl rfl rfl Tryz.isAgg96 rfl (ldS rfl rfl xM (sub1 (by exact rfl))) ?_ | refine c_load1 rfl rfl rfl Tryz.isAgg96 rfl (ldSC (k := 0) rfl rfl xM (sub1 (by exact rfl))) ?_ | refine c_load1 rfl rfl rfl Tryz.isAgg96 rfl (ldSC rfl rfl xM (sub1 (by exact rfl))) ?_
  refine c_len rfl rfl rfl rfl Tryz.underlying96 rfl ?_
  refine c_move rfl rfl rfl rfl (by conv => lhs; whnf) ?_
  refine can_nil ?_
  refine ps_then ?_
  refine cs_block ?_
  refine cs_loopS [2, 4, 35, 36, 37, 38, 39, 40, 41, 42] (fun m L s r => ∃ t : Nat, t ≤ l.length ∧ m = l.length - t ∧ L = [(35, .int .i64 (t : Int))] ∧ Bk g1 [.int .i64 3, .int .u64 0, .slice A 0 a, .slice B l.length b] 99 :: sps = s ∧ Rd b8 (.slice A 0 a) [] :: Rd dr (.slice B l.length b) l :: rs = r) [(35, .int .i64 (0 : Nat))] (⟨rfl, trivial⟩) (⟨0, by omega, rfl, rfl, rfl, rfl⟩) ?_
  rintro k0 f0 _ _ _ ⟨t, ht, rfl, rfl, rfl, rfl⟩
  refine cs_seq ?_
  refine cs_seq_region [0] rfl ?_
  refine c_lss rfl rfl rfl rfl rfl rfl ?_
  refine can_nil ?_
  refine ps_then ?_
  refine cs_seq ?_
  refine cs_cond rfl (fun hc4 => ?_) (fun hc4 => ?_)
  · simp at hc4
    refine cs_skip ?_
    refine ps_then ?_
    refine cs_seq ?_
    refine cs_block ?_
    refine cs_seq ?_
    refine cs_en (en_open (dr := dr) (xs := l) t (by omega) xM) ?_
    rintro _ _ ⟨gg, off, cq, cs1, heq, hcl, rfl, rfl⟩
    injection heq with e1 e2 e3
    subst e1
    refine cs_en (en_four hsz (x := l[t]) (cs := cs1) xM) ?_
    rintro _ _ ⟨rfl, rfl, a1, b1, c1, d1, rfl, q1, q2, q3, q4⟩
    rw [hsz]
    refine cs_seq_region [0, 1, 2, 3] rfl ?_
    refine c_indexAddrS rfl rfl rfl rfl Tryz.underlying96 Tryz.sizeOf99 rfl rfl xD ?_
    first | refine c_loadN rfl rfl rfl Tryz.isAgg99 Tryz.sizeOf99 rfl (ldS rfl rfl xM subAll) (by first | (simp [ne_length, wlist_length]; done) | rfl) ?_ | refine c_loadN (cs := [_, _, _, _]) rfl rfl rfl Tryz.isAgg99 Tryz.sizeOf99 rfl (ldS rfl rfl xM (subN (m := 4) (by exact rfl))) rfl ?_ | refine c_loadN rfl rfl rfl Tryz.isAgg99 Tryz.sizeOf99 rfl (ldSC (k := 0) rfl rfl xM subAll) (by first | (simp [ne_length, wlist_length]; done) | rfl) ?_
    refine c_alloc rfl rfl rfl rfl Tryz.zeroValue99 rfl (fun _ => Or.inl rfl) (fun g4 => ?_)
    refine c_storeB (cs := [a1, b1, c1, d1]) rfl rfl rfl Tryz.sizeOf99 rfl rfl xF rfl rfl (all_four q1 q2 q3 q4) (by (try simp only [List.cons_append, List.nil_append]); exact rfl) (Or.inl rfl) ?_
    refine can_nil ?_
    refine ps_then ?_
    refine cs_seq ?_
    refine cs_seq_region [0, 1, 2] rfl ?_
    first | refine c_loadN rfl rfl rfl Tryz.isAgg99 Tryz.sizeOf99 rfl (ldS rfl rfl xM subAll) (by first | (simp [ne_length, wlist_length]; done) | rfl) ?_ | refine c_loadN (cs := [_, _, _, _]) rfl rfl rfl Tryz.isAgg99 Tryz.sizeOf99 rfl (ldS rfl rfl xM (subN (m := 4) (by exact rfl))) rfl ?_ | refine c_loadN rfl rfl rfl Tryz.isAgg99 Tryz.sizeOf99 rfl (ldSC (k := 0) rfl rfl xM subAll) (by first | (simp [ne_length, wlist_length]; done) | rfl) ?_
    refine c_call rfl rfl rfl rfl Tryz.call88 (ih l[t] [a1, b1, c1, d1] _ _ xM) (by exact rfl) (fun _ _ _ _ => Or.inl rfl) ?_
    rintro _ _ _ ⟨rfl, rfl, rfl⟩
    refine c_not rfl rfl rfl rfl rfl ?_
    refine can_nil ?_
    refine ps_then ?_
    refine cs_cond rfl (fun hc5 => Bool.noConfusion (show true = false from hc5.symm.trans (rfl))) (fun _ => ?_)
    refine cs_skip ?_
    refine ps_block_normal ?_
    refine ps_then ?_
    refine cs_seq_region [0, 1] rfl ?_
    first | refine c_addI rfl rfl rfl rfl rfl rfl xW ?_ | refine c_add rfl rfl rfl rfl rfl rfl ?_
    refine c_move rfl rfl rfl rfl (by conv => lhs; whnf) ?_
    refine can_nil ?_
    refine ps_en (en_keep (Rd b8 (.slice A 0 a) [] :: Rd dr (.slice _ l.length b) l :: rs) (by (repeat (refine List.forall_mem_cons.2 ⟨by repeat (first | exact .head _ | assumption | apply List.Mem.tail), ?_⟩)); intro r hr; repeat (first | assumption | apply List.Mem.tail))) ?_
    rintro _ _ ⟨rfl, rfl⟩
    refine ps_roundS [(35, .int .i64 ((t + 1 : Nat) : Int))] ⟨rfl, trivial⟩ (by repeat (first | exact Mix.base | refine Mix.upd rfl ?_ | refine Mix.upds rfl ?_ | refine Mix.mix rfl ?_ | exact Mix.refl)) (l.length - (t + 1)) (by omega) (⟨t + 1, by omega, rfl, rfl, rfl, rfl⟩) (.mk xS xS)
  · simp at hc4
    refine cs_exit ?_
    refine ps_then_exit ?_
    refine ps_then_exit ?_
    refine ps_block_here ?_
    refine ps_then ?_
    refine cs_seq ?_
    refine cs_seq_region [0, 1, 2, 3, 4, 5, 6, 7, 8, 9] rfl ?_
    refine c_fieldAddr rfl rfl rfl rfl Tryz.underlying99 rfl Tryz.sizeOf97 rfl rfl ?_
    first | refine c_load1 rfl rfl rfl Tryz.isAgg97 rfl (ldS rfl rfl xM (sub1 (by exact rfl))) ?_ | refine c_load1 rfl rfl rfl Tryz.isAgg97 rfl (ldSC (k := 0) rfl rfl xM (sub1 (by exact rfl))) ?_ | refine c_load1 rfl rfl rfl Tryz.isAgg97 rfl (ldSC rfl rfl xM (sub1 (by exact rfl))) ?_
    refine c_eql rfl rfl rfl rfl rfl rfl ?_
    refine c_move rfl rfl rfl rfl (by conv => lhs; whnf) ?_
    refine can_known 46 true rfl (rfl) ?_
    refine c_fieldAddr rfl rfl rfl rfl Tryz.underlying99 rfl Tryz.sizeOf22 rfl rfl ?_
    first | refine c_load1 rfl rfl rfl Tryz.isAgg22 rfl (ldS rfl rfl xM (sub1 (by exact rfl))) ?_ | refine c_load1 rfl rfl rfl Tryz.isAgg22 rfl (ldSC (k := 0) rfl rfl xM (sub1 (by exact rfl))) ?_ | refine c_load1 rfl rfl rfl Tryz.isAgg22 rfl (ldSC rfl rfl xM (sub1 (by exact rfl))) ?_
    refine c_len rfl rfl rfl rfl Tryz.underlying22 rfl ?_
    refine c_eql rfl rfl rfl rfl rfl rfl ?_
    refine c_pick rfl rfl rfl rfl rfl (by conv => lhs; whnf) ?_
    refine c_assign rfl rfl rfl rfl (by conv => lhs; whnf) ?_
    refine can_nil ?_
    refine ps_then ?_
    refine cs_ret ?_
    refine ps_block_ret ?_
    refine ps_then_ret ?_
    refine ps_en (en_keep (rs) (by (repeat (refine List.forall_mem_cons.2 ⟨by repeat (first | exact .head _ | assumption | apply List.Mem.tail), ?_⟩)); intro r hr; repeat (first | assumption | apply List.Mem.tail))) ?_
    rintro _ _ ⟨rfl, rfl⟩
    apply ps_end1 rfl Tryz.results88 (by conv => lhs; whnf)
    · exact ⟨rfl, rfl, rfl⟩
    · exact (.mk xS xS)

theorem right_step (dr : Rep Nd) (hsz : dr.sz = 4) (w0 : World) (ih : ∀ (y : Nd) (cs : List Value) (sps : List Sp) (rs : List Fa), Kf dr y cs ∈ rs → FnOk Tryz.prog 88 #[.agg cs.toArray] w0 sps rs fun r s q => r = .bool true ∧ sps = s ∧ rs = q) (x : Nd) (cs : List Value) (sps : List Sp) (rs : List Fa) (hm : Kf (mkR dr) x cs ∈ rs) : FnOk Tryz.prog 88 #[.agg cs.toArray] w0 sps rs fun r s q => r = .bool true ∧ sps = s ∧ rs = q := by
  cases x with
  | num n => exact right_num dr hsz w0 n cs sps rs hm
  | byt l => exact right_byt dr hsz w0 l cs sps rs hm
  | lst l => exact right_lst dr hsz w0 ih l cs sps rs hm
theorem right_ok (w0 : World) : ∀ (d : Nat) (x : Nd) (cs : List Value) (sps : List Sp) (rs : List Fa), Kf (ndR d) x cs ∈ rs → FnOk Tryz.prog 88 #[.agg cs.toArray] w0 sps rs fun r s q => r = .bool true ∧ sps = s ∧ rs = q
  | 0, x, cs, sps, rs, hm => right_step rep0 rfl w0 (fun _ _ _ _ h => fn_no h) x cs sps rs hm
  | d + 1, x, cs, sps, rs, hm => right_step (ndR d) (ndR_sz d) w0 (right_ok w0 d) x cs sps rs hm
theorem whole_ok (w0 : World) (sps : List Sp) (rs : List Fa) : FnOk Tryz.prog 41 #[] w0 sps rs fun r s q => r = .agg #[.int .i64 65536, .int .i64 16, .int .i64 16384, .int .i64 65536] ∧ sps = s ∧ rs = q := by
  refine (?_ : FnOk Tryz.prog 41 [].toArray w0 sps rs _)
  refine fn_enter Tryz.func41 rfl Tryz.ntmps41 rfl ?_
  refine cs_seq ?_
  refine cs_seq_region [0] rfl ?_
  refine c_alloc rfl rfl rfl rfl Tryz.zeroValue104 rfl (fun _ => Or.inl rfl) (fun g0 => ?_)
  refine can_nil ?_
  refine ps_then ?_
  refine cs_seq ?_
  refine cs_seq_region [0, 1] rfl ?_
  refine c_buildS (cs := [_, _, _, _]) rfl rfl rfl rfl Tryz.underlying104 Tryz.zeroValue104 (by intro w; simp [Tryz.sizeOf3]; rfl) rfl rfl ?_
  refine c_storeB rfl rfl rfl Tryz.sizeOf104 rfl rfl xF (by first | (simp [ne_length, wlist_length]; done) | rfl) (by first | (simp [ne_length, wlist_length]; done) | rfl) (by first | exact ne_one _ _ | rfl | simp [Value.oneCell']) (by (try simp only [List.cons_append, List.nil_append]); exact rfl) (Or.inl rfl) ?_
  refine can_nil ?_
  refine ps_then ?_
  refine cs_ret ?_
  apply ps_res1 rfl Tryz.results41 (res_cellN Tryz.isAgg104 Tryz.sizeOf104 rfl xM (by first | (simp [ne_length, wlist_length]; done) | rfl))
  · exact ⟨rfl, rfl, rfl⟩
  · exact (.mk xS xS)

end Go.Proofs.YtmodmjekhlnjpaaGreatDoor
namespace Go.Proofs.YtmodmjekhlnjpaaGreatDoor
open Go.RowKit
/-- A writer's cells. -/
def wc (v : Value) (many : Nat) : List Value := [v, .int .i64 (many : Int), .int .i64 65536, .int .i64 16, .int .i64 16384, .int .i64 65536]
theorem value_num (dr : Rep Nd) (hsz : dr.sz = 4) (w0 : World) (g d : Nat)  (n : Nat) (cs : List Value) (v : Value) (many deep : Nat) (m : List Nat) (sps : List Sp) (rs : List Fa) (hd : deep + (d + 1) ≤ 16) (hmany : many + cntNd (.num n) ≤ 16384) (hlen : m.length + (encN (.num n)).length ≤ 65536) (hm : Kf (mkR dr) (.num n) cs ∈ rs) :
    FnOk Tryz.prog 91 #[.pointer (some ⟨g, 0, none⟩), .agg cs.toArray, .int .i64 (deep : Int)] w0 (Bk g (wc v (many)) 163 :: Row b8 5 v (m) :: sps) rs fun r s q => ∃ v', r = .tuple #[] ∧ Bk g (wc v' (many + cntNd (.num n))) 163 :: Row b8 5 v' (m ++ encN (.num n)) :: sps = s ∧ rs = q := by
  refine fn_en (en_num hm) ?_
  rintro _ _ ⟨A, a, B, b, rfl, hlt, rfl, rfl⟩
  have hcl := cntB_len n (by omega)
  simp only [encN, cntNd, List.length_cons, List.length_append] at hlen hmany
  refine fn_enter Tryz.func91 rfl Tryz.ntmps91 rfl ?_
  refine cs_seq ?_
  refine cs_seq_region [0] rfl ?_
  refine c_box rfl rfl rfl rfl rfl (fun _ => Or.inl rfl) (fun g4 => ?_)
  refine can_nil ?_
  refine ps_then ?_
  refine cs_seq ?_
  refine cs_seq ?_
  refine cs_seq_region [0, 1, 2, 3, 4, 5, 6] rfl ?_
  refine c_move rfl rfl rfl rfl (by conv => lhs; whnf) ?_
  refine c_move rfl rfl rfl rfl (by conv => lhs; whnf) ?_
  first | refine c_nilCheck rfl rfl rfl rfl rfl ?_ | refine c_nilCheckF rfl rfl rfl rfl rfl ?_
  refine c_fieldAddr rfl rfl rfl rfl Tryz.underlying163 rfl Tryz.sizeOf104 rfl rfl ?_
  refine c_fieldAddr rfl rfl rfl rfl Tryz.underlying104 rfl Tryz.sizeOf3 rfl rfl ?_
  first | refine c_load1 rfl rfl rfl Tryz.isAgg3 rfl (ldS rfl rfl xM (sub1 (by exact rfl))) ?_ | refine c_load1 rfl rfl rfl Tryz.isAgg3 rfl (ldSC (k := 0) rfl rfl xM (sub1 (by exact rfl))) ?_ | refine c_load1 rfl rfl rfl Tryz.isAgg3 rfl (ldSC rfl rfl xM (sub1 (by exact rfl))) ?_
  refine c_gtr rfl rfl rfl rfl rfl rfl ?_
  refine can_nil ?_
  refine ps_then ?_
  refine cs_cond rfl (fun hc1 => Bool.noConfusion (show true = false from hc1.symm.trans (decide_eq_false (by omega)))) (fun _ => ?_)
  refine cs_skip ?_
  refine ps_then ?_
  refine cs_seq ?_
  refine cs_seq ?_
  refine cs_draw_region [0, 0, 0, 1, 0, 0, 0, 0, 1, 0] [false, false, false, false, false, false, false, false, false, false] [0, 1, 2, 3, 4, 5, 6, 7, 8, 9] (by kernel_rfl) (by kernel_rfl) (by kernel_rfl) (by kernel_rfl) xQ ?_
  refine c_move rfl rfl rfl rfl (by conv => lhs; whnf) ?_
  first | refine c_nilCheck rfl rfl rfl rfl rfl ?_ | refine c_nilCheckF rfl rfl rfl rfl rfl ?_
  refine c_fieldAddr rfl rfl rfl rfl Tryz.underlying163 rfl Tryz.sizeOf3 rfl rfl ?_
  first | refine c_load1 rfl rfl rfl Tryz.isAgg3 rfl (ldD rfl rfl xE xM (sub1 (by exact rfl))) ?_ | refine c_load1 rfl rfl rfl Tryz.isAgg3 rfl (ldDC (k := 0) rfl rfl xE xM (sub1 (by exact rfl))) ?_ | refine c_load1 rfl rfl rfl Tryz.isAgg3 rfl (ldDC rfl rfl xE xM (sub1 (by exact rfl))) ?_
  refine c_move rfl rfl rfl rfl (by conv => lhs; whnf) ?_
  first | refine c_nilCheck rfl rfl rfl rfl rfl ?_ | refine c_nilCheckF rfl rfl rfl rfl rfl ?_
  refine c_fieldAddr rfl rfl rfl rfl Tryz.underlying163 rfl Tryz.sizeOf104 rfl rfl ?_
  refine c_fieldAddr rfl rfl rfl rfl Tryz.underlying104 rfl Tryz.sizeOf3 rfl rfl ?_
  first | refine c_load1 rfl rfl rfl Tryz.isAgg3 rfl (ldD rfl rfl xE xM (sub1 (by exact rfl))) ?_ | refine c_load1 rfl rfl rfl Tryz.isAgg3 rfl (ldDC (k := 0) rfl rfl xE xM (sub1 (by exact rfl))) ?_ | refine c_load1 rfl rfl rfl Tryz.isAgg3 rfl (ldDC rfl rfl xE xM (sub1 (by exact rfl))) ?_
  refine can_forget rfl ?_
  refine c_geq rfl rfl rfl rfl rfl rfl ?_
  refine can_nil ?_
  refine ps_then ?_
  refine cs_cond rfl (fun hc2 => Bool.noConfusion (show true = false from hc2.symm.trans (decide_eq_false (by omega)))) (fun _ => ?_)
  refine cs_skip ?_
  refine ps_then ?_
  refine cs_seq ?_
  refine cs_seq_region [0, 1, 2, 3, 4, 5, 6, 7] rfl ?_
  refine c_move rfl rfl rfl rfl (by conv => lhs; whnf) ?_
  first | refine c_nilCheck rfl rfl rfl rfl rfl ?_ | refine c_nilCheckF rfl rfl rfl rfl rfl ?_
  refine c_fieldAddr rfl rfl rfl rfl Tryz.underlying163 rfl Tryz.sizeOf3 rfl rfl ?_
  first | refine c_load1 rfl rfl rfl Tryz.isAgg3 rfl (ldS rfl rfl xM (sub1 (by exact rfl))) ?_ | refine c_load1 rfl rfl rfl Tryz.isAgg3 rfl (ldSC (k := 0) rfl rfl xM (sub1 (by exact rfl))) ?_ | refine c_load1 rfl rfl rfl Tryz.isAgg3 rfl (ldSC rfl rfl xM (sub1 (by exact rfl))) ?_
  first | refine c_addI rfl rfl rfl rfl rfl rfl xW ?_ | refine c_add rfl rfl rfl rfl rfl rfl ?_
  refine can_is 31 (.int .i64 ((many + 1 : Nat) : Int)) rfl ?_
  first | refine c_nilCheck rfl rfl rfl rfl rfl ?_ | refine c_nilCheckF rfl rfl rfl rfl rfl ?_
  refine c_fieldAddr rfl rfl rfl rfl Tryz.underlying163 rfl Tryz.sizeOf3 rfl rfl ?_
  refine c_store1 (bs' := wc v (many + 1)) rfl rfl rfl Tryz.sizeOf3 rfl rfl xF rfl (Nat.le_of_ble_eq_true rfl) rfl (by (try simp only [List.cons_append, List.nil_append]); exact rfl) (Or.inl rfl) ?_
  refine can_nil ?_
  refine ps_then ?_
  refine cs_seq ?_
  refine cs_draw_region_at ([Bk g4 [.int .i64 1, .int .u64 (n : Int), .slice A 0 a, .slice B 0 b] 99, Bk g (wc v (many + 1)) 163]) [0, 0, 0, 0, 1, 0, 1, 0, 2, 2, 0, 0, 2] [false, false, false, false, false, false, false, false, true, true, false, false, false] [0, 1, 2, 3, 4, 5, 6, 7, 8, 9, 10, 11, 12] (by kernel_rfl) (by kernel_rfl) (by kernel_rfl) (by kernel_rfl) xQ ?_
  refine c_move rfl rfl rfl rfl (by conv => lhs; whnf) ?_
  refine c_move rfl rfl rfl rfl (by conv => lhs; whnf) ?_
  first | refine c_nilCheck rfl rfl rfl rfl rfl ?_ | refine c_nilCheckF rfl rfl rfl rfl rfl ?_
  refine c_fieldAddr rfl rfl rfl rfl Tryz.underlying163 rfl Tryz.sizeOf22 rfl rfl ?_
  first | refine c_load1 rfl rfl rfl Tryz.isAgg22 rfl (ldD rfl rfl xE xM (sub1 (by exact rfl))) ?_ | refine c_load1 rfl rfl rfl Tryz.isAgg22 rfl (ldDC (k := 0) rfl rfl xE xM (sub1 (by exact rfl))) ?_ | refine c_load1 rfl rfl rfl Tryz.isAgg22 rfl (ldDC rfl rfl xE xM (sub1 (by exact rfl))) ?_
  refine c_fieldAddr rfl rfl rfl rfl Tryz.underlying99 rfl Tryz.sizeOf3 rfl rfl ?_
  first | refine c_load1 rfl rfl rfl Tryz.isAgg3 rfl (ldD rfl rfl xE xM (sub1 (by exact rfl))) ?_ | refine c_load1 rfl rfl rfl Tryz.isAgg3 rfl (ldDC (k := 0) rfl rfl xE xM (sub1 (by exact rfl))) ?_ | refine c_load1 rfl rfl rfl Tryz.isAgg3 rfl (ldDC rfl rfl xE xM (sub1 (by exact rfl))) ?_
  refine n_conv (p := 1) rfl rfl rfl rfl Tryz.underlying3 Tryz.underlying5 rfl rfl ?_
  refine c_lit (cs := [_]) rfl rfl rfl rfl Tryz.underlying22 Tryz.sizeOf5 Tryz.zeroValue5 rfl rfl rfl rfl rfl (fun _ => Or.inr xE) (fun g42 => ?_)
  refine c_append1 (dr := b8) (xs := m) (ys := [1]) rfl rfl rfl rfl sty_b8 rfl rfl (by repeat (first | exact Rem.here | apply Rem.there)) xF rfl (fun hh _ => b8_reps (by intro z hz; rw [List.mem_singleton.1 hz]; decide)) (by omega) (fun _ => Or.inr xE) (fun A43 => ?_)
  refine can_en (en_rowShape (xs := m ++ [1]) xM) ?_
  rintro _ _ ⟨rfl, rfl, B43, c43, rfl, -, -, -⟩
  refine can_forget rfl ?_
  first | refine c_nilCheck rfl rfl rfl rfl rfl ?_ | refine c_nilCheckF rfl rfl rfl rfl rfl ?_
  refine c_fieldAddr rfl rfl rfl rfl Tryz.underlying163 rfl Tryz.sizeOf22 rfl rfl ?_
  refine c_store1 (bs' := (wc (.slice B43 (m ++ [1]).length c43) (many + 1))) rfl rfl rfl Tryz.sizeOf22 rfl rfl xF rfl (Nat.le_of_ble_eq_true rfl) rfl (by (try simp only [List.cons_append, List.nil_append]); exact rfl) (Or.inl rfl) ?_
  refine can_nil ?_
  refine ps_then ?_
  refine cs_seq ?_
  refine cs_seq_region [0, 1] rfl ?_
  refine c_fieldAddr rfl rfl rfl rfl Tryz.underlying99 rfl Tryz.sizeOf3 rfl rfl ?_
  first | refine c_load1 rfl rfl rfl Tryz.isAgg3 rfl (ldS rfl rfl xM (sub1 (by exact rfl))) ?_ | refine c_load1 rfl rfl rfl Tryz.isAgg3 rfl (ldSC (k := 0) rfl rfl xM (sub1 (by exact rfl))) ?_ | refine c_load1 rfl rfl rfl Tryz.isAgg3 rfl (ldSC rfl rfl xM (sub1 (by exact rfl))) ?_
  refine can_nil ?_
  refine ps_then ?_
  refine cs_block ?_
  refine cs_seq ?_
  refine cs_seq_region [0, 1] rfl ?_
  refine c_eql rfl rfl rfl rfl rfl rfl ?_
  refine c_assign rfl rfl rfl rfl (by conv => lhs; whnf) ?_
  refine can_nil ?_
  refine ps_then ?_
  refine cs_cond rfl (fun _ => ?_) (fun hc3 => Bool.noConfusion (show false = true from hc3.symm.trans (rfl)))
  refine cs_draw_region_at ([Bk g4 [.int .i64 1, .int .u64 (n : Int), .slice A 0 a, .slice B 0 b] 99, Bk g (wc (.slice B43 (m ++ [1]).length c43) (many + 1)) 163]) [0, 0, 0, 0, 1, 0, 1, 2, 2, 0, 0, 2] [false, false, false, false, false, false, false, true, true, false, false, false] [0, 1, 2, 3, 4, 5, 6, 7, 8, 9, 10, 11] (by kernel_rfl) (by kernel_rfl) (by kernel_rfl) (by kernel_rfl) xQ ?_
  refine c_move rfl rfl rfl rfl (by conv => lhs; whnf) ?_
  refine c_move rfl rfl rfl rfl (by conv => lhs; whnf) ?_
  first | refine c_nilCheck rfl rfl rfl rfl rfl ?_ | refine c_nilCheckF rfl rfl rfl rfl rfl ?_
  refine c_fieldAddr rfl rfl rfl rfl Tryz.underlying163 rfl Tryz.sizeOf22 rfl rfl ?_
  first | refine c_load1 rfl rfl rfl Tryz.isAgg22 rfl (ldD rfl rfl xE xM (sub1 (by exact rfl))) ?_ | refine c_load1 rfl rfl rfl Tryz.isAgg22 rfl (ldDC (k := 0) rfl rfl xE xM (sub1 (by exact rfl))) ?_ | refine c_load1 rfl rfl rfl Tryz.isAgg22 rfl (ldDC rfl rfl xE xM (sub1 (by exact rfl))) ?_
  refine c_fieldAddr rfl rfl rfl rfl Tryz.underlying99 rfl Tryz.sizeOf97 rfl rfl ?_
  first | refine c_load1 rfl rfl rfl Tryz.isAgg97 rfl (ldD rfl rfl xE xM (sub1 (by exact rfl))) ?_ | refine c_load1 rfl rfl rfl Tryz.isAgg97 rfl (ldDC (k := 0) rfl rfl xE xM (sub1 (by exact rfl))) ?_ | refine c_load1 rfl rfl rfl Tryz.isAgg97 rfl (ldDC rfl rfl xE xM (sub1 (by exact rfl))) ?_
  refine c_call rfl rfl rfl rfl Tryz.call161 (count8_ok n w0 _ _ (by omega)) (by exact rfl) (by rintro v s r ⟨vc, rfl, rfl, rfl⟩; exact Or.inr xE) ?_
  rintro _ _ _ ⟨vc, rfl, rfl, rfl⟩
  refine can_en (en_give (xs := cntB n) (by repeat (first | exact Rem.here | apply Rem.there))) ?_
  rintro _ _ ⟨rfl, rfl⟩
  refine c_append (dr := b8) (xs := m ++ [1]) (ys := cntB n) rfl rfl rfl rfl sty_b8 rfl rfl xF xM (by simp only [List.length_append, List.length_singleton]; omega) (fun _ => Or.inr xE) (fun A58 => ?_)
  refine can_en (en_rowShape (xs := m ++ [1] ++ cntB n) xM) ?_
  rintro _ _ ⟨rfl, rfl, B58, c58, rfl, -, -, -⟩
  refine can_forget rfl ?_
  first | refine c_nilCheck rfl rfl rfl rfl rfl ?_ | refine c_nilCheckF rfl rfl rfl rfl rfl ?_
  refine c_fieldAddr rfl rfl rfl rfl Tryz.underlying163 rfl Tryz.sizeOf22 rfl rfl ?_
  refine c_store1 (bs' := (wc (.slice B58 (m ++ [1] ++ cntB n).length c58) (many + 1))) rfl rfl rfl Tryz.sizeOf22 rfl rfl xF rfl (Nat.le_of_ble_eq_true rfl) rfl (by (try simp only [List.cons_append, List.nil_append]); exact rfl) (Or.inl rfl) ?_
  refine can_nil ?_
  refine ps_block_normal ?_
  refine ps_en (en_arr (sps' := Bk g (wc (.slice B58 (m ++ [1] ++ cntB n).length c58) (many + 1)) 163 :: Row b8 5 (.slice B58 (m ++ [1] ++ cntB n).length c58) (m ++ [1] ++ cntB n) :: sps) (by repeat (first | exact Arr.refl | (refine Arr.cons (by repeat (first | exact Rem.here | apply Rem.there)) ?_) | refine Arr.sub (by repeat (first | exact List.Sublist.refl _ | apply List.Sublist.cons_cons | apply List.Sublist.cons))))) ?_
  rintro _ _ ⟨rfl, rfl⟩
  refine ps_en (en_keep (rs) (by (repeat (refine List.forall_mem_cons.2 ⟨by repeat (first | exact .head _ | assumption | apply List.Mem.tail), ?_⟩)); intro r hr; repeat (first | assumption | apply List.Mem.tail))) ?_
  rintro _ _ ⟨rfl, rfl⟩
  rw [show m ++ [1] ++ cntB n = m ++ encN (.num n) from by simp only [encN, List.append_assoc, List.cons_append, List.nil_append]]
  apply ps_end0 rfl Tryz.results91
  · exact ⟨.slice B58 (m ++ encN (.num n)).length c58, rfl, rfl, rfl⟩
  · exact (.mk xS xS)

theorem value_byt (dr : Rep Nd) (hsz : dr.sz = 4) (w0 : World) (g d : Nat)  (l : List Nat) (cs : List Value) (v : Value) (many deep : Nat) (m : List Nat) (sps : List Sp) (rs : List Fa) (hd : deep + (d + 1) ≤ 16) (hmany : many + cntNd (.byt l) ≤ 16384) (hlen : m.length + (encN (.byt l)).length ≤ 65536) (hm : Kf (mkR dr) (.byt l) cs ∈ rs) :
    FnOk Tryz.prog 91 #[.pointer (some ⟨g, 0, none⟩), .agg cs.toArray, .int .i64 (deep : Int)] w0 (Bk g (wc v (many)) 163 :: Row b8 5 v (m) :: sps) rs fun r s q => ∃ v', r = .tuple #[] ∧ Bk g (wc v' (many + cntNd (.byt l))) 163 :: Row b8 5 v' (m ++ encN (.byt l)) :: sps = s ∧ rs = q := by
  refine fn_en (en_byt hm) ?_
  rintro _ _ ⟨A, a, B, b, rfl, hlt, rfl, rfl⟩
  have hcl := cntB_len l.length (by omega)
  simp only [encN, cntNd, List.length_cons, List.length_append] at hlen hmany
  refine fn_enter Tryz.func91 rfl Tryz.ntmps91 rfl ?_
  refine cs_seq ?_
  refine cs_seq_region [0] rfl ?_
  refine c_box rfl rfl rfl rfl rfl (fun _ => Or.inl rfl) (fun g4 => ?_)
  refine can_nil ?_
  refine ps_then ?_
  refine cs_seq ?_
  refine cs_seq ?_
  refine cs_seq_region [0, 1, 2, 3, 4, 5, 6] rfl ?_
  refine c_move rfl rfl rfl rfl (by conv => lhs; whnf) ?_
  refine c_move rfl rfl rfl rfl (by conv => lhs; whnf) ?_
  first | refine c_nilCheck rfl rfl rfl rfl rfl ?_ | refine c_nilCheckF rfl rfl rfl rfl rfl ?_
  refine c_fieldAddr rfl rfl rfl rfl Tryz.underlying163 rfl Tryz.sizeOf104 rfl rfl ?_
  refine c_fieldAddr rfl rfl rfl rfl Tryz.underlying104 rfl Tryz.sizeOf3 rfl rfl ?_
  first | refine c_load1 rfl rfl rfl Tryz.isAgg3 rfl (ldS rfl rfl xM (sub1 (by exact rfl))) ?_ | refine c_load1 rfl rfl rfl Tryz.isAgg3 rfl (ldSC (k := 0) rfl rfl xM (sub1 (by exact rfl))) ?_ | refine c_load1 rfl rfl rfl Tryz.isAgg3 rfl (ldSC rfl rfl xM (sub1 (by exact rfl))) ?_
  refine c_gtr rfl rfl rfl rfl rfl rfl ?_
  refine can_nil ?_
  refine ps_then ?_
  refine cs_cond rfl (fun hc1 => Bool.noConfusion (show true = false from hc1.symm.trans (decide_eq_false (by omega)))) (fun _ => ?_)
  refine cs_skip ?_
  refine ps_then ?_
  refine cs_seq ?_
  refine cs_seq ?_
  refine cs_draw_region [0, 0, 0, 1, 0, 0, 0, 0, 1, 0] [false, false, false, false, false, false, false, false, false, false] [0, 1, 2, 3, 4, 5, 6, 7, 8, 9] (by kernel_rfl) (by kernel_rfl) (by kernel_rfl) (by kernel_rfl) xQ ?_
  refine c_move rfl rfl rfl rfl (by conv => lhs; whnf) ?_
  first | refine c_nilCheck rfl rfl rfl rfl rfl ?_ | refine c_nilCheckF rfl rfl rfl rfl rfl ?_
  refine c_fieldAddr rfl rfl rfl rfl Tryz.underlying163 rfl Tryz.sizeOf3 rfl rfl ?_
  first | refine c_load1 rfl rfl rfl Tryz.isAgg3 rfl (ldD rfl rfl xE xM (sub1 (by exact rfl))) ?_ | refine c_load1 rfl rfl rfl Tryz.isAgg3 rfl (ldDC (k := 0) rfl rfl xE xM (sub1 (by exact rfl))) ?_ | refine c_load1 rfl rfl rfl Tryz.isAgg3 rfl (ldDC rfl rfl xE xM (sub1 (by exact rfl))) ?_
  refine c_move rfl rfl rfl rfl (by conv => lhs; whnf) ?_
  first | refine c_nilCheck rfl rfl rfl rfl rfl ?_ | refine c_nilCheckF rfl rfl rfl rfl rfl ?_
  refine c_fieldAddr rfl rfl rfl rfl Tryz.underlying163 rfl Tryz.sizeOf104 rfl rfl ?_
  refine c_fieldAddr rfl rfl rfl rfl Tryz.underlying104 rfl Tryz.sizeOf3 rfl rfl ?_
  first | refine c_load1 rfl rfl rfl Tryz.isAgg3 rfl (ldD rfl rfl xE xM (sub1 (by exact rfl))) ?_ | refine c_load1 rfl rfl rfl Tryz.isAgg3 rfl (ldDC (k := 0) rfl rfl xE xM (sub1 (by exact rfl))) ?_ | refine c_load1 rfl rfl rfl Tryz.isAgg3 rfl (ldDC rfl rfl xE xM (sub1 (by exact rfl))) ?_
  refine can_forget rfl ?_
  refine c_geq rfl rfl rfl rfl rfl rfl ?_
  refine can_nil ?_
  refine ps_then ?_
  refine cs_cond rfl (fun hc2 => Bool.noConfusion (show true = false from hc2.symm.trans (decide_eq_false (by omega)))) (fun _ => ?_)
  refine cs_skip ?_
  refine ps_then ?_
  refine cs_seq ?_
  refine cs_seq_region [0, 1, 2, 3, 4, 5, 6, 7] rfl ?_
  refine c_move rfl rfl rfl rfl (by conv => lhs; whnf) ?_
  first | refine c_nilCheck rfl rfl rfl rfl rfl ?_ | refine c_nilCheckF rfl rfl rfl rfl rfl ?_
  refine c_fieldAddr rfl rfl rfl rfl Tryz.underlying163 rfl Tryz.sizeOf3 rfl rfl ?_
  first | refine c_load1 rfl rfl rfl Tryz.isAgg3 rfl (ldS rfl rfl xM (sub1 (by exact rfl))) ?_ | refine c_load1 rfl rfl rfl Tryz.isAgg3 rfl (ldSC (k := 0) rfl rfl xM (sub1 (by exact rfl))) ?_ | refine c_load1 rfl rfl rfl Tryz.isAgg3 rfl (ldSC rfl rfl xM (sub1 (by exact rfl))) ?_
  first | refine c_addI rfl rfl rfl rfl rfl rfl xW ?_ | refine c_add rfl rfl rfl rfl rfl rfl ?_
  refine can_is 31 (.int .i64 ((many + 1 : Nat) : Int)) rfl ?_
  first | refine c_nilCheck rfl rfl rfl rfl rfl ?_ | refine c_nilCheckF rfl rfl rfl rfl rfl ?_
  refine c_fieldAddr rfl rfl rfl rfl Tryz.underlying163 rfl Tryz.sizeOf3 rfl rfl ?_
  refine c_store1 (bs' := wc v (many + 1)) rfl rfl rfl Tryz.sizeOf3 rfl rfl xF rfl (Nat.le_of_ble_eq_true rfl) rfl (by (try simp only [List.cons_append, List.nil_append]); exact rfl) (Or.inl rfl) ?_
  refine can_nil ?_
  refine ps_then ?_
  refine cs_seq ?_
  refine cs_draw_region_at ([Bk g4 [.int .i64 2, .int .u64 0, .slice A l.length a, .slice B 0 b] 99, Bk g (wc v (many + 1)) 163]) [0, 0, 0, 0, 1, 0, 1, 0, 2, 2, 0, 0, 2] [false, false, false, false, false, false, false, false, true, true, false, false, false] [0, 1, 2, 3, 4, 5, 6, 7, 8, 9, 10, 11, 12] (by kernel_rfl) (by kernel_rfl) (by kernel_rfl) (by kernel_rfl) xQ ?_
  refine c_move rfl rfl rfl rfl (by conv => lhs; whnf) ?_
  refine c_move rfl rfl rfl rfl (by conv => lhs; whnf) ?_
  first | refine c_nilCheck rfl rfl rfl rfl rfl ?_ | refine c_nilCheckF rfl rfl rfl rfl rfl ?_
  refine c_fieldAddr rfl rfl rfl rfl Tryz.underlying163 rfl Tryz.sizeOf22 rfl rfl ?_
  first | refine c_load1 rfl rfl rfl Tryz.isAgg22 rfl (ldD rfl rfl xE xM (sub1 (by exact rfl))) ?_ | refine c_load1 rfl rfl rfl Tryz.isAgg22 rfl (ldDC (k := 0) rfl rfl xE xM (sub1 (by exact rfl))) ?_ | refine c_load1 rfl rfl rfl Tryz.isAgg22 rfl (ldDC rfl rfl xE xM (sub1 (by exact rfl))) ?_
  refine c_fieldAddr rfl rfl rfl rfl Tryz.underlying99 rfl Tryz.sizeOf3 rfl rfl ?_
  first | refine c_load1 rfl rfl rfl Tryz.isAgg3 rfl (ldD rfl rfl xE xM (sub1 (by exact rfl))) ?_ | refine c_load1 rfl rfl rfl Tryz.isAgg3 rfl (ldDC (k := 0) rfl rfl xE xM (sub1 (by exact rfl))) ?_ | refine c_load1 rfl rfl rfl Tryz.isAgg3 rfl (ldDC rfl rfl xE xM (sub1 (by exact rfl))) ?_
  refine n_conv (p := 2) rfl rfl rfl rfl Tryz.underlying3 Tryz.underlying5 rfl rfl ?_
  refine c_lit (cs := [_]) rfl rfl rfl rfl Tryz.underlying22 Tryz.sizeOf5 Tryz.zeroValue5 rfl rfl rfl rfl rfl (fun _ => Or.inr xE) (fun g42 => ?_)
  refine c_append1 (dr := b8) (xs := m) (ys := [2]) rfl rfl rfl rfl sty_b8 rfl rfl (by repeat (first | exact Rem.here | apply Rem.there)) xF rfl (fun hh _ => b8_reps (by intro z hz; rw [List.mem_singleton.1 hz]; decide)) (by omega) (fun _ => Or.inr xE) (fun A43 => ?_)
  refine can_en (en_rowShape (xs := m ++ [2]) xM) ?_
  rintro _ _ ⟨rfl, rfl, B43, c43, rfl, -, -, -⟩
  refine can_forget rfl ?_
  first | refine c_nilCheck rfl rfl rfl rfl rfl ?_ | refine c_nilCheckF rfl rfl rfl rfl rfl ?_
  refine c_fieldAddr rfl rfl rfl rfl Tryz.underlying163 rfl Tryz.sizeOf22 rfl rfl ?_
  refine c_store1 (bs' := (wc (.slice B43 (m ++ [2]).length c43) (many + 1))) rfl rfl rfl Tryz.sizeOf22 rfl rfl xF rfl (Nat.le_of_ble_eq_true rfl) rfl (by (try simp only [List.cons_append, List.nil_append]); exact rfl) (Or.inl rfl) ?_
  refine can_nil ?_
  refine ps_then ?_
  refine cs_seq ?_
  refine cs_seq_region [0, 1] rfl ?_
  refine c_fieldAddr rfl rfl rfl rfl Tryz.underlying99 rfl Tryz.sizeOf3 rfl rfl ?_
  first | refine c_load1 rfl rfl rfl Tryz.isAgg3 rfl (ldS rfl rfl xM (sub1 (by exact rfl))) ?_ | refine c_load1 rfl rfl rfl Tryz.isAgg3 rfl (ldSC (k := 0) rfl rfl xM (sub1 (by exact rfl))) ?_ | refine c_load1 rfl rfl rfl Tryz.isAgg3 rfl (ldSC rfl rfl xM (sub1 (by exact rfl))) ?_
  refine can_nil ?_
  refine ps_then ?_
  refine cs_block ?_
  refine cs_seq ?_
  refine cs_seq_region [0, 1] rfl ?_
  refine c_eql rfl rfl rfl rfl rfl rfl ?_
  refine c_assign rfl rfl rfl rfl (by conv => lhs; whnf) ?_
  refine can_nil ?_
  refine ps_then ?_
  refine cs_cond rfl (fun hc3 => Bool.noConfusion (show true = false from hc3.symm.trans (rfl))) (fun _ => ?_)
  refine cs_seq ?_
  refine cs_seq_region [0, 1] rfl ?_
  refine c_eql rfl rfl rfl rfl rfl rfl ?_
  refine c_assign rfl rfl rfl rfl (by conv => lhs; whnf) ?_
  refine can_nil ?_
  refine ps_then ?_
  refine cs_cond rfl (fun _ => ?_) (fun hc4 => Bool.noConfusion (show false = true from hc4.symm.trans (rfl)))
  refine cs_seq ?_
  refine cs_seq ?_
  refine cs_draw_region [0, 1, 0, 0, 0, 0, 0, 1, 0, 0] [false, false, false, false, false, false, false, false, false, false] [0, 1, 2, 3, 4, 5, 6, 7, 8, 9] (by kernel_rfl) (by kernel_rfl) (by kernel_rfl) (by kernel_rfl) xQ ?_
  refine c_fieldAddr rfl rfl rfl rfl Tryz.underlying99 rfl Tryz.sizeOf22 rfl rfl ?_
  first | refine c_load1 rfl rfl rfl Tryz.isAgg22 rfl (ldD rfl rfl xE xM (sub1 (by exact rfl))) ?_ | refine c_load1 rfl rfl rfl Tryz.isAgg22 rfl (ldDC (k := 0) rfl rfl xE xM (sub1 (by exact rfl))) ?_ | refine c_load1 rfl rfl rfl Tryz.isAgg22 rfl (ldDC rfl rfl xE xM (sub1 (by exact rfl))) ?_
  refine c_len rfl rfl rfl rfl Tryz.underlying22 rfl ?_
  refine c_move rfl rfl rfl rfl (by conv => lhs; whnf) ?_
  first | refine c_nilCheck rfl rfl rfl rfl rfl ?_ | refine c_nilCheckF rfl rfl rfl rfl rfl ?_
  refine c_fieldAddr rfl rfl rfl rfl Tryz.underlying163 rfl Tryz.sizeOf104 rfl rfl ?_
  refine c_fieldAddr rfl rfl rfl rfl Tryz.underlying104 rfl Tryz.sizeOf3 rfl rfl ?_
  first | refine c_load1 rfl rfl rfl Tryz.isAgg3 rfl (ldD rfl rfl xE xM (sub1 (by exact rfl))) ?_ | refine c_load1 rfl rfl rfl Tryz.isAgg3 rfl (ldDC (k := 0) rfl rfl xE xM (sub1 (by exact rfl))) ?_ | refine c_load1 rfl rfl rfl Tryz.isAgg3 rfl (ldDC rfl rfl xE xM (sub1 (by exact rfl))) ?_
  refine can_forget rfl ?_
  refine c_max rfl rfl rfl rfl rfl rfl ?_
  refine c_gtr rfl rfl rfl rfl rfl rfl ?_
  refine can_nil ?_
  refine ps_then ?_
  refine cs_cond rfl (fun hc5 => Bool.noConfusion (show true = false from hc5.symm.trans (decide_eq_false (by omega)))) (fun _ => ?_)
  refine cs_skip ?_
  refine ps_then ?_
  refine cs_draw_region_at ([Bk g4 [.int .i64 2, .int .u64 0, .slice A l.length a, .slice B 0 b] 99, Bk g (wc (.slice B43 (m ++ [2]).length c43) (many + 1)) 163]) [0, 0, 0, 0, 1, 0, 1, 0, 0, 2, 2, 0, 1, 2, 0, 0, 2] [false, false, false, false, false, false, false, false, false, true, true, false, false, true, false, false, false] [0, 1, 2, 3, 4, 5, 6, 7, 8, 11, 12, 9, 10, 13, 14, 15, 16] (by kernel_rfl) (by kernel_rfl) (by kernel_rfl) (by kernel_rfl) xQ ?_
  refine c_move rfl rfl rfl rfl (by conv => lhs; whnf) ?_
  refine c_move rfl rfl rfl rfl (by conv => lhs; whnf) ?_
  first | refine c_nilCheck rfl rfl rfl rfl rfl ?_ | refine c_nilCheckF rfl rfl rfl rfl rfl ?_
  refine c_fieldAddr rfl rfl rfl rfl Tryz.underlying163 rfl Tryz.sizeOf22 rfl rfl ?_
  first | refine c_load1 rfl rfl rfl Tryz.isAgg22 rfl (ldD rfl rfl xE xM (sub1 (by exact rfl))) ?_ | refine c_load1 rfl rfl rfl Tryz.isAgg22 rfl (ldDC (k := 0) rfl rfl xE xM (sub1 (by exact rfl))) ?_ | refine c_load1 rfl rfl rfl Tryz.isAgg22 rfl (ldDC rfl rfl xE xM (sub1 (by exact rfl))) ?_
  refine c_fieldAddr rfl rfl rfl rfl Tryz.underlying99 rfl Tryz.sizeOf22 rfl rfl ?_
  first | refine c_load1 rfl rfl rfl Tryz.isAgg22 rfl (ldD rfl rfl xE xM (sub1 (by exact rfl))) ?_ | refine c_load1 rfl rfl rfl Tryz.isAgg22 rfl (ldDC (k := 0) rfl rfl xE xM (sub1 (by exact rfl))) ?_ | refine c_load1 rfl rfl rfl Tryz.isAgg22 rfl (ldDC rfl rfl xE xM (sub1 (by exact rfl))) ?_
  refine c_len rfl rfl rfl rfl Tryz.underlying22 rfl ?_
  refine n_conv (p := l.length) rfl rfl rfl rfl Tryz.underlying3 Tryz.underlying97 rfl rfl ?_
  rw [show l.length % 2 ^ IntKind.bits .u64 = l.length from Nat.mod_eq_of_lt (by show _ < 2 ^ 64; omega)]
  refine c_fieldAddr rfl rfl rfl rfl Tryz.underlying99 rfl Tryz.sizeOf22 rfl rfl ?_
  first | refine c_load1 rfl rfl rfl Tryz.isAgg22 rfl (ldD rfl rfl xE xM (sub1 (by exact rfl))) ?_ | refine c_load1 rfl rfl rfl Tryz.isAgg22 rfl (ldDC (k := 0) rfl rfl xE xM (sub1 (by exact rfl))) ?_ | refine c_load1 rfl rfl rfl Tryz.isAgg22 rfl (ldDC rfl rfl xE xM (sub1 (by exact rfl))) ?_
  refine c_call rfl rfl rfl rfl Tryz.call161 (count8_ok l.length w0 _ _ (by omega)) (by exact rfl) (by rintro v s r ⟨vc, rfl, rfl, rfl⟩; exact Or.inr xE) ?_
  rintro _ _ _ ⟨vc, rfl, rfl, rfl⟩
  refine can_en (en_give (xs := cntB l.length) (by repeat (first | exact Rem.here | apply Rem.there))) ?_
  rintro _ _ ⟨rfl, rfl⟩
  refine c_append (dr := b8) (xs := m ++ [2]) (ys := cntB l.length) rfl rfl rfl rfl sty_b8 rfl rfl xF xM (by simp only [List.length_append, List.length_singleton]; omega) (fun _ => Or.inr xE) (fun A84 => ?_)
  refine c_append (dr := b8) (xs := m ++ [2] ++ cntB l.length) (ys := l) rfl rfl rfl rfl sty_b8 rfl rfl xF xM (by simp only [List.length_append, List.length_singleton]; omega) (fun _ => Or.inr xE) (fun A87 => ?_)
  refine can_en (en_rowShape (xs := m ++ [2] ++ cntB l.length ++ l) xM) ?_
  rintro _ _ ⟨rfl, rfl, B87, c87, rfl, -, -, -⟩
  refine can_forget rfl ?_
  first | refine c_nilCheck rfl rfl rfl rfl rfl ?_ | refine c_nilCheckF rfl rfl rfl rfl rfl ?_
  refine c_fieldAddr rfl rfl rfl rfl Tryz.underlying163 rfl Tryz.sizeOf22 rfl rfl ?_
  refine c_store1 (bs' := (wc (.slice B87 (m ++ [2] ++ cntB l.length ++ l).length c87) (many + 1))) rfl rfl rfl Tryz.sizeOf22 rfl rfl xF rfl (Nat.le_of_ble_eq_true rfl) rfl (by (try simp only [List.cons_append, List.nil_append]); exact rfl) (Or.inl rfl) ?_
  refine can_nil ?_
  refine ps_block_normal ?_
  refine ps_en (en_arr (sps' := Bk g (wc (.slice B87 (m ++ [2] ++ cntB l.length ++ l).length c87) (many + 1)) 163 :: Row b8 5 (.slice B87 (m ++ [2] ++ cntB l.length ++ l).length c87) (m ++ [2] ++ cntB l.length ++ l) :: sps) (by repeat (first | exact Arr.refl | (refine Arr.cons (by repeat (first | exact Rem.here | apply Rem.there)) ?_) | refine Arr.sub (by repeat (first | exact List.Sublist.refl _ | apply List.Sublist.cons_cons | apply List.Sublist.cons))))) ?_
  rintro _ _ ⟨rfl, rfl⟩
  refine ps_en (en_keep (rs) (by (repeat (refine List.forall_mem_cons.2 ⟨by repeat (first | exact .head _ | assumption | apply List.Mem.tail), ?_⟩)); intro r hr; repeat (first | assumption | apply List.Mem.tail))) ?_
  rintro _ _ ⟨rfl, rfl⟩
  rw [show m ++ [2] ++ cntB l.length ++ l = m ++ encN (.byt l) from by simp only [encN, List.append_assoc, List.cons_append, List.nil_append]]
  apply ps_end0 rfl Tryz.results91
  · exact ⟨.slice B87 (m ++ encN (.byt l)).length c87, rfl, rfl, rfl⟩
  · exact (.mk xS xS)

theorem value_lst (dr : Rep Nd) (hsz : dr.sz = 4) (w0 : World) (g d : Nat) (ih : ∀ (y : Nd) (cs : List Value) (v : Value) (many deep : Nat) (m : List Nat) (sps : List Sp) (rs : List Fa), deep + d ≤ 16 → many + cntNd y ≤ 16384 → m.length + (encN y).length ≤ 65536 → Kf dr y cs ∈ rs → FnOk Tryz.prog 91 #[.pointer (some ⟨g, 0, none⟩), .agg cs.toArray, .int .i64 (deep : Int)] w0 (Bk g (wc v (many)) 163 :: Row b8 5 v (m) :: sps) rs fun r s q => ∃ v', r = .tuple #[] ∧ Bk g (wc v' (many + cntNd y)) 163 :: Row b8 5 v' (m ++ encN y) :: sps = s ∧ rs = q) (l : List Nd) (cs : List Value) (v : Value) (many deep : Nat) (m : List Nat) (sps : List Sp) (rs : List Fa) (hd : deep + (d + 1) ≤ 16) (hmany : many + cntNd (.lst l) ≤ 16384) (hlen : m.length + (encN (.lst l)).length ≤ 65536) (hm : Kf (mkR dr) (.lst l) cs ∈ rs) :
    FnOk Tryz.prog 91 #[.pointer (some ⟨g, 0, none⟩), .agg cs.toArray, .int .i64 (deep : Int)] w0 (Bk g (wc v (many)) 163 :: Row b8 5 v (m) :: sps) rs fun r s q => ∃ v', r = .tuple #[] ∧ Bk g (wc v' (many + cntNd (.lst l))) 163 :: Row b8 5 v' (m ++ encN (.lst l)) :: sps = s ∧ rs = q := by
  refine fn_en (en_lst hm) ?_
  rintro _ _ ⟨A, a, B, b, rfl, hlt, rfl, rfl⟩
  have hcl := cntB_len l.length (by omega)
  simp only [encN, cntNd, List.length_cons, List.length_append] at hlen hmany
  refine fn_enter Tryz.func91 rfl Tryz.ntmps91 rfl ?_
  refine cs_seq ?_
  refine cs_seq_region [0] rfl ?_
  refine c_box rfl rfl rfl rfl rfl (fun _ => Or.inl rfl) (fun g4 => ?_)
  refine can_nil ?_
  refine ps_then ?_
  refine cs_seq ?_
  refine cs_seq ?_
  refine cs_seq_region [0, 1, 2, 3, 4, 5, 6] rfl ?_
  refine c_move rfl rfl rfl rfl (by conv => lhs; whnf) ?_
  refine c_move rfl rfl rfl rfl (by conv => lhs; whnf) ?_
  first | refine c_nilCheck rfl rfl rfl rfl rfl ?_ | refine c_nilCheckF rfl rfl rfl rfl rfl ?_
  refine c_fieldAddr rfl rfl rfl rfl Tryz.underlying163 rfl Tryz.sizeOf104 rfl rfl ?_
  refine c_fieldAddr rfl rfl rfl rfl Tryz.underlying104 rfl Tryz.sizeOf3 rfl rfl ?_
  first | refine c_load1 rfl rfl rfl Tryz.isAgg3 rfl (ldS rfl rfl xM (sub1 (by exact rfl))) ?_ | refine c_load1 rfl rfl rfl Tryz.isAgg3 rfl (ldSC (k := 0) rfl rfl xM (sub1 (by exact rfl))) ?_ | refine c_load1 rfl rfl rfl Tryz.isAgg3 rfl (ldSC rfl rfl xM (sub1 (by exact rfl))) ?_
  refine c_gtr rfl rfl rfl rfl rfl rfl ?_
  refine can_nil ?_
  refine ps_then ?_
  refine cs_cond rfl (fun hc1 => Bool.noConfusion (show true = false from hc1.symm.trans (decide_eq_false (by omega)))) (fun _ => ?_)
  refine cs_skip ?_
  refine ps_then ?_
  refine cs_seq ?_
  refine cs_seq ?_
  refine cs_draw_region [0, 0, 0, 1, 0, 0, 0, 0, 1, 0] [false, false, false, false, false, false, false, false, false, false] [0, 1, 2, 3, 4, 5, 6, 7, 8, 9] (by kernel_rfl) (by kernel_rfl) (by kernel_rfl) (by kernel_rfl) xQ ?_
  refine c_move rfl rfl rfl rfl (by conv => lhs; whnf) ?_
  first | refine c_nilCheck rfl rfl rfl rfl rfl ?_ | refine c_nilCheckF rfl rfl rfl rfl rfl ?_
  refine c_fieldAddr rfl rfl rfl rfl Tryz.underlying163 rfl Tryz.sizeOf3 rfl rfl ?_
  first | refine c_load1 rfl rfl rfl Tryz.isAgg3 rfl (ldD rfl rfl xE xM (sub1 (by exact rfl))) ?_ | refine c_load1 rfl rfl rfl Tryz.isAgg3 rfl (ldDC (k := 0) rfl rfl xE xM (sub1 (by exact rfl))) ?_ | refine c_load1 rfl rfl rfl Tryz.isAgg3 rfl (ldDC rfl rfl xE xM (sub1 (by exact rfl))) ?_
  refine c_move rfl rfl rfl rfl (by conv => lhs; whnf) ?_
  first | refine c_nilCheck rfl rfl rfl rfl rfl ?_ | refine c_nilCheckF rfl rfl rfl rfl rfl ?_
  refine c_fieldAddr rfl rfl rfl rfl Tryz.underlying163 rfl Tryz.sizeOf104 rfl rfl ?_
  refine c_fieldAddr rfl rfl rfl rfl Tryz.underlying104 rfl Tryz.sizeOf3 rfl rfl ?_
  first | refine c_load1 rfl rfl rfl Tryz.isAgg3 rfl (ldD rfl rfl xE xM (sub1 (by exact rfl))) ?_ | refine c_load1 rfl rfl rfl Tryz.isAgg3 rfl (ldDC (k := 0) rfl rfl xE xM (sub1 (by exact rfl))) ?_ | refine c_load1 rfl rfl rfl Tryz.isAgg3 rfl (ldDC rfl rfl xE xM (sub1 (by exact rfl))) ?_
  refine can_forget rfl ?_
  refine c_geq rfl rfl rfl rfl rfl rfl ?_
  refine can_nil ?_
  refine ps_then ?_
  refine cs_cond rfl (fun hc2 => Bool.noConfusion (show true = false from hc2.symm.trans (decide_eq_false (by omega)))) (fun _ => ?_)
  refine cs_skip ?_
  refine ps_then ?_
  refine cs_seq ?_
  refine cs_seq_region [0, 1, 2, 3, 4, 5, 6, 7] rfl ?_
  refine c_move rfl rfl rfl rfl (by conv => lhs; whnf) ?_
  first | refine c_nilCheck rfl rfl rfl rfl rfl ?_ | refine c_nilCheckF rfl rfl rfl rfl rfl ?_
  refine c_fieldAddr rfl rfl rfl rfl Tryz.underlying163 rfl Tryz.sizeOf3 rfl rfl ?_
  first | refine c_load1 rfl rfl rfl Tryz.isAgg3 rfl (ldS rfl rfl xM (sub1 (by exact rfl))) ?_ | refine c_load1 rfl rfl rfl Tryz.isAgg3 rfl (ldSC (k := 0) rfl rfl xM (sub1 (by exact rfl))) ?_ | refine c_load1 rfl rfl rfl Tryz.isAgg3 rfl (ldSC rfl rfl xM (sub1 (by exact rfl))) ?_
  first | refine c_addI rfl rfl rfl rfl rfl rfl xW ?_ | refine c_add rfl rfl rfl rfl rfl rfl ?_
  refine can_is 31 (.int .i64 ((many + 1 : Nat) : Int)) rfl ?_
  first | refine c_nilCheck rfl rfl rfl rfl rfl ?_ | refine c_nilCheckF rfl rfl rfl rfl rfl ?_
  refine c_fieldAddr rfl rfl rfl rfl Tryz.underlying163 rfl Tryz.sizeOf3 rfl rfl ?_
  refine c_store1 (bs' := wc v (many + 1)) rfl rfl rfl Tryz.sizeOf3 rfl rfl xF rfl (Nat.le_of_ble_eq_true rfl) rfl (by (try simp only [List.cons_append, List.nil_append]); exact rfl) (Or.inl rfl) ?_
  refine can_nil ?_
  refine ps_then ?_
  refine cs_seq ?_
  refine cs_draw_region_at ([Bk g4 [.int .i64 3, .int .u64 0, .slice A 0 a, .slice B l.length b] 99, Bk g (wc v (many + 1)) 163]) [0, 0, 0, 0, 1, 0, 1, 0, 2, 2, 0, 0, 2] [false, false, false, false, false, false, false, false, true, true, false, false, false] [0, 1, 2, 3, 4, 5, 6, 7, 8, 9, 10, 11, 12] (by kernel_rfl) (by kernel_rfl) (by kernel_rfl) (by kernel_rfl) xQ ?_
  refine c_move rfl rfl rfl rfl (by conv => lhs; whnf) ?_
  refine c_move rfl rfl rfl rfl (by conv => lhs; whnf) ?_
  first | refine c_nilCheck rfl rfl rfl rfl rfl ?_ | refine c_nilCheckF rfl rfl rfl rfl rfl ?_
  refine c_fieldAddr rfl rfl rfl rfl Tryz.underlying163 rfl Tryz.sizeOf22 rfl rfl ?_
  first | refine c_load1 rfl rfl rfl Tryz.isAgg22 rfl (ldD rfl rfl xE xM (sub1 (by exact rfl))) ?_ | refine c_load1 rfl rfl rfl Tryz.isAgg22 rfl (ldDC (k := 0) rfl rfl xE xM (sub1 (by exact rfl))) ?_ | refine c_load1 rfl rfl rfl Tryz.isAgg22 rfl (ldDC rfl rfl xE xM (sub1 (by exact rfl))) ?_
  refine c_fieldAddr rfl rfl rfl rfl Tryz.underlying99 rfl Tryz.sizeOf3 rfl rfl ?_
  first | refine c_load1 rfl rfl rfl Tryz.isAgg3 rfl (ldD rfl rfl xE xM (sub1 (by exact rfl))) ?_ | refine c_load1 rfl rfl rfl Tryz.isAgg3 rfl (ldDC (k := 0) rfl rfl xE xM (sub1 (by exact rfl))) ?_ | refine c_load1 rfl rfl rfl Tryz.isAgg3 rfl (ldDC rfl rfl xE xM (sub1 (by exact rfl))) ?_
  refine n_conv (p := 3) rfl rfl rfl rfl Tryz.underlying3 Tryz.underlying5 rfl rfl ?_
  refine c_lit (cs := [_]) rfl rfl rfl rfl Tryz.underlying22 Tryz.sizeOf5 Tryz.zeroValue5 rfl rfl rfl rfl rfl (fun _ => Or.inr xE) (fun g42 => ?_)
  refine c_append1 (dr := b8) (xs := m) (ys := [3]) rfl rfl rfl rfl sty_b8 rfl rfl (by repeat (first | exact Rem.here | apply Rem.there)) xF rfl (fun hh _ => b8_reps (by intro z hz; rw [List.mem_singleton.1 hz]; decide)) (by omega) (fun _ => Or.inr xE) (fun A43 => ?_)
  refine can_en (en_rowShape (xs := m ++ [3]) xM) ?_
  rintro _ _ ⟨rfl, rfl, B43, c43, rfl, -, -, -⟩
  refine can_forget rfl ?_
  first | refine c_nilCheck rfl rfl rfl rfl rfl ?_ | refine c_nilCheckF rfl rfl rfl rfl rfl ?_
  refine c_fieldAddr rfl rfl rfl rfl Tryz.underlying163 rfl Tryz.sizeOf22 rfl rfl ?_
  refine c_store1 (bs' := (wc (.slice B43 (m ++ [3]).length c43) (many + 1))) rfl rfl rfl Tryz.sizeOf22 rfl rfl xF rfl (Nat.le_of_ble_eq_true rfl) rfl (by (try simp only [List.cons_append, List.nil_append]); exact rfl) (Or.inl rfl) ?_
  refine can_nil ?_
  refine ps_then ?_
  refine cs_seq ?_
  refine cs_seq_region [0, 1] rfl ?_
  refine c_fieldAddr rfl rfl rfl rfl Tryz.underlying99 rfl Tryz.sizeOf3 rfl rfl ?_
  first | refine c_load1 rfl rfl rfl Tryz.isAgg3 rfl (ldS rfl rfl xM (sub1 (by exact rfl))) ?_ | refine c_load1 rfl rfl rfl Tryz.isAgg3 rfl (ldSC (k := 0) rfl rfl xM (sub1 (by exact rfl))) ?_ | refine c_load1 rfl rfl rfl Tryz.isAgg3 rfl (ldSC rfl rfl xM (sub1 (by exact rfl))) ?_
  refine can_nil ?_
  refine ps_then ?_
  refine cs_block ?_
  refine cs_seq ?_
  refine cs_seq_region [0, 1] rfl ?_
  refine c_eql rfl rfl rfl rfl rfl rfl ?_
  refine c_assign rfl rfl rfl rfl (by conv => lhs; whnf) ?_
  refine can_nil ?_
  refine ps_then ?_
  refine cs_cond rfl (fun hc3 => Bool.noConfusion (show true = false from hc3.symm.trans (rfl))) (fun _ => ?_)
  refine cs_seq ?_
  refine cs_seq_region [0, 1] rfl ?_
  refine c_eql rfl rfl rfl rfl rfl rfl ?_
  refine c_assign rfl rfl rfl rfl (by conv => lhs; whnf) ?_
  refine can_nil ?_
  refine ps_then ?_
  refine cs_cond rfl (fun hc4 => Bool.noConfusion (show true = false from hc4.symm.trans (rfl))) (fun _ => ?_)
  refine cs_seq ?_
  refine cs_seq_region [0, 1] rfl ?_
  refine c_eql rfl rfl rfl rfl rfl rfl ?_
  refine c_assign rfl rfl rfl rfl (by conv => lhs; whnf) ?_
  refine can_nil ?_
  refine ps_then ?_
  refine cs_cond rfl (fun _ => ?_) (fun hc5 => Bool.noConfusion (show false = true from hc5.symm.trans (rfl)))
  refine cs_seq ?_
  refine cs_draw_region_at ([Bk g4 [.int .i64 3, .int .u64 0, .slice A 0 a, .slice B l.length b] 99, Bk g (wc (.slice B43 (m ++ [3]).length c43) (many + 1)) 163]) [0, 0, 0, 0, 1, 0, 1, 0, 0, 2, 2, 0, 0, 2] [false, false, false, false, false, false, false, false, false, true, true, false, false, false] [0, 1, 2, 3, 4, 5, 6, 7, 8, 9, 10, 11, 12, 13] (by kernel_rfl) (by kernel_rfl) (by kernel_rfl) (by kernel_rfl) xQ ?_
  refine c_move rfl rfl rfl rfl (by conv => lhs; whnf) ?_
  refine c_move rfl rfl rfl rfl (by conv => lhs; whnf) ?_
  first | refine c_nilCheck rfl rfl rfl rfl rfl ?_ | refine c_nilCheckF rfl rfl rfl rfl rfl ?_
  refine c_fieldAddr rfl rfl rfl rfl Tryz.underlying163 rfl Tryz.sizeOf22 rfl rfl ?_
  first | refine c_load1 rfl rfl rfl Tryz.isAgg22 rfl (ldD rfl rfl xE xM (sub1 (by exact rfl))) ?_ | refine c_load1 rfl rfl rfl Tryz.isAgg22 rfl (ldDC (k := 0) rfl rfl xE xM (sub1 (by exact rfl))) ?_ | refine c_load1 rfl rfl rfl Tryz.isAgg22 rfl (ldDC rfl rfl xE xM (sub1 (by exact rfl))) ?_
  refine c_fieldAddr rfl rfl rfl rfl Tryz.underlying99 rfl Tryz.sizeOf96 rfl rfl ?_
  first | refine c_load1 rfl rfl rfl Tryz.isAgg96 rfl (ldD rfl rfl xE xM (sub1 (by exact rfl))) ?_ | refine c_load1 rfl rfl rfl Tryz.isAgg96 rfl (ldDC (k := 0) rfl rfl xE xM (sub1 (by exact rfl))) ?_ | refine c_load1 rfl rfl rfl Tryz.isAgg96 rfl (ldDC rfl rfl xE xM (sub1 (by exact rfl))) ?_
  refine c_len rfl rfl rfl rfl Tryz.underlying96 rfl ?_
  refine n_conv (p := l.length) rfl rfl rfl rfl Tryz.underlying3 Tryz.underlying97 rfl rfl ?_
  rw [show l.length % 2 ^ IntKind.bits .u64 = l.length from Nat.mod_eq_of_lt (by show _ < 2 ^ 64; omega)]
  refine c_call rfl rfl rfl rfl Tryz.call161 (count8_ok l.length w0 _ _ (by omega)) (by exact rfl) (by rintro v s r ⟨vc, rfl, rfl, rfl⟩; exact Or.inr xE) ?_
  rintro _ _ _ ⟨vc, rfl, rfl, rfl⟩
  refine can_en (en_give (xs := cntB l.length) (by repeat (first | exact Rem.here | apply Rem.there))) ?_
  rintro _ _ ⟨rfl, rfl⟩
  refine c_append (dr := b8) (xs := m ++ [3]) (ys := cntB l.length) rfl rfl rfl rfl sty_b8 rfl rfl xF xM (by simp only [List.length_append, List.length_singleton]; omega) (fun _ => Or.inr xE) (fun A102 => ?_)
  refine can_en (en_rowShape (xs := m ++ [3] ++ cntB l.length) xM) ?_
  rintro _ _ ⟨rfl, rfl, B102, c102, rfl, -, -, -⟩
  refine can_forget rfl ?_
  first | refine c_nilCheck rfl rfl rfl rfl rfl ?_ | refine c_nilCheckF rfl rfl rfl rfl rfl ?_
  refine c_fieldAddr rfl rfl rfl rfl Tryz.underlying163 rfl Tryz.sizeOf22 rfl rfl ?_
  refine c_store1 (bs' := (wc (.slice B102 (m ++ [3] ++ cntB l.length).length c102) (many + 1))) rfl rfl rfl Tryz.sizeOf22 rfl rfl xF rfl (Nat.le_of_ble_eq_true rfl) rfl (by (try simp only [List.cons_append, List.nil_append]); exact rfl) (Or.inl rfl) ?_
  refine can_nil ?_
  refine ps_then ?_
  refine cs_seq ?_
  refine cs_seq_region [0, 1, 2, 3] rfl ?_
  refine c_fieldAddr rfl rfl rfl rfl Tryz.underlying99 rfl Tryz.sizeOf96 rfl rfl ?_
  first | refine c_load1 rfl rfl rfl Tryz.isAgg96 rfl (ldS rfl rfl xM (sub1 (by exact rfl))) ?_ | refine c_load1 rfl rfl rfl Tryz.isAgg96 rfl (ldSC (k := 0) rfl rfl xM (sub1 (by exact rfl))) ?_ | refine c_load1 rfl rfl rfl Tryz.isAgg96 rfl (ldSC rfl rfl xM (sub1 (by exact rfl))) ?_
  refine c_len rfl rfl rfl rfl Tryz.underlying96 rfl ?_
  refine c_move rfl rfl rfl rfl (by conv => lhs; whnf) ?_
  refine can_nil ?_
  refine ps_then ?_
  refine cs_block ?_
  refine cs_en (en_arr (sps' := Bk g (wc (.slice B102 (m ++ [3] ++ cntB l.length).length c102) (many + 1)) 163 :: Row b8 5 (.slice B102 (m ++ [3] ++ cntB l.length).length c102) (m ++ [3] ++ cntB l.length) :: Bk g4 [.int .i64 3, .int .u64 0, .slice A 0 a, .slice B l.length b] 99 :: sps) (by repeat (first | exact Arr.refl | (refine Arr.cons (by repeat (first | exact Rem.here | apply Rem.there)) ?_) | refine Arr.sub (by repeat (first | exact List.Sublist.refl _ | apply List.Sublist.cons_cons | apply List.Sublist.cons))))) ?_
  rintro _ _ ⟨rfl, rfl⟩
  refine cs_en (en_keep (Rd b8 (.slice A 0 a) [] :: Rd dr (.slice B l.length b) l :: rs) (by (repeat (refine List.forall_mem_cons.2 ⟨by repeat (first | exact .head _ | assumption | apply List.Mem.tail), ?_⟩)); intro r hr; repeat (first | assumption | apply List.Mem.tail))) ?_
  rintro _ _ ⟨rfl, rfl⟩
  refine cs_loopS [7, 108, 109, 110, 111, 112, 113, 114, 115, 116, 117] (fun k L s r => ∃ (t : Nat) (v : Value), t ≤ l.length ∧ k = l.length - t ∧ L = [(108, .int .i64 (t : Int))] ∧ s = Bk g (wc v (many + 1 + cntL (l.take (t)))) 163 :: Row b8 5 v (m ++ [3] ++ cntB l.length ++ encL (l.take (t))) :: Bk g4 [.int .i64 3, .int .u64 0, .slice A 0 a, .slice B l.length b] 99 :: sps ∧ r = Rd b8 (.slice A 0 a) [] :: Rd dr (.slice B l.length b) l :: rs) [(108, .int .i64 (0 : Nat))] (⟨rfl, trivial⟩) (⟨0, _, by omega, rfl, rfl, by rw [List.take_zero, encL, List.append_nil]; rfl, rfl⟩) ?_
  rintro k0 f0 _ _ _ ⟨t, v, ht, rfl, rfl, rfl, rfl⟩
  refine cs_seq ?_
  refine cs_seq_region [0] rfl ?_
  refine c_lss rfl rfl rfl rfl rfl rfl ?_
  refine can_nil ?_
  refine ps_then ?_
  refine cs_seq ?_
  refine cs_cond rfl (fun hc6 => ?_) (fun hc6 => ?_)
  · simp at hc6
    have hq1 := cntL_le l (t + 1)
    have hq2 := encL_le l (t + 1)
    rw [cntL_take l t (by omega)] at hq1
    rw [encL_take l t (by omega), List.length_append] at hq2
    refine cs_skip ?_
    refine ps_then ?_
    refine cs_seq ?_
    refine cs_block ?_
    refine cs_seq ?_
    refine cs_en (en_open (dr := dr) (xs := l) t (by omega) xM) ?_
    rintro _ _ ⟨gg, off, cq, cs1, heq, hcl1, rfl, rfl⟩
    injection heq with e1 e2 e3
    subst e1
    refine cs_en (en_four hsz (x := l[t]) (cs := cs1) xM) ?_
    rintro _ _ ⟨rfl, rfl, a1, b1, c1, d1, rfl, q1, q2, q3, q4⟩
    rw [hsz]
    refine cs_seq_region [0, 1, 2, 3] rfl ?_
    refine c_indexAddrS rfl rfl rfl rfl Tryz.underlying96 Tryz.sizeOf99 rfl rfl xD ?_
    first | refine c_loadN rfl rfl rfl Tryz.isAgg99 Tryz.sizeOf99 rfl (ldS rfl rfl xM subAll) (by first | (simp [ne_length, wlist_length]; done) | rfl) ?_ | refine c_loadN (cs := [_, _, _, _]) rfl rfl rfl Tryz.isAgg99 Tryz.sizeOf99 rfl (ldS rfl rfl xM (subN (m := 4) (by exact rfl))) rfl ?_ | refine c_loadN rfl rfl rfl Tryz.isAgg99 Tryz.sizeOf99 rfl (ldSC (k := 0) rfl rfl xM subAll) (by first | (simp [ne_length, wlist_length]; done) | rfl) ?_
    refine c_alloc rfl rfl rfl rfl Tryz.zeroValue99 rfl (fun _ => Or.inl rfl) (fun g7 => ?_)
    refine c_storeB (cs := [a1, b1, c1, d1]) rfl rfl rfl Tryz.sizeOf99 rfl rfl xF rfl rfl (all_four q1 q2 q3 q4) (by (try simp only [List.cons_append, List.nil_append]); exact rfl) (Or.inl rfl) ?_
    refine can_nil ?_
    refine ps_then ?_
    refine cs_en (en_arr (sps' := Bk g (wc v (many + 1 + cntL (l.take t))) 163 :: Row b8 5 v (m ++ [3] ++ cntB l.length ++ encL (l.take t)) :: Bk g7 [a1, b1, c1, d1] 99 :: Bk g4 [.int .i64 3, .int .u64 0, .slice A 0 a, .slice _ l.length b] 99 :: sps) (by repeat (first | exact Arr.refl | (refine Arr.cons (by repeat (first | exact Rem.here | apply Rem.there)) ?_) | refine Arr.sub (by repeat (first | exact List.Sublist.refl _ | apply List.Sublist.cons_cons | apply List.Sublist.cons))))) ?_
    rintro _ _ ⟨rfl, rfl⟩
    refine cs_seq_region [0, 1, 2, 3, 4] rfl ?_
    refine c_move rfl rfl rfl rfl (by conv => lhs; whnf) ?_
    first | refine c_loadN rfl rfl rfl Tryz.isAgg99 Tryz.sizeOf99 rfl (ldS rfl rfl xM subAll) (by first | (simp [ne_length, wlist_length]; done) | rfl) ?_ | refine c_loadN (cs := [_, _, _, _]) rfl rfl rfl Tryz.isAgg99 Tryz.sizeOf99 rfl (ldS rfl rfl xM (subN (m := 4) (by exact rfl))) rfl ?_ | refine c_loadN rfl rfl rfl Tryz.isAgg99 Tryz.sizeOf99 rfl (ldSC (k := 0) rfl rfl xM subAll) (by first | (simp [ne_length, wlist_length]; done) | rfl) ?_
    refine c_move rfl rfl rfl rfl (by conv => lhs; whnf) ?_
    first | refine c_addI rfl rfl rfl rfl rfl rfl xW ?_ | refine c_add rfl rfl rfl rfl rfl rfl ?_
    refine can_is 115 (.int .i64 ((deep + 1 : Nat) : Int)) rfl ?_
    refine c_call rfl rfl rfl rfl Tryz.call91 (ih l[t] [a1, b1, c1, d1] v (many + 1 + cntL (l.take t)) (deep + 1) (m ++ [3] ++ cntB l.length ++ encL (l.take t)) _ _ (by omega) (by omega) (by simp only [List.length_append, List.length_singleton]; omega) xM) (by exact rfl) (fun _ _ _ _ => Or.inl rfl) ?_
    rintro _ _ _ ⟨v2, rfl, rfl, rfl⟩
    refine can_nil ?_
    refine ps_block_normal ?_
    refine ps_then ?_
    refine cs_seq_region [0, 1] rfl ?_
    first | refine c_addI rfl rfl rfl rfl rfl rfl xW ?_ | refine c_add rfl rfl rfl rfl rfl rfl ?_
    refine c_move rfl rfl rfl rfl (by conv => lhs; whnf) ?_
    refine can_nil ?_
    refine ps_en (en_arr (sps' := Bk g (wc v2 (many + 1 + cntL (l.take t) + cntNd l[t])) 163 :: Row b8 5 v2 (m ++ [3] ++ cntB l.length ++ encL (l.take t) ++ encN l[t]) :: Bk g4 [.int .i64 3, .int .u64 0, .slice A 0 a, .slice _ l.length b] 99 :: sps) (by repeat (first | exact Arr.refl | (refine Arr.cons (by repeat (first | exact Rem.here | apply Rem.there)) ?_) | refine Arr.sub (by repeat (first | exact List.Sublist.refl _ | apply List.Sublist.cons_cons | apply List.Sublist.cons))))) ?_
    rintro _ _ ⟨rfl, rfl⟩
    refine ps_en (en_keep (Rd b8 (.slice A 0 a) [] :: Rd dr (.slice _ l.length b) l :: rs) (by (repeat (refine List.forall_mem_cons.2 ⟨by repeat (first | exact .head _ | assumption | apply List.Mem.tail), ?_⟩)); intro r hr; repeat (first | assumption | apply List.Mem.tail))) ?_
    rintro _ _ ⟨rfl, rfl⟩
    refine ps_roundS [(108, .int .i64 ((t + 1 : Nat) : Int))] ⟨rfl, trivial⟩ (by repeat (first | exact Mix.base | refine Mix.upd rfl ?_ | refine Mix.upds rfl ?_ | refine Mix.mix rfl ?_ | exact Mix.refl)) (l.length - (t + 1)) (by omega) (⟨t + 1, v2, by omega, rfl, rfl, by rw [cntL_take l t (by omega), encL_take l t (by omega), ← List.append_assoc, ← Nat.add_assoc], rfl⟩) (.mk xS xS)
  · simp at hc6
    obtain rfl : t = l.length := by omega
    rw [List.take_length]
    refine cs_exit ?_
    refine ps_then_exit ?_
    refine ps_then_exit ?_
    refine ps_block_here ?_
    refine ps_block_normal ?_
    refine ps_en (en_arr (sps' := Bk g (wc v (many + 1 + cntL l)) 163 :: Row b8 5 v (m ++ [3] ++ cntB l.length ++ encL l) :: sps) (by repeat (first | exact Arr.refl | (refine Arr.cons (by repeat (first | exact Rem.here | apply Rem.there)) ?_) | refine Arr.sub (by repeat (first | exact List.Sublist.refl _ | apply List.Sublist.cons_cons | apply List.Sublist.cons))))) ?_
    rintro _ _ ⟨rfl, rfl⟩
    refine ps_en (en_keep (rs) (by (repeat (refine List.forall_mem_cons.2 ⟨by repeat (first | exact .head _ | assumption | apply List.Mem.tail), ?_⟩)); intro r hr; repeat (first | assumption | apply List.Mem.tail))) ?_
    rintro _ _ ⟨rfl, rfl⟩
    rw [show m ++ [3] ++ cntB l.length ++ encL l = m ++ encN (.lst l) from by simp only [encN, List.append_assoc, List.cons_append, List.nil_append], show many + 1 + cntL l = many + cntNd (.lst l) from by rw [cntNd, Nat.add_assoc]]
    apply ps_end0 rfl Tryz.results91
    · exact ⟨v, rfl, rfl, rfl⟩
    · exact (.mk xS xS)

theorem value_step (dr : Rep Nd) (hsz : dr.sz = 4) (w0 : World) (g d : Nat) (ih : ∀ (y : Nd) (cs : List Value) (v : Value) (many deep : Nat) (m : List Nat) (sps : List Sp) (rs : List Fa), deep + d ≤ 16 → many + cntNd y ≤ 16384 → m.length + (encN y).length ≤ 65536 → Kf dr y cs ∈ rs → FnOk Tryz.prog 91 #[.pointer (some ⟨g, 0, none⟩), .agg cs.toArray, .int .i64 (deep : Int)] w0 (Bk g (wc v (many)) 163 :: Row b8 5 v (m) :: sps) rs fun r s q => ∃ v', r = .tuple #[] ∧ Bk g (wc v' (many + cntNd y)) 163 :: Row b8 5 v' (m ++ encN y) :: sps = s ∧ rs = q) (x : Nd) (cs : List Value) (v : Value) (many deep : Nat) (m : List Nat) (sps : List Sp) (rs : List Fa) (hd : deep + (d + 1) ≤ 16) (hmany : many + cntNd x ≤ 16384) (hlen : m.length + (encN x).length ≤ 65536) (hm : Kf (mkR dr) x cs ∈ rs) :
    FnOk Tryz.prog 91 #[.pointer (some ⟨g, 0, none⟩), .agg cs.toArray, .int .i64 (deep : Int)] w0 (Bk g (wc v (many)) 163 :: Row b8 5 v (m) :: sps) rs fun r s q => ∃ v', r = .tuple #[] ∧ Bk g (wc v' (many + cntNd x)) 163 :: Row b8 5 v' (m ++ encN x) :: sps = s ∧ rs = q := by
  cases x with
  | num n => exact value_num dr hsz w0 g d n cs v many deep m sps rs hd hmany hlen hm
  | byt l => exact value_byt dr hsz w0 g d l cs v many deep m sps rs hd hmany hlen hm
  | lst l => exact value_lst dr hsz w0 g d ih l cs v many deep m sps rs hd hmany hlen hm
theorem value_ok (w0 : World) (g : Nat) : ∀ (d : Nat) (x : Nd) (cs : List Value) (v : Value) (many deep : Nat) (m : List Nat) (sps : List Sp) (rs : List Fa) (_ : deep + (d + 1) ≤ 16) (_ : many + cntNd x ≤ 16384) (_ : m.length + (encN x).length ≤ 65536) (_ : Kf (ndR d) x cs ∈ rs),
    FnOk Tryz.prog 91 #[.pointer (some ⟨g, 0, none⟩), .agg cs.toArray, .int .i64 (deep : Int)] w0 (Bk g (wc v (many)) 163 :: Row b8 5 v (m) :: sps) rs fun r s q => ∃ v', r = .tuple #[] ∧ Bk g (wc v' (many + cntNd x)) 163 :: Row b8 5 v' (m ++ encN x) :: sps = s ∧ rs = q
  | 0, x, cs, v, many, deep, m, sps, rs, hd, h1, h2, hm => value_step rep0 rfl w0 g 0 (fun _ _ _ _ _ _ _ _ _ _ _ h => fn_no h) x cs v many deep m sps rs hd h1 h2 hm
  | d + 1, x, cs, v, many, deep, m, sps, rs, hd, h1, h2, hm => value_step (ndR d) (ndR_sz d) w0 g (d + 1) (value_ok w0 g d) x cs v many deep m sps rs hd h1 h2 hm
end Go.Proofs.YtmodmjekhlnjpaaGreatDoor
namespace Go.Proofs.YtmodmjekhlnjpaaGreatDoor
open Go.RowKit
theorem write_ok (d : Nat) (x : Nd) (cs : List Value) (w0 : World) (sps : List Sp) (rs : List Fa) (hd : d ≤ 14) (hmany : cntNd x ≤ 16384) (hlen : (encN x).length ≤ 65536) (hm : Kf (ndR d) x cs ∈ rs) :
    FnOk Tryz.prog 39 #[.agg cs.toArray, .agg #[.int .i64 65536, .int .i64 16, .int .i64 16384, .int .i64 65536]] w0 sps rs fun r s q => ∃ v, r = .tuple #[v, .int .i64 0] ∧ Row b8 5 v (encN x) :: sps = s ∧ rs = q := by
  refine fn_en (en_four (ndR_sz d) (x := x) (cs := cs) hm) ?_
  rintro _ _ ⟨rfl, rfl, a1, b1, c1, d1, rfl, q1, q2, q3, q4⟩
  refine fn_enter_d Tryz.func39 rfl Tryz.ntmps39 rfl ?_
  refine cs_seq ?_
  refine cs_seq_region [0, 1, 2, 3] rfl ?_
  refine c_box rfl rfl rfl rfl rfl (fun _ => Or.inl rfl) (fun g2 => ?_)
  refine c_box rfl rfl rfl rfl rfl (fun _ => Or.inl rfl) (fun g3 => ?_)
  refine c_alloc rfl rfl rfl rfl Tryz.zeroValue22 rfl (fun _ => Or.inl rfl) (fun g4 => ?_)
  refine c_alloc rfl rfl rfl rfl Tryz.zeroValue30 rfl (fun _ => Or.inl rfl) (fun g5 => ?_)
  refine can_nil ?_
  refine ps_then ?_
  refine cs_seq ?_
  refine cs_seq ?_
  refine cs_seq_region [0, 1, 2] rfl ?_
  first | refine c_loadN rfl rfl rfl Tryz.isAgg99 Tryz.sizeOf99 rfl (ldS rfl rfl xM subAll) (by first | (simp [ne_length, wlist_length]; done) | rfl) ?_ | refine c_loadN (cs := [_, _, _, _]) rfl rfl rfl Tryz.isAgg99 Tryz.sizeOf99 rfl (ldS rfl rfl xM (subN (m := 4) (by exact rfl))) rfl ?_ | refine c_loadN rfl rfl rfl Tryz.isAgg99 Tryz.sizeOf99 rfl (ldSC (k := 0) rfl rfl xM subAll) (by first | (simp [ne_length, wlist_length]; done) | rfl) ?_
  refine c_call rfl rfl rfl rfl Tryz.call88 (right_ok w0 d x [a1, b1, c1, d1] _ _ xM) (by exact rfl) (fun _ _ _ _ => Or.inl rfl) ?_
  rintro _ _ _ ⟨rfl, rfl, rfl⟩
  refine c_not rfl rfl rfl rfl rfl ?_
  refine can_nil ?_
  refine ps_then ?_
  refine cs_cond rfl (fun hc1 => Bool.noConfusion (show true = false from hc1.symm.trans (rfl))) (fun _ => ?_)
  refine cs_skip ?_
  refine ps_then ?_
  refine cs_seq ?_
  refine cs_seq_region [0, 1] rfl ?_
  refine c_func rfl rfl rfl rfl rfl ?_
  refine can_is 10 (.func (.func 89) #[] #[.pointer (some ⟨g4, 0, none⟩), .pointer (some ⟨g5, 0, none⟩)]) (by show Value.func _ _ (Array.map _ #[_, _]) = _; rw [List.map_toArray]; rfl) ?_
  refine c_defer rfl rfl rfl rfl rfl ?_
  refine can_nil ?_
  refine ps_then ?_
  refine cs_seq ?_
  refine cs_seq_region [0, 1, 2, 3] rfl ?_
  first | refine c_loadN rfl rfl rfl Tryz.isAgg104 Tryz.sizeOf104 rfl (ldS rfl rfl xM subAll) (by first | (simp [ne_length, wlist_length]; done) | rfl) ?_ | refine c_loadN (cs := [_, _, _, _]) rfl rfl rfl Tryz.isAgg104 Tryz.sizeOf104 rfl (ldS rfl rfl xM (subN (m := 4) (by exact rfl))) rfl ?_ | refine c_loadN rfl rfl rfl Tryz.isAgg104 Tryz.sizeOf104 rfl (ldSC (k := 0) rfl rfl xM subAll) (by first | (simp [ne_length, wlist_length]; done) | rfl) ?_
  refine c_buildS (cs := [_, _, _, _, _, _]) rfl rfl rfl rfl Tryz.underlying163 Tryz.zeroValue163 (by intro w; simp [Tryz.sizeOf3, Tryz.sizeOf22, Tryz.sizeOf104]; rfl) rfl rfl ?_
  refine c_box rfl rfl rfl rfl rfl (fun _ => Or.inl rfl) (fun g13 => ?_)
  refine c_assign rfl rfl rfl rfl (by conv => lhs; whnf) ?_
  refine can_nil ?_
  refine ps_then ?_
  refine cs_seq ?_
  refine cs_en (en_nilRow b8 5) ?_
  rintro _ _ ⟨rfl, rfl⟩
  refine cs_en (en_arr (sps' := Bk g13 (wc (.slice none 0 0) 0) 163 :: Row b8 5 (.slice none 0 0) [] :: Bk g5 [.int .i64 0] 30 :: Bk g4 [.slice none 0 0] 22 :: Bk g3 [.int .i64 65536, .int .i64 16, .int .i64 16384, .int .i64 65536] 104 :: Bk g2 [a1, b1, c1, d1] 99 :: sps) (by repeat (first | exact Arr.refl | (refine Arr.cons (by repeat (first | exact Rem.here | apply Rem.there)) ?_) | refine Arr.sub (by repeat (first | exact List.Sublist.refl _ | apply List.Sublist.cons_cons | apply List.Sublist.cons))))) ?_
  rintro _ _ ⟨rfl, rfl⟩
  refine cs_seq_region [0, 1, 2] rfl ?_
  refine c_move rfl rfl rfl rfl (by conv => lhs; whnf) ?_
  first | refine c_loadN rfl rfl rfl Tryz.isAgg99 Tryz.sizeOf99 rfl (ldS rfl rfl xM subAll) (by first | (simp [ne_length, wlist_length]; done) | rfl) ?_ | refine c_loadN (cs := [_, _, _, _]) rfl rfl rfl Tryz.isAgg99 Tryz.sizeOf99 rfl (ldS rfl rfl xM (subN (m := 4) (by exact rfl))) rfl ?_ | refine c_loadN rfl rfl rfl Tryz.isAgg99 Tryz.sizeOf99 rfl (ldSC (k := 0) rfl rfl xM subAll) (by first | (simp [ne_length, wlist_length]; done) | rfl) ?_
  refine c_call rfl rfl rfl rfl Tryz.call91 (value_ok w0 g13 d x [a1, b1, c1, d1] (.slice none 0 0) 0 1 [] _ _ (by omega) (by omega) (by simpa using hlen) xM) (by exact rfl) (fun _ _ _ _ => Or.inl rfl) ?_
  rintro _ _ _ ⟨v2, rfl, rfl, rfl⟩
  rw [List.nil_append]
  refine can_nil ?_
  refine ps_then ?_
  refine cs_seq ?_
  refine cs_seq ?_
  refine cs_en (en_rowShape (xs := encN x) xM) ?_
  rintro _ _ ⟨rfl, rfl, Bv, cv, rfl, -, -, -⟩
  refine cs_draw_region [0, 0, 0, 1, 0, 0, 1, 0, 0] [false, false, false, false, false, false, false, false, false] [0, 1, 2, 3, 4, 5, 6, 7, 8] (by kernel_rfl) (by kernel_rfl) (by kernel_rfl) (by kernel_rfl) xQ ?_
  refine c_move rfl rfl rfl rfl (by conv => lhs; whnf) ?_
  first | refine c_nilCheck rfl rfl rfl rfl rfl ?_ | refine c_nilCheckF rfl rfl rfl rfl rfl ?_
  refine c_fieldAddr rfl rfl rfl rfl Tryz.underlying163 rfl Tryz.sizeOf22 rfl rfl ?_
  first | refine c_load1 rfl rfl rfl Tryz.isAgg22 rfl (ldD rfl rfl xE xM (sub1 (by exact rfl))) ?_ | refine c_load1 rfl rfl rfl Tryz.isAgg22 rfl (ldDC (k := 0) rfl rfl xE xM (sub1 (by exact rfl))) ?_ | refine c_load1 rfl rfl rfl Tryz.isAgg22 rfl (ldDC rfl rfl xE xM (sub1 (by exact rfl))) ?_
  refine c_len rfl rfl rfl rfl Tryz.underlying22 rfl ?_
  refine c_fieldAddr rfl rfl rfl rfl Tryz.underlying104 rfl Tryz.sizeOf3 rfl rfl ?_
  first | refine c_load1 rfl rfl rfl Tryz.isAgg3 rfl (ldD rfl rfl xE xM (sub1 (by exact rfl))) ?_ | refine c_load1 rfl rfl rfl Tryz.isAgg3 rfl (ldDC (k := 0) rfl rfl xE xM (sub1 (by exact rfl))) ?_ | refine c_load1 rfl rfl rfl Tryz.isAgg3 rfl (ldDC rfl rfl xE xM (sub1 (by exact rfl))) ?_
  refine can_forget rfl ?_
  refine c_max rfl rfl rfl rfl rfl rfl ?_
  refine c_gtr rfl rfl rfl rfl rfl rfl ?_
  refine can_nil ?_
  refine ps_then ?_
  refine cs_cond rfl (fun hc2 => Bool.noConfusion (show true = false from hc2.symm.trans (decide_eq_false (by omega)))) (fun _ => ?_)
  refine cs_skip ?_
  refine ps_then ?_
  refine cs_seq ?_
  refine cs_seq_region [0, 1, 2, 3, 4, 5] rfl ?_
  refine c_move rfl rfl rfl rfl (by conv => lhs; whnf) ?_
  first | refine c_nilCheck rfl rfl rfl rfl rfl ?_ | refine c_nilCheckF rfl rfl rfl rfl rfl ?_
  refine c_fieldAddr rfl rfl rfl rfl Tryz.underlying163 rfl Tryz.sizeOf22 rfl rfl ?_
  first | refine c_load1 rfl rfl rfl Tryz.isAgg22 rfl (ldS rfl rfl xM (sub1 (by exact rfl))) ?_ | refine c_load1 rfl rfl rfl Tryz.isAgg22 rfl (ldSC (k := 0) rfl rfl xM (sub1 (by exact rfl))) ?_ | refine c_load1 rfl rfl rfl Tryz.isAgg22 rfl (ldSC rfl rfl xM (sub1 (by exact rfl))) ?_
  refine c_store1 rfl rfl rfl Tryz.sizeOf22 rfl (by conv => lhs; whnf) xF rfl (by first | exact Nat.le_of_ble_eq_true rfl | (simp [ne_length, wlist_length] <;> omega)) (by (try simp only [List.set_cons_zero, List.set_cons_succ]); exact rfl) (by (try simp only [List.cons_append, List.nil_append]); exact rfl) (Or.inl rfl) ?_
  refine c_store1 rfl rfl rfl Tryz.sizeOf30 rfl (by conv => lhs; whnf) xF rfl (by first | exact Nat.le_of_ble_eq_true rfl | (simp [ne_length, wlist_length] <;> omega)) (by (try simp only [List.set_cons_zero, List.set_cons_succ]); exact rfl) (by (try simp only [List.cons_append, List.nil_append]); exact rfl) (Or.inl rfl) ?_
  refine can_nil ?_
  refine ps_then ?_
  refine cs_ret ?_
  refine ps_endD1 rfl (caught_quiet _ _) (fun W => by simp [invoke, Tryz.call89]) (run_res2 (v1 := (.slice Bv (encN x).length cv)) (v2 := .int .i64 0) Tryz.results39 (res_cell1 Tryz.isAgg22 rfl xM) (res_cell1 Tryz.isAgg30 rfl xM)) ⟨(.slice Bv (encN x).length cv), rfl, rfl, rfl⟩ (by repeat (first | exact Arr.refl | (refine Arr.cons (by repeat (first | exact Rem.here | apply Rem.there)) ?_) | refine Arr.sub (by repeat (first | exact List.Sublist.refl _ | apply List.Sublist.cons_cons | apply List.Sublist.cons)))) (by intro r hr; repeat (first | assumption | apply List.Mem.tail))

end Go.Proofs.YtmodmjekhlnjpaaGreatDoor
namespace Go.Proofs.YtmodmjekhlnjpaaGreatDoor
open Go.RowKit
def pieceN (c : Nat) (xs : List Nat) (i : Nat) : List Nat := (xs.drop (i * c)).take c
def leavesN (c : Nat) (xs : List Nat) : List (List Nat) := (List.range (cntN xs.length c)).map fun i => leafN i (pieceN c xs i)
def sentN (b : List Nat) (ps : List (List Nat)) : List Nat := encN (.lst [.byt b, .lst (ps.map .byt)])
def replyN (c : Nat) (xs : List Nat) (p : Nat) : List Nat := sentN (pieceN c xs p) (walkN (leavesN c xs) p)
theorem piece_len (c : Nat) (xs : List Nat) (i : Nat) : (pieceN c xs i).length ≤ c := by simp [pieceN]; omega
theorem leaves_length (c : Nat) (xs : List Nat) : (leavesN c xs).length = cntN xs.length c := by simp [leavesN]
theorem leaves_take (c : Nat) (xs : List Nat) (i : Nat) (h : i < cntN xs.length c) : (leavesN c xs).take (i + 1) = (leavesN c xs).take i ++ [leafN i (pieceN c xs i)] := by
  rw [List.take_succ_eq_append_getElem (by rw [leaves_length]; exact h)]
  simp [leavesN]
theorem leaves_32 (c : Nat) (xs : List Nat) : ∀ x ∈ leavesN c xs, x.length = 32 := by
  intro x hx
  obtain ⟨i, _, rfl⟩ := List.mem_map.1 hx
  exact dig32_length _
theorem cut_get (c : Nat) (xs : List Nat) (i : Nat) (h : i < (cutN c xs).length) : (cutN c xs)[i] = pieceN c xs i := by simp [cutN, pieceN]
theorem walk_32 : ∀ (n : Nat) (l : List (List Nat)) (p : Nat), l.length = n → (∀ x ∈ l, x.length = 32) → ∀ x ∈ walkN l p, x.length = 32 := by
  intro n
  induction n using Nat.strongRecOn with
  | ind n ih =>
    intro l p hl h32 x hx
    by_cases h : l.length ≤ 1
    · rw [walk_one h] at hx; cases hx
    · have h1 := half_lt l.length (by omega)
      have h2 := half_pos l.length
      by_cases hp : p < halfN l.length
      · rw [walk_lo h hp] at hx
        rcases List.mem_append.1 hx with hx | hx
        · exact ih (halfN l.length) (by omega) (l.take (halfN l.length)) p (by simp; omega) (fun x hx => h32 x (List.mem_of_mem_take hx)) x hx
        · rw [List.mem_singleton.1 hx]
          exact top_length _ _ rfl (by simp; omega) (fun x hx => h32 x (List.mem_of_mem_drop hx))
      · rw [walk_hi h hp] at hx
        rcases List.mem_append.1 hx with hx | hx
        · exact ih (l.length - halfN l.length) (by omega) (l.drop (halfN l.length)) (p - halfN l.length) (by simp) (fun x hx => h32 x (List.mem_of_mem_drop hx)) x hx
        · rw [List.mem_singleton.1 hx]
          exact top_length _ _ rfl (by simp; omega) (fun x hx => h32 x (List.mem_of_mem_take hx))
theorem cntB_small {n : Nat} (h : n < 192) : (cntB n).length = 1 := by rw [cntB_lo h]; rfl
theorem encL_byts : ∀ (ps : List (List Nat)), (∀ x ∈ ps, x.length = 32) → (encL (ps.map .byt)).length = ps.length * 34
  | [], _ => rfl
  | p :: ps, h => by
    have hp := h p List.mem_cons_self
    have ih := encL_byts ps fun x hx => h x (List.mem_cons_of_mem _ hx)
    simp only [List.map_cons, encL, List.length_append, ih, encN, List.length_cons, hp, cntB_small (show 32 < 192 by decide)]
    omega
theorem cntL_byts : ∀ (ps : List (List Nat)), cntL (ps.map .byt) = ps.length
  | [] => rfl
  | p :: ps => by simp only [List.map_cons, cntL, cntNd, cntL_byts ps, List.length_cons]; omega
theorem encPs_len (ps : List (List Nat)) (h : ∀ x ∈ ps, x.length = 32) (hl : ps.length ≤ 100) : (encN (.lst (ps.map .byt))).length ≤ 3402 := by
  simp only [encN, List.length_cons, List.length_append, encL_byts ps h, List.length_map, cntB_small (show ps.length < 192 by omega)]
  omega
theorem sent_len (b : List Nat) (ps : List (List Nat)) (hb : b.length ≤ 1024) (h : ∀ x ∈ ps, x.length = 32) (hl : ps.length ≤ 100) : (encN (.lst [.byt b, .lst (ps.map .byt)])).length ≤ 4500 ∧ cntNd (.lst [.byt b, .lst (ps.map .byt)]) ≤ 200 := by
  have h1 := encPs_len ps h hl
  have h2 := cntB_len b.length (by omega)
  constructor
  · rw [encN, encL, encL, encL, encN]
    simp only [List.length_cons, List.length_append, List.length_nil, cntB_small (show 0 + 1 + 1 < 192 by decide)]
    omega
  · simp only [cntNd, cntL, cntL_byts]; omega
theorem cnt_small {n c : Nat} (hc : 64 ≤ c) (hn : n ≤ 6000) (hc2 : c ≤ 1024) : cntN n c ≤ 94 := by
  rw [cntN]
  have h1 : (n + c - 1) / c ≤ 94 := by
    rw [Nat.div_le_iff_le_mul_add_pred (by omega)]
    have : 94 * 64 ≤ c * 94 := by rw [Nat.mul_comm c]; exact Nat.mul_le_mul_left 94 hc
    omega
  exact h1
theorem map_take_succ {α β : Type} (f : α → β) (l : List α) (t : Nat) (h : t < l.length) : (l.take (t + 1)).map f = (l.take t).map f ++ [f l[t]] := by
  rw [List.take_succ_eq_append_getElem h, List.map_append]; rfl
def chunkN (bu : List Nat) (ch p : Int) : List Nat × Int := if ch < 64 ∨ ch > 1024 then ([], 1) else if p < 0 ∨ (cntN bu.length ch.toNat : Int) ≤ p then ([], 1) else (replyN ch.toNat bu p.toNat, 0)
def answerN (st sn ai bu : List Nat) (ch : Int) (roots : List (List Nat)) (k v p : Int) : List Nat × Int :=
  if k = 1 then (if v < 2 ∨ (roots.length : Int) ≤ v - 2 then ([], 0) else (roots.getD (v - 2).toNat [], 0))
  else if k = 2 then (st, 0) else if k = 3 then (sn, 0) else if k = 4 then (ai, 0) else if k = 5 then chunkN bu ch p else ([], 1)
theorem fn_after {P : Program} {f : FuncId} {args : Array Value} {w0 : World} {sps : List Sp} {rs : List Fa} {R R' : Value → List Sp → List Fa → Prop} (h : FnOk P f args w0 sps rs R) (hE : ∀ v s r, R v s r → En w0 s r fun s' r' => R' v s' r') : FnOk P f args w0 sps rs R' :=
  fun W hs => (h W hs).mono fun _ _ ⟨v, s, r, h1, h2, h3⟩ =>
    let ⟨s', r', h4, h5⟩ := hE v s r h2 _ h3
    ⟨v, s', r', h1, h5, h4⟩
end Go.Proofs.YtmodmjekhlnjpaaGreatDoor
