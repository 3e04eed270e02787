/- The proof of PressAnswers, part 2 of 14 (texts joined and shortened by a program: Sha4 PGlob). -/
import Derived.Test.YtmodmjekhlnjpaaGreatDoorPkA1
import Derived.Test.YtmodmjekhlnjpaaGreatDoorRows
import Derived.Test.YtmodmjekhlnjpaaGreatDoorTie
import Derived.Test.YtmodmjekhlnjpaaGreatDoorCards
namespace Go.Proofs.YtmodmjekhlnjpaaGreatDoor
open Go.RowKit
def startsV : List Value := [.int .u64 7640891576956012808, .int .u64 13503953896175478587, .int .u64 4354685564936845355, .int .u64 11912009170470909681, .int .u64 5840696475078001361, .int .u64 11170449401992604703, .int .u64 2270897969802886507, .int .u64 6620516959819538809]
def begin32 : List Value := [.int .u32 1779033703, .int .u32 3144134277, .int .u32 1013904242, .int .u32 2773480762, .int .u32 1359893119, .int .u32 2600822924, .int .u32 528734635, .int .u32 1541459225]
set_option maxRecDepth 100000 in
theorem begin32_ok (w0 : World) (sps : List Sp) (rs : List Fa) (hst : Cl 7 0 startsV ∈ rs) : FnOk Tryz.prog 280 #[.agg shv32.toArray] w0 sps rs fun r s q => r = .agg begin32.toArray ∧ sps = s ∧ rs = q := by
  refine fn_enter Tryz.func280 rfl Tryz.ntmps280 rfl ?_
  refine cs_seq ?_
  refine cs_seq_region [0, 1] rfl ?_
  refine c_box rfl rfl rfl rfl rfl (fun _ => Or.inl rfl) (fun g1 => ?_)
  refine c_alloc rfl rfl rfl rfl Tryz.zeroValue294 rfl (fun _ => Or.inl rfl) (fun g2 => ?_)
  refine can_nil ?_
  refine ps_then ?_
  refine cs_seq ?_
  refine cs_seq_region [0] rfl ?_
  refine c_alloc rfl rfl rfl rfl Tryz.zeroValue294 rfl (fun _ => Or.inl rfl) (fun g3 => ?_)
  refine can_nil ?_
  refine ps_then ?_
  refine cs_seq ?_
  refine cs_seq ?_
  refine cs_seq_region [0] rfl ?_
  refine c_move rfl rfl rfl rfl (by conv => lhs; whnf) ?_
  refine can_nil ?_
  refine ps_then ?_
  refine cs_block ?_
  refine cs_rounds 9 ?_
  refine rs_succ ?_
  refine cs_seq ?_
  refine cs_seq_region [0] rfl ?_
  refine c_lss rfl rfl rfl rfl rfl rfl ?_
  refine can_nil ?_
  refine ps_then ?_
  refine cs_seq ?_
  refine cs_true rfl ?_
  refine cs_skip ?_
  refine ps_then ?_
  refine cs_seq ?_
  refine cs_block ?_
  refine cs_seq ?_
  refine cs_seq_region [0, 1] rfl ?_
  refine c_move rfl rfl rfl rfl (by conv => lhs; whnf) ?_
  refine c_assign rfl rfl rfl rfl (by conv => lhs; whnf) ?_
  refine can_nil ?_
  refine ps_then ?_
  refine cs_draw_region [0, 0, 0, 1, 0, 1, 0, 0, 0, 0, 2] [false, false, false, false, false, false, false, false, false, false, false] [0, 1, 2, 3, 4, 5, 6, 7, 8, 9, 10] (by kernel_rfl) (by kernel_rfl) (by kernel_rfl) (by kernel_rfl) xQ ?_
  refine c_move rfl rfl rfl rfl (by conv => lhs; whnf) ?_
  refine c_move rfl rfl rfl rfl (by conv => lhs; whnf) ?_
  refine c_indexAddrA1 rfl rfl rfl rfl Tryz.underlying295 Tryz.sizeOf97 rfl rfl xD ?_
  first | refine c_load1 rfl rfl rfl Tryz.isAgg97 rfl (ldD rfl rfl xE xM (sub1 (by exact rfl))) ?_ | refine c_load1 rfl rfl rfl Tryz.isAgg97 rfl (ldDC (k := 0) rfl rfl xE xM (sub1 (by exact rfl))) ?_ | refine c_load1 rfl rfl rfl Tryz.isAgg97 rfl (ldDC rfl rfl xE xM (sub1 (by exact rfl))) ?_
  refine c_fieldAddr rfl rfl rfl rfl Tryz.underlying291 rfl Tryz.sizeOf3 rfl rfl ?_
  first | refine c_load1 rfl rfl rfl Tryz.isAgg3 rfl (ldD rfl rfl xE xM (sub1 (by exact rfl))) ?_ | refine c_load1 rfl rfl rfl Tryz.isAgg3 rfl (ldDC (k := 0) rfl rfl xE xM (sub1 (by exact rfl))) ?_ | refine c_load1 rfl rfl rfl Tryz.isAgg3 rfl (ldDC rfl rfl xE xM (sub1 (by exact rfl))) ?_
  refine can_forget rfl ?_
  first | refine c_subI rfl rfl rfl rfl rfl rfl xW ?_ | refine c_sub rfl rfl rfl rfl rfl rfl ?_
  refine c_shr rfl rfl rfl rfl rfl rfl (by first | decide | omega) ?_
  first | refine c_convI rfl rfl rfl rfl Tryz.underlying97 Tryz.underlying261 rfl xW ?_ | refine c_conv rfl rfl rfl rfl Tryz.underlying97 Tryz.underlying261 rfl ?_
  refine c_indexAddrA1 rfl rfl rfl rfl Tryz.underlying294 Tryz.sizeOf261 rfl rfl xD ?_
  refine c_store1 rfl rfl rfl Tryz.sizeOf261 rfl (by conv => lhs; whnf) xF rfl (by first | exact Nat.le_of_ble_eq_true rfl | (simp [ne_length, wlist_length] <;> omega)) (by (try simp only [List.set_cons_zero, List.set_cons_succ]); exact rfl) (by (try simp only [List.cons_append, List.nil_append]); exact rfl) (Or.inl rfl) ?_
  refine can_nil ?_
  refine ps_block_normal ?_
  refine ps_then ?_
  refine cs_seq_region [0, 1] rfl ?_
  first | refine c_addI rfl rfl rfl rfl rfl rfl xW ?_ | refine c_add rfl rfl rfl rfl rfl rfl ?_
  refine c_move rfl rfl rfl rfl (by conv => lhs; whnf) ?_
  refine can_nil ?_
  refine ps_rs ?_
  refine rs_succ ?_
  refine cs_seq ?_
  refine cs_seq_region [0] rfl ?_
  refine c_lss rfl rfl rfl rfl rfl rfl ?_
  refine can_nil ?_
  refine ps_then ?_
  refine cs_seq ?_
  refine cs_true rfl ?_
  refine cs_skip ?_
  refine ps_then ?_
  refine cs_seq ?_
  refine cs_block ?_
  refine cs_seq ?_
  refine cs_seq_region [0, 1] rfl ?_
  refine c_move rfl rfl rfl rfl (by conv => lhs; whnf) ?_
  refine c_assign rfl rfl rfl rfl (by conv => lhs; whnf) ?_
  refine can_nil ?_
  refine ps_then ?_
  refine cs_draw_region [0, 0, 0, 1, 0, 1, 0, 0, 0, 0, 2] [false, false, false, false, false, false, false, false, false, false, false] [0, 1, 2, 3, 4, 5, 6, 7, 8, 9, 10] (by kernel_rfl) (by kernel_rfl) (by kernel_rfl) (by kernel_rfl) xQ ?_
  refine c_move rfl rfl rfl rfl (by conv => lhs; whnf) ?_
  refine c_move rfl rfl rfl rfl (by conv => lhs; whnf) ?_
  refine c_indexAddrA1 rfl rfl rfl rfl Tryz.underlying295 Tryz.sizeOf97 rfl rfl xD ?_
  first | refine c_load1 rfl rfl rfl Tryz.isAgg97 rfl (ldD rfl rfl xE xM (sub1 (by exact rfl))) ?_ | refine c_load1 rfl rfl rfl Tryz.isAgg97 rfl (ldDC (k := 0) rfl rfl xE xM (sub1 (by exact rfl))) ?_ | refine c_load1 rfl rfl rfl Tryz.isAgg97 rfl (ldDC rfl rfl xE xM (sub1 (by exact rfl))) ?_
  refine c_fieldAddr rfl rfl rfl rfl Tryz.underlying291 rfl Tryz.sizeOf3 rfl rfl ?_
  first | refine c_load1 rfl rfl rfl Tryz.isAgg3 rfl (ldD rfl rfl xE xM (sub1 (by exact rfl))) ?_ | refine c_load1 rfl rfl rfl Tryz.isAgg3 rfl (ldDC (k := 0) rfl rfl xE xM (sub1 (by exact rfl))) ?_ | refine c_load1 rfl rfl rfl Tryz.isAgg3 rfl (ldDC rfl rfl xE xM (sub1 (by exact rfl))) ?_
  refine can_forget rfl ?_
  first | refine c_subI rfl rfl rfl rfl rfl rfl xW ?_ | refine c_sub rfl rfl rfl rfl rfl rfl ?_
  refine c_shr rfl rfl rfl rfl rfl rfl (by first | decide | omega) ?_
  first | refine c_convI rfl rfl rfl rfl Tryz.underlying97 Tryz.underlying261 rfl xW ?_ | refine c_conv rfl rfl rfl rfl Tryz.underlying97 Tryz.underlying261 rfl ?_
  refine c_indexAddrA1 rfl rfl rfl rfl Tryz.underlying294 Tryz.sizeOf261 rfl rfl xD ?_
  refine c_store1 rfl rfl rfl Tryz.sizeOf261 rfl (by conv => lhs; whnf) xF rfl (by first | exact Nat.le_of_ble_eq_true rfl | (simp [ne_length, wlist_length] <;> omega)) (by (try simp only [List.set_cons_zero, List.set_cons_succ]); exact rfl) (by (try simp only [List.cons_append, List.nil_append]); exact rfl) (Or.inl rfl) ?_
  refine can_nil ?_
  refine ps_block_normal ?_
  refine ps_then ?_
  refine cs_seq_region [0, 1] rfl ?_
  first | refine c_addI rfl rfl rfl rfl rfl rfl xW ?_ | refine c_add rfl rfl rfl rfl rfl rfl ?_
  refine c_move rfl rfl rfl rfl (by conv => lhs; whnf) ?_
  refine can_nil ?_
  refine ps_rs ?_
  refine rs_succ ?_
  refine cs_seq ?_
  refine cs_seq_region [0] rfl ?_
  refine c_lss rfl rfl rfl rfl rfl rfl ?_
  refine can_nil ?_
  refine ps_then ?_
  refine cs_seq ?_
  refine cs_true rfl ?_
  refine cs_skip ?_
  refine ps_then ?_
  refine cs_seq ?_
  refine cs_block ?_
  refine cs_seq ?_
  refine cs_seq_region [0, 1] rfl ?_
  refine c_move rfl rfl rfl rfl (by conv => lhs; whnf) ?_
  refine c_assign rfl rfl rfl rfl (by conv => lhs; whnf) ?_
  refine can_nil ?_
  refine ps_then ?_
  refine cs_draw_region [0, 0, 0, 1, 0, 1, 0, 0, 0, 0, 2] [false, false, false, false, false, false, false, false, false, false, false] [0, 1, 2, 3, 4, 5, 6, 7, 8, 9, 10] (by kernel_rfl) (by kernel_rfl) (by kernel_rfl) (by kernel_rfl) xQ ?_
  refine c_move rfl rfl rfl rfl (by conv => lhs; whnf) ?_
  refine c_move rfl rfl rfl rfl (by conv => lhs; whnf) ?_
  refine c_indexAddrA1 rfl rfl rfl rfl Tryz.underlying295 Tryz.sizeOf97 rfl rfl xD ?_
  first | refine c_load1 rfl rfl rfl Tryz.isAgg97 rfl (ldD rfl rfl xE xM (sub1 (by exact rfl))) ?_ | refine c_load1 rfl rfl rfl Tryz.isAgg97 rfl (ldDC (k := 0) rfl rfl xE xM (sub1 (by exact rfl))) ?_ | refine c_load1 rfl rfl rfl Tryz.isAgg97 rfl (ldDC rfl rfl xE xM (sub1 (by exact rfl))) ?_
  refine c_fieldAddr rfl rfl rfl rfl Tryz.underlying291 rfl Tryz.sizeOf3 rfl rfl ?_
  first | refine c_load1 rfl rfl rfl Tryz.isAgg3 rfl (ldD rfl rfl xE xM (sub1 (by exact rfl))) ?_ | refine c_load1 rfl rfl rfl Tryz.isAgg3 rfl (ldDC (k := 0) rfl rfl xE xM (sub1 (by exact rfl))) ?_ | refine c_load1 rfl rfl rfl Tryz.isAgg3 rfl (ldDC rfl rfl xE xM (sub1 (by exact rfl))) ?_
  refine can_forget rfl ?_
  first | refine c_subI rfl rfl rfl rfl rfl rfl xW ?_ | refine c_sub rfl rfl rfl rfl rfl rfl ?_
  refine c_shr rfl rfl rfl rfl rfl rfl (by first | decide | omega) ?_
  first | refine c_convI rfl rfl rfl rfl Tryz.underlying97 Tryz.underlying261 rfl xW ?_ | refine c_conv rfl rfl rfl rfl Tryz.underlying97 Tryz.underlying261 rfl ?_
  refine c_indexAddrA1 rfl rfl rfl rfl Tryz.underlying294 Tryz.sizeOf261 rfl rfl xD ?_
  refine c_store1 rfl rfl rfl Tryz.sizeOf261 rfl (by conv => lhs; whnf) xF rfl (by first | exact Nat.le_of_ble_eq_true rfl | (simp [ne_length, wlist_length] <;> omega)) (by (try simp only [List.set_cons_zero, List.set_cons_succ]); exact rfl) (by (try simp only [List.cons_append, List.nil_append]); exact rfl) (Or.inl rfl) ?_
  refine can_nil ?_
  refine ps_block_normal ?_
  refine ps_then ?_
  refine cs_seq_region [0, 1] rfl ?_
  first | refine c_addI rfl rfl rfl rfl rfl rfl xW ?_ | refine c_add rfl rfl rfl rfl rfl rfl ?_
  refine c_move rfl rfl rfl rfl (by conv => lhs; whnf) ?_
  refine can_nil ?_
  refine ps_rs ?_
  refine rs_succ ?_
  refine cs_seq ?_
  refine cs_seq_region [0] rfl ?_
  refine c_lss rfl rfl rfl rfl rfl rfl ?_
  refine can_nil ?_
  refine ps_then ?_
  refine cs_seq ?_
  refine cs_true rfl ?_
  refine cs_skip ?_
  refine ps_then ?_
  refine cs_seq ?_
  refine cs_block ?_
  refine cs_seq ?_
  refine cs_seq_region [0, 1] rfl ?_
  refine c_move rfl rfl rfl rfl (by conv => lhs; whnf) ?_
  refine c_assign rfl rfl rfl rfl (by conv => lhs; whnf) ?_
  refine can_nil ?_
  refine ps_then ?_
  refine cs_draw_region [0, 0, 0, 1, 0, 1, 0, 0, 0, 0, 2] [false, false, false, false, false, false, false, false, false, false, false] [0, 1, 2, 3, 4, 5, 6, 7, 8, 9, 10] (by kernel_rfl) (by kernel_rfl) (by kernel_rfl) (by kernel_rfl) xQ ?_
  refine c_move rfl rfl rfl rfl (by conv => lhs; whnf) ?_
  refine c_move rfl rfl rfl rfl (by conv => lhs; whnf) ?_
  refine c_indexAddrA1 rfl rfl rfl rfl Tryz.underlying295 Tryz.sizeOf97 rfl rfl xD ?_
  first | refine c_load1 rfl rfl rfl Tryz.isAgg97 rfl (ldD rfl rfl xE xM (sub1 (by exact rfl))) ?_ | refine c_load1 rfl rfl rfl Tryz.isAgg97 rfl (ldDC (k := 0) rfl rfl xE xM (sub1 (by exact rfl))) ?_ | refine c_load1 rfl rfl rfl Tryz.isAgg97 rfl (ldDC rfl rfl xE xM (sub1 (by exact rfl))) ?_
  refine c_fieldAddr rfl rfl rfl rfl Tryz.underlying291 rfl Tryz.sizeOf3 rfl rfl ?_
  first | refine c_load1 rfl rfl rfl Tryz.isAgg3 rfl (ldD rfl rfl xE xM (sub1 (by exact rfl))) ?_ | refine c_load1 rfl rfl rfl Tryz.isAgg3 rfl (ldDC (k := 0) rfl rfl xE xM (sub1 (by exact rfl))) ?_ | refine c_load1 rfl rfl rfl Tryz.isAgg3 rfl (ldDC rfl rfl xE xM (sub1 (by exact rfl))) ?_
  refine can_forget rfl ?_
  first | refine c_subI rfl rfl rfl rfl rfl rfl xW ?_ | refine c_sub rfl rfl rfl rfl rfl rfl ?_
  refine c_shr rfl rfl rfl rfl rfl rfl (by first | decide | omega) ?_
  first | refine c_convI rfl rfl rfl rfl Tryz.underlying97 Tryz.underlying261 rfl xW ?_ | refine c_conv rfl rfl rfl rfl Tryz.underlying97 Tryz.underlying261 rfl ?_
  refine c_indexAddrA1 rfl rfl rfl rfl Tryz.underlying294 Tryz.sizeOf261 rfl rfl xD ?_
  refine c_store1 rfl rfl rfl Tryz.sizeOf261 rfl (by conv => lhs; whnf) xF rfl (by first | exact Nat.le_of_ble_eq_true rfl | (simp [ne_length, wlist_length] <;> omega)) (by (try simp only [List.set_cons_zero, List.set_cons_succ]); exact rfl) (by (try simp only [List.cons_append, List.nil_append]); exact rfl) (Or.inl rfl) ?_
  refine can_nil ?_
  refine ps_block_normal ?_
  refine ps_then ?_
  refine cs_seq_region [0, 1] rfl ?_
  first | refine c_addI rfl rfl rfl rfl rfl rfl xW ?_ | refine c_add rfl rfl rfl rfl rfl rfl ?_
  refine c_move rfl rfl rfl rfl (by conv => lhs; whnf) ?_
  refine can_nil ?_
  refine ps_rs ?_
  refine rs_succ ?_
  refine cs_seq ?_
  refine cs_seq_region [0] rfl ?_
  refine c_lss rfl rfl rfl rfl rfl rfl ?_
  refine can_nil ?_
  refine ps_then ?_
  refine cs_seq ?_
  refine cs_true rfl ?_
  refine cs_skip ?_
  refine ps_then ?_
  refine cs_seq ?_
  refine cs_block ?_
  refine cs_seq ?_
  refine cs_seq_region [0, 1] rfl ?_
  refine c_move rfl rfl rfl rfl (by conv => lhs; whnf) ?_
  refine c_assign rfl rfl rfl rfl (by conv => lhs; whnf) ?_
  refine can_nil ?_
  refine ps_then ?_
  refine cs_draw_region [0, 0, 0, 1, 0, 1, 0, 0, 0, 0, 2] [false, false, false, false, false, false, false, false, false, false, false] [0, 1, 2, 3, 4, 5, 6, 7, 8, 9, 10] (by kernel_rfl) (by kernel_rfl) (by kernel_rfl) (by kernel_rfl) xQ ?_
  refine c_move rfl rfl rfl rfl (by conv => lhs; whnf) ?_
  refine c_move rfl rfl rfl rfl (by conv => lhs; whnf) ?_
  refine c_indexAddrA1 rfl rfl rfl rfl Tryz.underlying295 Tryz.sizeOf97 rfl rfl xD ?_
  first | refine c_load1 rfl rfl rfl Tryz.isAgg97 rfl (ldD rfl rfl xE xM (sub1 (by exact rfl))) ?_ | refine c_load1 rfl rfl rfl Tryz.isAgg97 rfl (ldDC (k := 0) rfl rfl xE xM (sub1 (by exact rfl))) ?_ | refine c_load1 rfl rfl rfl Tryz.isAgg97 rfl (ldDC rfl rfl xE xM (sub1 (by exact rfl))) ?_
  refine c_fieldAddr rfl rfl rfl rfl Tryz.underlying291 rfl Tryz.sizeOf3 rfl rfl ?_
  first | refine c_load1 rfl rfl rfl Tryz.isAgg3 rfl (ldD rfl rfl xE xM (sub1 (by exact rfl))) ?_ | refine c_load1 rfl rfl rfl Tryz.isAgg3 rfl (ldDC (k := 0) rfl rfl xE xM (sub1 (by exact rfl))) ?_ | refine c_load1 rfl rfl rfl Tryz.isAgg3 rfl (ldDC rfl rfl xE xM (sub1 (by exact rfl))) ?_
  refine can_forget rfl ?_
  first | refine c_subI rfl rfl rfl rfl rfl rfl xW ?_ | refine c_sub rfl rfl rfl rfl rfl rfl ?_
  refine c_shr rfl rfl rfl rfl rfl rfl (by first | decide | omega) ?_
  first | refine c_convI rfl rfl rfl rfl Tryz.underlying97 Tryz.underlying261 rfl xW ?_ | refine c_conv rfl rfl rfl rfl Tryz.underlying97 Tryz.underlying261 rfl ?_
  refine c_indexAddrA1 rfl rfl rfl rfl Tryz.underlying294 Tryz.sizeOf261 rfl rfl xD ?_
  refine c_store1 rfl rfl rfl Tryz.sizeOf261 rfl (by conv => lhs; whnf) xF rfl (by first | exact Nat.le_of_ble_eq_true rfl | (simp [ne_length, wlist_length] <;> omega)) (by (try simp only [List.set_cons_zero, List.set_cons_succ]); exact rfl) (by (try simp only [List.cons_append, List.nil_append]); exact rfl) (Or.inl rfl) ?_
  refine can_nil ?_
  refine ps_block_normal ?_
  refine ps_then ?_
  refine cs_seq_region [0, 1] rfl ?_
  first | refine c_addI rfl rfl rfl rfl rfl rfl xW ?_ | refine c_add rfl rfl rfl rfl rfl rfl ?_
  refine c_move rfl rfl rfl rfl (by conv => lhs; whnf) ?_
  refine can_nil ?_
  refine ps_rs ?_
  refine rs_succ ?_
  refine cs_seq ?_
  refine cs_seq_region [0] rfl ?_
  refine c_lss rfl rfl rfl rfl rfl rfl ?_
  refine can_nil ?_
  refine ps_then ?_
  refine cs_seq ?_
  refine cs_true rfl ?_
  refine cs_skip ?_
  refine ps_then ?_
  refine cs_seq ?_
  refine cs_block ?_
  refine cs_seq ?_
  refine cs_seq_region [0, 1] rfl ?_
  refine c_move rfl rfl rfl rfl (by conv => lhs; whnf) ?_
  refine c_assign rfl rfl rfl rfl (by conv => lhs; whnf) ?_
  refine can_nil ?_
  refine ps_then ?_
  refine cs_draw_region [0, 0, 0, 1, 0, 1, 0, 0, 0, 0, 2] [false, false, false, false, false, false, false, false, false, false, false] [0, 1, 2, 3, 4, 5, 6, 7, 8, 9, 10] (by kernel_rfl) (by kernel_rfl) (by kernel_rfl) (by kernel_rfl) xQ ?_
  refine c_move rfl rfl rfl rfl (by conv => lhs; whnf) ?_
  refine c_move rfl rfl rfl rfl (by conv => lhs; whnf) ?_
  refine c_indexAddrA1 rfl rfl rfl rfl Tryz.underlying295 Tryz.sizeOf97 rfl rfl xD ?_
  first | refine c_load1 rfl rfl rfl Tryz.isAgg97 rfl (ldD rfl rfl xE xM (sub1 (by exact rfl))) ?_ | refine c_load1 rfl rfl rfl Tryz.isAgg97 rfl (ldDC (k := 0) rfl rfl xE xM (sub1 (by exact rfl))) ?_ | refine c_load1 rfl rfl rfl Tryz.isAgg97 rfl (ldDC rfl rfl xE xM (sub1 (by exact rfl))) ?_
  refine c_fieldAddr rfl rfl rfl rfl Tryz.underlying291 rfl Tryz.sizeOf3 rfl rfl ?_
  first | refine c_load1 rfl rfl rfl Tryz.isAgg3 rfl (ldD rfl rfl xE xM (sub1 (by exact rfl))) ?_ | refine c_load1 rfl rfl rfl Tryz.isAgg3 rfl (ldDC (k := 0) rfl rfl xE xM (sub1 (by exact rfl))) ?_ | refine c_load1 rfl rfl rfl Tryz.isAgg3 rfl (ldDC rfl rfl xE xM (sub1 (by exact rfl))) ?_
  refine can_forget rfl ?_
  first | refine c_subI rfl rfl rfl rfl rfl rfl xW ?_ | refine c_sub rfl rfl rfl rfl rfl rfl ?_
  refine c_shr rfl rfl rfl rfl rfl rfl (by first | decide | omega) ?_
  first | refine c_convI rfl rfl rfl rfl Tryz.underlying97 Tryz.underlying261 rfl xW ?_ | refine c_conv rfl rfl rfl rfl Tryz.underlying97 Tryz.underlying261 rfl ?_
  refine c_indexAddrA1 rfl rfl rfl rfl Tryz.underlying294 Tryz.sizeOf261 rfl rfl xD ?_
  refine c_store1 rfl rfl rfl Tryz.sizeOf261 rfl (by conv => lhs; whnf) xF rfl (by first | exact Nat.le_of_ble_eq_true rfl | (simp [ne_length, wlist_length] <;> omega)) (by (try simp only [List.set_cons_zero, List.set_cons_succ]); exact rfl) (by (try simp only [List.cons_append, List.nil_append]); exact rfl) (Or.inl rfl) ?_
  refine can_nil ?_
  refine ps_block_normal ?_
  refine ps_then ?_
  refine cs_seq_region [0, 1] rfl ?_
  first | refine c_addI rfl rfl rfl rfl rfl rfl xW ?_ | refine c_add rfl rfl rfl rfl rfl rfl ?_
  refine c_move rfl rfl rfl rfl (by conv => lhs; whnf) ?_
  refine can_nil ?_
  refine ps_rs ?_
  refine rs_succ ?_
  refine cs_seq ?_
  refine cs_seq_region [0] rfl ?_
  refine c_lss rfl rfl rfl rfl rfl rfl ?_
  refine can_nil ?_
  refine ps_then ?_
  refine cs_seq ?_
  refine cs_true rfl ?_
  refine cs_skip ?_
  refine ps_then ?_
  refine cs_seq ?_
  refine cs_block ?_
  refine cs_seq ?_
  refine cs_seq_region [0, 1] rfl ?_
  refine c_move rfl rfl rfl rfl (by conv => lhs; whnf) ?_
  refine c_assign rfl rfl rfl rfl (by conv => lhs; whnf) ?_
  refine can_nil ?_
  refine ps_then ?_
  refine cs_draw_region [0, 0, 0, 1, 0, 1, 0, 0, 0, 0, 2] [false, false, false, false, false, false, false, false, false, false, false] [0, 1, 2, 3, 4, 5, 6, 7, 8, 9, 10] (by kernel_rfl) (by kernel_rfl) (by kernel_rfl) (by kernel_rfl) xQ ?_
  refine c_move rfl rfl rfl rfl (by conv => lhs; whnf) ?_
  refine c_move rfl rfl rfl rfl (by conv => lhs; whnf) ?_
  refine c_indexAddrA1 rfl rfl rfl rfl Tryz.underlying295 Tryz.sizeOf97 rfl rfl xD ?_
  first | refine c_load1 rfl rfl rfl Tryz.isAgg97 rfl (ldD rfl rfl xE xM (sub1 (by exact rfl))) ?_ | refine c_load1 rfl rfl rfl Tryz.isAgg97 rfl (ldDC (k := 0) rfl rfl xE xM (sub1 (by exact rfl))) ?_ | refine c_load1 rfl rfl rfl Tryz.isAgg97 rfl (ldDC rfl rfl xE xM (sub1 (by exact rfl))) ?_
  refine c_fieldAddr rfl rfl rfl rfl Tryz.underlying291 rfl Tryz.sizeOf3 rfl rfl ?_
  first | refine c_load1 rfl rfl rfl Tryz.isAgg3 rfl (ldD rfl rfl xE xM (sub1 (by exact rfl))) ?_ | refine c_load1 rfl rfl rfl Tryz.isAgg3 rfl (ldDC (k := 0) rfl rfl xE xM (sub1 (by exact rfl))) ?_ | refine c_load1 rfl rfl rfl Tryz.isAgg3 rfl (ldDC rfl rfl xE xM (sub1 (by exact rfl))) ?_
  refine can_forget rfl ?_
  first | refine c_subI rfl rfl rfl rfl rfl rfl xW ?_ | refine c_sub rfl rfl rfl rfl rfl rfl ?_
  refine c_shr rfl rfl rfl rfl rfl rfl (by first | decide | omega) ?_
  first | refine c_convI rfl rfl rfl rfl Tryz.underlying97 Tryz.underlying261 rfl xW ?_ | refine c_conv rfl rfl rfl rfl Tryz.underlying97 Tryz.underlying261 rfl ?_
  refine c_indexAddrA1 rfl rfl rfl rfl Tryz.underlying294 Tryz.sizeOf261 rfl rfl xD ?_
  refine c_store1 rfl rfl rfl Tryz.sizeOf261 rfl (by conv => lhs; whnf) xF rfl (by first | exact Nat.le_of_ble_eq_true rfl | (simp [ne_length, wlist_length] <;> omega)) (by (try simp only [List.set_cons_zero, List.set_cons_succ]); exact rfl) (by (try simp only [List.cons_append, List.nil_append]); exact rfl) (Or.inl rfl) ?_
  refine can_nil ?_
  refine ps_block_normal ?_
  refine ps_then ?_
  refine cs_seq_region [0, 1] rfl ?_
  first | refine c_addI rfl rfl rfl rfl rfl rfl xW ?_ | refine c_add rfl rfl rfl rfl rfl rfl ?_
  refine c_move rfl rfl rfl rfl (by conv => lhs; whnf) ?_
  refine can_nil ?_
  refine ps_rs ?_
  refine rs_succ ?_
  refine cs_seq ?_
  refine cs_seq_region [0] rfl ?_
  refine c_lss rfl rfl rfl rfl rfl rfl ?_
  refine can_nil ?_
  refine ps_then ?_
  refine cs_seq ?_
  refine cs_true rfl ?_
  refine cs_skip ?_
  refine ps_then ?_
  refine cs_seq ?_
  refine cs_block ?_
  refine cs_seq ?_
  refine cs_seq_region [0, 1] rfl ?_
  refine c_move rfl rfl rfl rfl (by conv => lhs; whnf) ?_
  refine c_assign rfl rfl rfl rfl (by conv => lhs; whnf) ?_
  refine can_nil ?_
  refine ps_then ?_
  refine cs_draw_region [0, 0, 0, 1, 0, 1, 0, 0, 0, 0, 2] [false, false, false, false, false, false, false, false, false, false, false] [0, 1, 2, 3, 4, 5, 6, 7, 8, 9, 10] (by kernel_rfl) (by kernel_rfl) (by kernel_rfl) (by kernel_rfl) xQ ?_
  refine c_move rfl rfl rfl rfl (by conv => lhs; whnf) ?_
  refine c_move rfl rfl rfl rfl (by conv => lhs; whnf) ?_
  refine c_indexAddrA1 rfl rfl rfl rfl Tryz.underlying295 Tryz.sizeOf97 rfl rfl xD ?_
  first | refine c_load1 rfl rfl rfl Tryz.isAgg97 rfl (ldD rfl rfl xE xM (sub1 (by exact rfl))) ?_ | refine c_load1 rfl rfl rfl Tryz.isAgg97 rfl (ldDC (k := 0) rfl rfl xE xM (sub1 (by exact rfl))) ?_ | refine c_load1 rfl rfl rfl Tryz.isAgg97 rfl (ldDC rfl rfl xE xM (sub1 (by exact rfl))) ?_
  refine c_fieldAddr rfl rfl rfl rfl Tryz.underlying291 rfl Tryz.sizeOf3 rfl rfl ?_
  first | refine c_load1 rfl rfl rfl Tryz.isAgg3 rfl (ldD rfl rfl xE xM (sub1 (by exact rfl))) ?_ | refine c_load1 rfl rfl rfl Tryz.isAgg3 rfl (ldDC (k := 0) rfl rfl xE xM (sub1 (by exact rfl))) ?_ | refine c_load1 rfl rfl rfl Tryz.isAgg3 rfl (ldDC rfl rfl xE xM (sub1 (by exact rfl))) ?_
  refine can_forget rfl ?_
  first | refine c_subI rfl rfl rfl rfl rfl rfl xW ?_ | refine c_sub rfl rfl rfl rfl rfl rfl ?_
  refine c_shr rfl rfl rfl rfl rfl rfl (by first | decide | omega) ?_
  first | refine c_convI rfl rfl rfl rfl Tryz.underlying97 Tryz.underlying261 rfl xW ?_ | refine c_conv rfl rfl rfl rfl Tryz.underlying97 Tryz.underlying261 rfl ?_
  refine c_indexAddrA1 rfl rfl rfl rfl Tryz.underlying294 Tryz.sizeOf261 rfl rfl xD ?_
  refine c_store1 rfl rfl rfl Tryz.sizeOf261 rfl (by conv => lhs; whnf) xF rfl (by first | exact Nat.le_of_ble_eq_true rfl | (simp [ne_length, wlist_length] <;> omega)) (by (try simp only [List.set_cons_zero, List.set_cons_succ]); exact rfl) (by (try simp only [List.cons_append, List.nil_append]); exact rfl) (Or.inl rfl) ?_
  refine can_nil ?_
  refine ps_block_normal ?_
  refine ps_then ?_
  refine cs_seq_region [0, 1] rfl ?_
  first | refine c_addI rfl rfl rfl rfl rfl rfl xW ?_ | refine c_add rfl rfl rfl rfl rfl rfl ?_
  refine c_move rfl rfl rfl rfl (by conv => lhs; whnf) ?_
  refine can_nil ?_
  refine ps_rs ?_
  refine rs_succ ?_
  refine cs_seq ?_
  refine cs_seq_region [0] rfl ?_
  refine c_lss rfl rfl rfl rfl rfl rfl ?_
  refine can_nil ?_
  refine ps_then ?_
  refine cs_seq ?_
  refine cs_false rfl ?_
  refine cs_exit ?_
  refine ps_then_exit ?_
  refine ps_then_exit ?_
  refine ps_block_here ?_
  refine ps_then ?_
  refine cs_seq ?_
  refine cs_seq_region [0, 1] rfl ?_
  first | refine c_loadN rfl rfl rfl Tryz.isAgg294 Tryz.sizeOf294 rfl (ldS rfl rfl xM subAll) (by first | (simp [ne_length, wlist_length]; done) | rfl) ?_ | refine c_loadN (cs := [_, _, _, _, _, _, _, _]) rfl rfl rfl Tryz.isAgg294 Tryz.sizeOf294 rfl (ldS rfl rfl xM (subN (m := 8) (by exact rfl))) rfl ?_ | refine c_loadN rfl rfl rfl Tryz.isAgg294 Tryz.sizeOf294 rfl (ldSC (k := 0) rfl rfl xM subAll) (by first | (simp [ne_length, wlist_length]; done) | rfl) ?_
  refine c_storeB rfl rfl rfl Tryz.sizeOf294 rfl rfl xF (by first | (simp [ne_length, wlist_length]; done) | rfl) (by first | (simp [ne_length, wlist_length]; done) | rfl) (by first | exact ne_one _ _ | rfl | simp [Value.oneCell']) (by (try simp only [List.cons_append, List.nil_append]); exact rfl) (Or.inl rfl) ?_
  refine can_nil ?_
  refine ps_then ?_
  refine cs_ret ?_
  apply ps_res1 rfl Tryz.results280 (res_cellN Tryz.isAgg294 Tryz.sizeOf294 rfl xM (by first | (simp [ne_length, wlist_length]; done) | rfl))
  · exact ⟨rfl, rfl, rfl⟩
  · exact (.mk xS xS)

set_option maxRecDepth 100000 in
theorem begin64_ok (w0 : World) (sps : List Sp) (rs : List Fa) (hst : Cl 7 0 startsV ∈ rs) : FnOk Tryz.prog 281 #[.agg shv64.toArray] w0 sps rs fun r s q => r = .agg startsV.toArray ∧ sps = s ∧ rs = q := by
  refine fn_enter Tryz.func281 rfl Tryz.ntmps281 rfl ?_
  refine cs_seq ?_
  refine cs_seq_region [0, 1] rfl ?_
  refine c_box rfl rfl rfl rfl rfl (fun _ => Or.inl rfl) (fun g1 => ?_)
  refine c_alloc rfl rfl rfl rfl Tryz.zeroValue295 rfl (fun _ => Or.inl rfl) (fun g2 => ?_)
  refine can_nil ?_
  refine ps_then ?_
  refine cs_seq ?_
  refine cs_seq_region [0] rfl ?_
  refine c_alloc rfl rfl rfl rfl Tryz.zeroValue295 rfl (fun _ => Or.inl rfl) (fun g3 => ?_)
  refine can_nil ?_
  refine ps_then ?_
  refine cs_seq ?_
  refine cs_seq ?_
  refine cs_seq_region [0] rfl ?_
  refine c_move rfl rfl rfl rfl (by conv => lhs; whnf) ?_
  refine can_nil ?_
  refine ps_then ?_
  refine cs_block ?_
  refine cs_rounds 9 ?_
  refine rs_succ ?_
  refine cs_seq ?_
  refine cs_seq_region [0] rfl ?_
  refine c_lss rfl rfl rfl rfl rfl rfl ?_
  refine can_nil ?_
  refine ps_then ?_
  refine cs_seq ?_
  refine cs_true rfl ?_
  refine cs_skip ?_
  refine ps_then ?_
  refine cs_seq ?_
  refine cs_block ?_
  refine cs_seq ?_
  refine cs_seq_region [0, 1] rfl ?_
  refine c_move rfl rfl rfl rfl (by conv => lhs; whnf) ?_
  refine c_assign rfl rfl rfl rfl (by conv => lhs; whnf) ?_
  refine can_nil ?_
  refine ps_then ?_
  refine cs_draw_region [0, 0, 0, 1, 0, 1, 0, 0, 0, 2] [false, false, false, false, false, false, false, false, false, false] [0, 1, 2, 3, 4, 5, 6, 7, 8, 9] (by kernel_rfl) (by kernel_rfl) (by kernel_rfl) (by kernel_rfl) xQ ?_
  refine c_move rfl rfl rfl rfl (by conv => lhs; whnf) ?_
  refine c_move rfl rfl rfl rfl (by conv => lhs; whnf) ?_
  refine c_indexAddrA1 rfl rfl rfl rfl Tryz.underlying295 Tryz.sizeOf97 rfl rfl xD ?_
  first | refine c_load1 rfl rfl rfl Tryz.isAgg97 rfl (ldD rfl rfl xE xM (sub1 (by exact rfl))) ?_ | refine c_load1 rfl rfl rfl Tryz.isAgg97 rfl (ldDC (k := 0) rfl rfl xE xM (sub1 (by exact rfl))) ?_ | refine c_load1 rfl rfl rfl Tryz.isAgg97 rfl (ldDC rfl rfl xE xM (sub1 (by exact rfl))) ?_
  refine c_fieldAddr rfl rfl rfl rfl Tryz.underlying291 rfl Tryz.sizeOf3 rfl rfl ?_
  first | refine c_load1 rfl rfl rfl Tryz.isAgg3 rfl (ldD rfl rfl xE xM (sub1 (by exact rfl))) ?_ | refine c_load1 rfl rfl rfl Tryz.isAgg3 rfl (ldDC (k := 0) rfl rfl xE xM (sub1 (by exact rfl))) ?_ | refine c_load1 rfl rfl rfl Tryz.isAgg3 rfl (ldDC rfl rfl xE xM (sub1 (by exact rfl))) ?_
  refine can_forget rfl ?_
  first | refine c_subI rfl rfl rfl rfl rfl rfl xW ?_ | refine c_sub rfl rfl rfl rfl rfl rfl ?_
  refine c_shr rfl rfl rfl rfl rfl rfl (by first | decide | omega) ?_
  refine c_indexAddrA1 rfl rfl rfl rfl Tryz.underlying295 Tryz.sizeOf97 rfl rfl xD ?_
  refine c_store1 rfl rfl rfl Tryz.sizeOf97 rfl (by conv => lhs; whnf) xF rfl (by first | exact Nat.le_of_ble_eq_true rfl | (simp [ne_length, wlist_length] <;> omega)) (by (try simp only [List.set_cons_zero, List.set_cons_succ]); exact rfl) (by (try simp only [List.cons_append, List.nil_append]); exact rfl) (Or.inl rfl) ?_
  refine can_nil ?_
  refine ps_block_normal ?_
  refine ps_then ?_
  refine cs_seq_region [0, 1] rfl ?_
  first | refine c_addI rfl rfl rfl rfl rfl rfl xW ?_ | refine c_add rfl rfl rfl rfl rfl rfl ?_
  refine c_move rfl rfl rfl rfl (by conv => lhs; whnf) ?_
  refine can_nil ?_
  refine ps_rs ?_
  refine rs_succ ?_
  refine cs_seq ?_
  refine cs_seq_region [0] rfl ?_
  refine c_lss rfl rfl rfl rfl rfl rfl ?_
  refine can_nil ?_
  refine ps_then ?_
  refine cs_seq ?_
  refine cs_true rfl ?_
  refine cs_skip ?_
  refine ps_then ?_
  refine cs_seq ?_
  refine cs_block ?_
  refine cs_seq ?_
  refine cs_seq_region [0, 1] rfl ?_
  refine c_move rfl rfl rfl rfl (by conv => lhs; whnf) ?_
  refine c_assign rfl rfl rfl rfl (by conv => lhs; whnf) ?_
  refine can_nil ?_
  refine ps_then ?_
  refine cs_draw_region [0, 0, 0, 1, 0, 1, 0, 0, 0, 2] [false, false, false, false, false, false, false, false, false, false] [0, 1, 2, 3, 4, 5, 6, 7, 8, 9] (by kernel_rfl) (by kernel_rfl) (by kernel_rfl) (by kernel_rfl) xQ ?_
  refine c_move rfl rfl rfl rfl (by conv => lhs; whnf) ?_
  refine c_move rfl rfl rfl rfl (by conv => lhs; whnf) ?_
  refine c_indexAddrA1 rfl rfl rfl rfl Tryz.underlying295 Tryz.sizeOf97 rfl rfl xD ?_
  first | refine c_load1 rfl rfl rfl Tryz.isAgg97 rfl (ldD rfl rfl xE xM (sub1 (by exact rfl))) ?_ | refine c_load1 rfl rfl rfl Tryz.isAgg97 rfl (ldDC (k := 0) rfl rfl xE xM (sub1 (by exact rfl))) ?_ | refine c_load1 rfl rfl rfl Tryz.isAgg97 rfl (ldDC rfl rfl xE xM (sub1 (by exact rfl))) ?_
  refine c_fieldAddr rfl rfl rfl rfl Tryz.underlying291 rfl Tryz.sizeOf3 rfl rfl ?_
  first | refine c_load1 rfl rfl rfl Tryz.isAgg3 rfl (ldD rfl rfl xE xM (sub1 (by exact rfl))) ?_ | refine c_load1 rfl rfl rfl Tryz.isAgg3 rfl (ldDC (k := 0) rfl rfl xE xM (sub1 (by exact rfl))) ?_ | refine c_load1 rfl rfl rfl Tryz.isAgg3 rfl (ldDC rfl rfl xE xM (sub1 (by exact rfl))) ?_
  refine can_forget rfl ?_
  first | refine c_subI rfl rfl rfl rfl rfl rfl xW ?_ | refine c_sub rfl rfl rfl rfl rfl rfl ?_
  refine c_shr rfl rfl rfl rfl rfl rfl (by first | decide | omega) ?_
  refine c_indexAddrA1 rfl rfl rfl rfl Tryz.underlying295 Tryz.sizeOf97 rfl rfl xD ?_
  refine c_store1 rfl rfl rfl Tryz.sizeOf97 rfl (by conv => lhs; whnf) xF rfl (by first | exact Nat.le_of_ble_eq_true rfl | (simp [ne_length, wlist_length] <;> omega)) (by (try simp only [List.set_cons_zero, List.set_cons_succ]); exact rfl) (by (try simp only [List.cons_append, List.nil_append]); exact rfl) (Or.inl rfl) ?_
  refine can_nil ?_
  refine ps_block_normal ?_
  refine ps_then ?_
  refine cs_seq_region [0, 1] rfl ?_
  first | refine c_addI rfl rfl rfl rfl rfl rfl xW ?_ | refine c_add rfl rfl rfl rfl rfl rfl ?_
  refine c_move rfl rfl rfl rfl (by conv => lhs; whnf) ?_
  refine can_nil ?_
  refine ps_rs ?_
  refine rs_succ ?_
  refine cs_seq ?_
  refine cs_seq_region [0] rfl ?_
  refine c_lss rfl rfl rfl rfl rfl rfl ?_
  refine can_nil ?_
  refine ps_then ?_
  refine cs_seq ?_
  refine cs_true rfl ?_
  refine cs_skip ?_
  refine ps_then ?_
  refine cs_seq ?_
  refine cs_block ?_
  refine cs_seq ?_
  refine cs_seq_region [0, 1] rfl ?_
  refine c_move rfl rfl rfl rfl (by conv => lhs; whnf) ?_
  refine c_assign rfl rfl rfl rfl (by conv => lhs; whnf) ?_
  refine can_nil ?_
  refine ps_then ?_
  refine cs_draw_region [0, 0, 0, 1, 0, 1, 0, 0, 0, 2] [false, false, false, false, false, false, false, false, false, false] [0, 1, 2, 3, 4, 5, 6, 7, 8, 9] (by kernel_rfl) (by kernel_rfl) (by kernel_rfl) (by kernel_rfl) xQ ?_
  refine c_move rfl rfl rfl rfl (by conv => lhs; whnf) ?_
  refine c_move rfl rfl rfl rfl (by conv => lhs; whnf) ?_
  refine c_indexAddrA1 rfl rfl rfl rfl Tryz.underlying295 Tryz.sizeOf97 rfl rfl xD ?_
  first | refine c_load1 rfl rfl rfl Tryz.isAgg97 rfl (ldD rfl rfl xE xM (sub1 (by exact rfl))) ?_ | refine c_load1 rfl rfl rfl Tryz.isAgg97 rfl (ldDC (k := 0) rfl rfl xE xM (sub1 (by exact rfl))) ?_ | refine c_load1 rfl rfl rfl Tryz.isAgg97 rfl (ldDC rfl rfl xE xM (sub1 (by exact rfl))) ?_
  refine c_fieldAddr rfl rfl rfl rfl Tryz.underlying291 rfl Tryz.sizeOf3 rfl rfl ?_
  first | refine c_load1 rfl rfl rfl Tryz.isAgg3 rfl (ldD rfl rfl xE xM (sub1 (by exact rfl))) ?_ | refine c_load1 rfl rfl rfl Tryz.isAgg3 rfl (ldDC (k := 0) rfl rfl xE xM (sub1 (by exact rfl))) ?_ | refine c_load1 rfl rfl rfl Tryz.isAgg3 rfl (ldDC rfl rfl xE xM (sub1 (by exact rfl))) ?_
  refine can_forget rfl ?_
  first | refine c_subI rfl rfl rfl rfl rfl rfl xW ?_ | refine c_sub rfl rfl rfl rfl rfl rfl ?_
  refine c_shr rfl rfl rfl rfl rfl rfl (by first | decide | omega) ?_
  refine c_indexAddrA1 rfl rfl rfl rfl Tryz.underlying295 Tryz.sizeOf97 rfl rfl xD ?_
  refine c_store1 rfl rfl rfl Tryz.sizeOf97 rfl (by conv => lhs; whnf) xF rfl (by first | exact Nat.le_of_ble_eq_true rfl | (simp [ne_length, wlist_length] <;> omega)) (by (try simp only [List.set_cons_zero, List.set_cons_succ]); exact rfl) (by (try simp only [List.cons_append, List.nil_append]); exact rfl) (Or.inl rfl) ?_
  refine can_nil ?_
  refine ps_block_normal ?_
  refine ps_then ?_
  refine cs_seq_region [0, 1] rfl ?_
  first | refine c_addI rfl rfl rfl rfl rfl rfl xW ?_ | refine c_add rfl rfl rfl rfl rfl rfl ?_
  refine c_move rfl rfl rfl rfl (by conv => lhs; whnf) ?_
  refine can_nil ?_
  refine ps_rs ?_
  refine rs_succ ?_
  refine cs_seq ?_
  refine cs_seq_region [0] rfl ?_
  refine c_lss rfl rfl rfl rfl rfl rfl ?_
  refine can_nil ?_
  refine ps_then ?_
  refine cs_seq ?_
  refine cs_true rfl ?_
  refine cs_skip ?_
  refine ps_then ?_
  refine cs_seq ?_
  refine cs_block ?_
  refine cs_seq ?_
  refine cs_seq_region [0, 1] rfl ?_
  refine c_move rfl rfl rfl rfl (by conv => lhs; whnf) ?_
  refine c_assign rfl rfl rfl rfl (by conv => lhs; whnf) ?_
  refine can_nil ?_
  refine ps_then ?_
  refine cs_draw_region [0, 0, 0, 1, 0, 1, 0, 0, 0, 2] [false, false, false, false, false, false, false, false, false, false] [0, 1, 2, 3, 4, 5, 6, 7, 8, 9] (by kernel_rfl) (by kernel_rfl) (by kernel_rfl) (by kernel_rfl) xQ ?_
  refine c_move rfl rfl rfl rfl (by conv => lhs; whnf) ?_
  refine c_move rfl rfl rfl rfl (by conv => lhs; whnf) ?_
  refine c_indexAddrA1 rfl rfl rfl rfl Tryz.underlying295 Tryz.sizeOf97 rfl rfl xD ?_
  first | refine c_load1 rfl rfl rfl Tryz.isAgg97 rfl (ldD rfl rfl xE xM (sub1 (by exact rfl))) ?_ | refine c_load1 rfl rfl rfl Tryz.isAgg97 rfl (ldDC (k := 0) rfl rfl xE xM (sub1 (by exact rfl))) ?_ | refine c_load1 rfl rfl rfl Tryz.isAgg97 rfl (ldDC rfl rfl xE xM (sub1 (by exact rfl))) ?_
  refine c_fieldAddr rfl rfl rfl rfl Tryz.underlying291 rfl Tryz.sizeOf3 rfl rfl ?_
  first | refine c_load1 rfl rfl rfl Tryz.isAgg3 rfl (ldD rfl rfl xE xM (sub1 (by exact rfl))) ?_ | refine c_load1 rfl rfl rfl Tryz.isAgg3 rfl (ldDC (k := 0) rfl rfl xE xM (sub1 (by exact rfl))) ?_ | refine c_load1 rfl rfl rfl Tryz.isAgg3 rfl (ldDC rfl rfl xE xM (sub1 (by exact rfl))) ?_
  refine can_forget rfl ?_
  first | refine c_subI rfl rfl rfl rfl rfl rfl xW ?_ | refine c_sub rfl rfl rfl rfl rfl rfl ?_
  refine c_shr rfl rfl rfl rfl rfl rfl (by first | decide | omega) ?_
  refine c_indexAddrA1 rfl rfl rfl rfl Tryz.underlying295 Tryz.sizeOf97 rfl rfl xD ?_
  refine c_store1 rfl rfl rfl Tryz.sizeOf97 rfl (by conv => lhs; whnf) xF rfl (by first | exact Nat.le_of_ble_eq_true rfl | (simp [ne_length, wlist_length] <;> omega)) (by (try simp only [List.set_cons_zero, List.set_cons_succ]); exact rfl) (by (try simp only [List.cons_append, List.nil_append]); exact rfl) (Or.inl rfl) ?_
  refine can_nil ?_
  refine ps_block_normal ?_
  refine ps_then ?_
  refine cs_seq_region [0, 1] rfl ?_
  first | refine c_addI rfl rfl rfl rfl rfl rfl xW ?_ | refine c_add rfl rfl rfl rfl rfl rfl ?_
  refine c_move rfl rfl rfl rfl (by conv => lhs; whnf) ?_
  refine can_nil ?_
  refine ps_rs ?_
  refine rs_succ ?_
  refine cs_seq ?_
  refine cs_seq_region [0] rfl ?_
  refine c_lss rfl rfl rfl rfl rfl rfl ?_
  refine can_nil ?_
  refine ps_then ?_
  refine cs_seq ?_
  refine cs_true rfl ?_
  refine cs_skip ?_
  refine ps_then ?_
  refine cs_seq ?_
  refine cs_block ?_
  refine cs_seq ?_
  refine cs_seq_region [0, 1] rfl ?_
  refine c_move rfl rfl rfl rfl (by conv => lhs; whnf) ?_
  refine c_assign rfl rfl rfl rfl (by conv => lhs; whnf) ?_
  refine can_nil ?_
  refine ps_then ?_
  refine cs_draw_region [0, 0, 0, 1, 0, 1, 0, 0, 0, 2] [false, false, false, false, false, false, false, false, false, false] [0, 1, 2, 3, 4, 5, 6, 7, 8, 9] (by kernel_rfl) (by kernel_rfl) (by kernel_rfl) (by kernel_rfl) xQ ?_
  refine c_move rfl rfl rfl rfl (by conv => lhs; whnf) ?_
  refine c_move rfl rfl rfl rfl (by conv => lhs; whnf) ?_
  refine c_indexAddrA1 rfl rfl rfl rfl Tryz.underlying295 Tryz.sizeOf97 rfl rfl xD ?_
  first | refine c_load1 rfl rfl rfl Tryz.isAgg97 rfl (ldD rfl rfl xE xM (sub1 (by exact rfl))) ?_ | refine c_load1 rfl rfl rfl Tryz.isAgg97 rfl (ldDC (k := 0) rfl rfl xE xM (sub1 (by exact rfl))) ?_ | refine c_load1 rfl rfl rfl Tryz.isAgg97 rfl (ldDC rfl rfl xE xM (sub1 (by exact rfl))) ?_
  refine c_fieldAddr rfl rfl rfl rfl Tryz.underlying291 rfl Tryz.sizeOf3 rfl rfl ?_
  first | refine c_load1 rfl rfl rfl Tryz.isAgg3 rfl (ldD rfl rfl xE xM (sub1 (by exact rfl))) ?_ | refine c_load1 rfl rfl rfl Tryz.isAgg3 rfl (ldDC (k := 0) rfl rfl xE xM (sub1 (by exact rfl))) ?_ | refine c_load1 rfl rfl rfl Tryz.isAgg3 rfl (ldDC rfl rfl xE xM (sub1 (by exact rfl))) ?_
  refine can_forget rfl ?_
  first | refine c_subI rfl rfl rfl rfl rfl rfl xW ?_ | refine c_sub rfl rfl rfl rfl rfl rfl ?_
  refine c_shr rfl rfl rfl rfl rfl rfl (by first | decide | omega) ?_
  refine c_indexAddrA1 rfl rfl rfl rfl Tryz.underlying295 Tryz.sizeOf97 rfl rfl xD ?_
  refine c_store1 rfl rfl rfl Tryz.sizeOf97 rfl (by conv => lhs; whnf) xF rfl (by first | exact Nat.le_of_ble_eq_true rfl | (simp [ne_length, wlist_length] <;> omega)) (by (try simp only [List.set_cons_zero, List.set_cons_succ]); exact rfl) (by (try simp only [List.cons_append, List.nil_append]); exact rfl) (Or.inl rfl) ?_
  refine can_nil ?_
  refine ps_block_normal ?_
  refine ps_then ?_
  refine cs_seq_region [0, 1] rfl ?_
  first | refine c_addI rfl rfl rfl rfl rfl rfl xW ?_ | refine c_add rfl rfl rfl rfl rfl rfl ?_
  refine c_move rfl rfl rfl rfl (by conv => lhs; whnf) ?_
  refine can_nil ?_
  refine ps_rs ?_
  refine rs_succ ?_
  refine cs_seq ?_
  refine cs_seq_region [0] rfl ?_
  refine c_lss rfl rfl rfl rfl rfl rfl ?_
  refine can_nil ?_
  refine ps_then ?_
  refine cs_seq ?_
  refine cs_true rfl ?_
  refine cs_skip ?_
  refine ps_then ?_
  refine cs_seq ?_
  refine cs_block ?_
  refine cs_seq ?_
  refine cs_seq_region [0, 1] rfl ?_
  refine c_move rfl rfl rfl rfl (by conv => lhs; whnf) ?_
  refine c_assign rfl rfl rfl rfl (by conv => lhs; whnf) ?_
  refine can_nil ?_
  refine ps_then ?_
  refine cs_draw_region [0, 0, 0, 1, 0, 1, 0, 0, 0, 2] [false, false, false, false, false, false, false, false, false, false] [0, 1, 2, 3, 4, 5, 6, 7, 8, 9] (by kernel_rfl) (by kernel_rfl) (by kernel_rfl) (by kernel_rfl) xQ ?_
  refine c_move rfl rfl rfl rfl (by conv => lhs; whnf) ?_
  refine c_move rfl rfl rfl rfl (by conv => lhs; whnf) ?_
  refine c_indexAddrA1 rfl rfl rfl rfl Tryz.underlying295 Tryz.sizeOf97 rfl rfl xD ?_
  first | refine c_load1 rfl rfl rfl Tryz.isAgg97 rfl (ldD rfl rfl xE xM (sub1 (by exact rfl))) ?_ | refine c_load1 rfl rfl rfl Tryz.isAgg97 rfl (ldDC (k := 0) rfl rfl xE xM (sub1 (by exact rfl))) ?_ | refine c_load1 rfl rfl rfl Tryz.isAgg97 rfl (ldDC rfl rfl xE xM (sub1 (by exact rfl))) ?_
  refine c_fieldAddr rfl rfl rfl rfl Tryz.underlying291 rfl Tryz.sizeOf3 rfl rfl ?_
  first | refine c_load1 rfl rfl rfl Tryz.isAgg3 rfl (ldD rfl rfl xE xM (sub1 (by exact rfl))) ?_ | refine c_load1 rfl rfl rfl Tryz.isAgg3 rfl (ldDC (k := 0) rfl rfl xE xM (sub1 (by exact rfl))) ?_ | refine c_load1 rfl rfl rfl Tryz.isAgg3 rfl (ldDC rfl rfl xE xM (sub1 (by exact rfl))) ?_
  refine can_forget rfl ?_
  first | refine c_subI rfl rfl rfl rfl rfl rfl xW ?_ | refine c_sub rfl rfl rfl rfl rfl rfl ?_
  refine c_shr rfl rfl rfl rfl rfl rfl (by first | decide | omega) ?_
  refine c_indexAddrA1 rfl rfl rfl rfl Tryz.underlying295 Tryz.sizeOf97 rfl rfl xD ?_
  refine c_store1 rfl rfl rfl Tryz.sizeOf97 rfl (by conv => lhs; whnf) xF rfl (by first | exact Nat.le_of_ble_eq_true rfl | (simp [ne_length, wlist_length] <;> omega)) (by (try simp only [List.set_cons_zero, List.set_cons_succ]); exact rfl) (by (try simp only [List.cons_append, List.nil_append]); exact rfl) (Or.inl rfl) ?_
  refine can_nil ?_
  refine ps_block_normal ?_
  refine ps_then ?_
  refine cs_seq_region [0, 1] rfl ?_
  first | refine c_addI rfl rfl rfl rfl rfl rfl xW ?_ | refine c_add rfl rfl rfl rfl rfl rfl ?_
  refine c_move rfl rfl rfl rfl (by conv => lhs; whnf) ?_
  refine can_nil ?_
  refine ps_rs ?_
  refine rs_succ ?_
  refine cs_seq ?_
  refine cs_seq_region [0] rfl ?_
  refine c_lss rfl rfl rfl rfl rfl rfl ?_
  refine can_nil ?_
  refine ps_then ?_
  refine cs_seq ?_
  refine cs_true rfl ?_
  refine cs_skip ?_
  refine ps_then ?_
  refine cs_seq ?_
  refine cs_block ?_
  refine cs_seq ?_
  refine cs_seq_region [0, 1] rfl ?_
  refine c_move rfl rfl rfl rfl (by conv => lhs; whnf) ?_
  refine c_assign rfl rfl rfl rfl (by conv => lhs; whnf) ?_
  refine can_nil ?_
  refine ps_then ?_
  refine cs_draw_region [0, 0, 0, 1, 0, 1, 0, 0, 0, 2] [false, false, false, false, false, false, false, false, false, false] [0, 1, 2, 3, 4, 5, 6, 7, 8, 9] (by kernel_rfl) (by kernel_rfl) (by kernel_rfl) (by kernel_rfl) xQ ?_
  refine c_move rfl rfl rfl rfl (by conv => lhs; whnf) ?_
  refine c_move rfl rfl rfl rfl (by conv => lhs; whnf) ?_
  refine c_indexAddrA1 rfl rfl rfl rfl Tryz.underlying295 Tryz.sizeOf97 rfl rfl xD ?_
  first | refine c_load1 rfl rfl rfl Tryz.isAgg97 rfl (ldD rfl rfl xE xM (sub1 (by exact rfl))) ?_ | refine c_load1 rfl rfl rfl Tryz.isAgg97 rfl (ldDC (k := 0) rfl rfl xE xM (sub1 (by exact rfl))) ?_ | refine c_load1 rfl rfl rfl Tryz.isAgg97 rfl (ldDC rfl rfl xE xM (sub1 (by exact rfl))) ?_
  refine c_fieldAddr rfl rfl rfl rfl Tryz.underlying291 rfl Tryz.sizeOf3 rfl rfl ?_
  first | refine c_load1 rfl rfl rfl Tryz.isAgg3 rfl (ldD rfl rfl xE xM (sub1 (by exact rfl))) ?_ | refine c_load1 rfl rfl rfl Tryz.isAgg3 rfl (ldDC (k := 0) rfl rfl xE xM (sub1 (by exact rfl))) ?_ | refine c_load1 rfl rfl rfl Tryz.isAgg3 rfl (ldDC rfl rfl xE xM (sub1 (by exact rfl))) ?_
  refine can_forget rfl ?_
  first | refine c_subI rfl rfl rfl rfl rfl rfl xW ?_ | refine c_sub rfl rfl rfl rfl rfl rfl ?_
  refine c_shr rfl rfl rfl rfl rfl rfl (by first | decide | omega) ?_
  refine c_indexAddrA1 rfl rfl rfl rfl Tryz.underlying295 Tryz.sizeOf97 rfl rfl xD ?_
  refine c_store1 rfl rfl rfl Tryz.sizeOf97 rfl (by conv => lhs; whnf) xF rfl (by first | exact Nat.le_of_ble_eq_true rfl | (simp [ne_length, wlist_length] <;> omega)) (by (try simp only [List.set_cons_zero, List.set_cons_succ]); exact rfl) (by (try simp only [List.cons_append, List.nil_append]); exact rfl) (Or.inl rfl) ?_
  refine can_nil ?_
  refine ps_block_normal ?_
  refine ps_then ?_
  refine cs_seq_region [0, 1] rfl ?_
  first | refine c_addI rfl rfl rfl rfl rfl rfl xW ?_ | refine c_add rfl rfl rfl rfl rfl rfl ?_
  refine c_move rfl rfl rfl rfl (by conv => lhs; whnf) ?_
  refine can_nil ?_
  refine ps_rs ?_
  refine rs_succ ?_
  refine cs_seq ?_
  refine cs_seq_region [0] rfl ?_
  refine c_lss rfl rfl rfl rfl rfl rfl ?_
  refine can_nil ?_
  refine ps_then ?_
  refine cs_seq ?_
  refine cs_true rfl ?_
  refine cs_skip ?_
  refine ps_then ?_
  refine cs_seq ?_
  refine cs_block ?_
  refine cs_seq ?_
  refine cs_seq_region [0, 1] rfl ?_
  refine c_move rfl rfl rfl rfl (by conv => lhs; whnf) ?_
  refine c_assign rfl rfl rfl rfl (by conv => lhs; whnf) ?_
  refine can_nil ?_
  refine ps_then ?_
  refine cs_draw_region [0, 0, 0, 1, 0, 1, 0, 0, 0, 2] [false, false, false, false, false, false, false, false, false, false] [0, 1, 2, 3, 4, 5, 6, 7, 8, 9] (by kernel_rfl) (by kernel_rfl) (by kernel_rfl) (by kernel_rfl) xQ ?_
  refine c_move rfl rfl rfl rfl (by conv => lhs; whnf) ?_
  refine c_move rfl rfl rfl rfl (by conv => lhs; whnf) ?_
  refine c_indexAddrA1 rfl rfl rfl rfl Tryz.underlying295 Tryz.sizeOf97 rfl rfl xD ?_
  first | refine c_load1 rfl rfl rfl Tryz.isAgg97 rfl (ldD rfl rfl xE xM (sub1 (by exact rfl))) ?_ | refine c_load1 rfl rfl rfl Tryz.isAgg97 rfl (ldDC (k := 0) rfl rfl xE xM (sub1 (by exact rfl))) ?_ | refine c_load1 rfl rfl rfl Tryz.isAgg97 rfl (ldDC rfl rfl xE xM (sub1 (by exact rfl))) ?_
  refine c_fieldAddr rfl rfl rfl rfl Tryz.underlying291 rfl Tryz.sizeOf3 rfl rfl ?_
  first | refine c_load1 rfl rfl rfl Tryz.isAgg3 rfl (ldD rfl rfl xE xM (sub1 (by exact rfl))) ?_ | refine c_load1 rfl rfl rfl Tryz.isAgg3 rfl (ldDC (k := 0) rfl rfl xE xM (sub1 (by exact rfl))) ?_ | refine c_load1 rfl rfl rfl Tryz.isAgg3 rfl (ldDC rfl rfl xE xM (sub1 (by exact rfl))) ?_
  refine can_forget rfl ?_
  first | refine c_subI rfl rfl rfl rfl rfl rfl xW ?_ | refine c_sub rfl rfl rfl rfl rfl rfl ?_
  refine c_shr rfl rfl rfl rfl rfl rfl (by first | decide | omega) ?_
  refine c_indexAddrA1 rfl rfl rfl rfl Tryz.underlying295 Tryz.sizeOf97 rfl rfl xD ?_
  refine c_store1 rfl rfl rfl Tryz.sizeOf97 rfl (by conv => lhs; whnf) xF rfl (by first | exact Nat.le_of_ble_eq_true rfl | (simp [ne_length, wlist_length] <;> omega)) (by (try simp only [List.set_cons_zero, List.set_cons_succ]); exact rfl) (by (try simp only [List.cons_append, List.nil_append]); exact rfl) (Or.inl rfl) ?_
  refine can_nil ?_
  refine ps_block_normal ?_
  refine ps_then ?_
  refine cs_seq_region [0, 1] rfl ?_
  first | refine c_addI rfl rfl rfl rfl rfl rfl xW ?_ | refine c_add rfl rfl rfl rfl rfl rfl ?_
  refine c_move rfl rfl rfl rfl (by conv => lhs; whnf) ?_
  refine can_nil ?_
  refine ps_rs ?_
  refine rs_succ ?_
  refine cs_seq ?_
  refine cs_seq_region [0] rfl ?_
  refine c_lss rfl rfl rfl rfl rfl rfl ?_
  refine can_nil ?_
  refine ps_then ?_
  refine cs_seq ?_
  refine cs_false rfl ?_
  refine cs_exit ?_
  refine ps_then_exit ?_
  refine ps_then_exit ?_
  refine ps_block_here ?_
  refine ps_then ?_
  refine cs_seq ?_
  refine cs_seq_region [0, 1] rfl ?_
  first | refine c_loadN rfl rfl rfl Tryz.isAgg295 Tryz.sizeOf295 rfl (ldS rfl rfl xM subAll) (by first | (simp [ne_length, wlist_length]; done) | rfl) ?_ | refine c_loadN (cs := [_, _, _, _, _, _, _, _]) rfl rfl rfl Tryz.isAgg295 Tryz.sizeOf295 rfl (ldS rfl rfl xM (subN (m := 8) (by exact rfl))) rfl ?_ | refine c_loadN rfl rfl rfl Tryz.isAgg295 Tryz.sizeOf295 rfl (ldSC (k := 0) rfl rfl xM subAll) (by first | (simp [ne_length, wlist_length]; done) | rfl) ?_
  refine c_storeB rfl rfl rfl Tryz.sizeOf295 rfl rfl xF (by first | (simp [ne_length, wlist_length]; done) | rfl) (by first | (simp [ne_length, wlist_length]; done) | rfl) (by first | exact ne_one _ _ | rfl | simp [Value.oneCell']) (by (try simp only [List.cons_append, List.nil_append]); exact rfl) (Or.inl rfl) ?_
  refine can_nil ?_
  refine ps_then ?_
  refine cs_ret ?_
  apply ps_res1 rfl Tryz.results281 (res_cellN Tryz.isAgg295 Tryz.sizeOf295 rfl xM (by first | (simp [ne_length, wlist_length]; done) | rfl))
  · exact ⟨rfl, rfl, rfl⟩
  · exact (.mk xS xS)

theorem of256_ok (w0 : World) (sps : List Sp) (rs : List Fa) : FnOk Tryz.prog 216 #[.int .i64 256] w0 sps rs fun r s q => r = .tuple #[.agg shv32.toArray, .bool true] ∧ sps = s ∧ rs = q := by
  refine fn_enter Tryz.func216 rfl Tryz.ntmps216 rfl ?_
  refine cs_seq ?_
  refine cs_seq_region [0, 1] rfl ?_
  refine c_alloc rfl rfl rfl rfl Tryz.zeroValue291 rfl (fun _ => Or.inl rfl) (fun g2 => ?_)
  refine c_assign rfl rfl rfl rfl (by conv => lhs; whnf) ?_
  refine can_nil ?_
  refine ps_then ?_
  refine cs_seq ?_
  refine cs_seq ?_
  refine cs_seq_region [0] rfl ?_
  refine c_move rfl rfl rfl rfl (by conv => lhs; whnf) ?_
  refine can_nil ?_
  refine ps_then ?_
  refine cs_block ?_
  refine cs_seq ?_
  refine cs_seq_region [0, 1] rfl ?_
  refine c_eql rfl rfl rfl rfl rfl rfl ?_
  refine c_assign rfl rfl rfl rfl (by conv => lhs; whnf) ?_
  refine can_nil ?_
  refine ps_then ?_
  refine cs_cond rfl (fun _ => ?_) (fun hc1 => Bool.noConfusion (show false = true from hc1.symm.trans (rfl)))
  refine cs_seq ?_
  refine cs_seq_region [0, 1, 2] rfl ?_
  refine c_call rfl rfl rfl rfl Tryz.call278 (narrow_ok w0 _ _) (by exact rfl) (fun _ _ _ _ => Or.inl rfl) ?_
  rintro _ _ _ ⟨rfl, rfl, rfl⟩
  refine c_storeB rfl rfl rfl Tryz.sizeOf291 rfl rfl xF (by first | (simp [ne_length, wlist_length]; done) | rfl) (by first | (simp [ne_length, wlist_length]; done) | rfl) (by first | exact ne_one _ _ | rfl | simp [Value.oneCell']) (by (try simp only [List.cons_append, List.nil_append]); exact rfl) (Or.inl rfl) ?_
  refine c_assign rfl rfl rfl rfl (by conv => lhs; whnf) ?_
  refine can_nil ?_
  refine ps_then ?_
  refine cs_ret ?_
  refine ps_block_ret ?_
  refine ps_then_ret ?_
  apply ps_res2 rfl Tryz.results216 (res_cellN Tryz.isAgg291 Tryz.sizeOf291 rfl xM (by first | (simp [ne_length, wlist_length]; done) | rfl)) (res_tmp rfl)
  · exact ⟨rfl, rfl, rfl⟩
  · exact (.mk xS xS)

theorem block32_ok (w0 : World) (sps : List Sp) (rs : List Fa) : FnOk Tryz.prog 282 #[.agg shv32.toArray] w0 sps rs fun r s q => r = .int .i64 64 ∧ sps = s ∧ rs = q := by
  refine fn_enter Tryz.func282 rfl Tryz.ntmps282 rfl ?_
  refine cs_seq ?_
  refine cs_seq_region [0, 1] rfl ?_
  refine c_box rfl rfl rfl rfl rfl (fun _ => Or.inl rfl) (fun g1 => ?_)
  refine c_assign rfl rfl rfl rfl (by conv => lhs; whnf) ?_
  refine can_nil ?_
  refine ps_then ?_
  refine cs_seq ?_
  refine cs_seq_region [0, 1, 2, 3] rfl ?_
  refine c_fieldAddr rfl rfl rfl rfl Tryz.underlying291 rfl Tryz.sizeOf3 rfl rfl ?_
  first | refine c_load1 rfl rfl rfl Tryz.isAgg3 rfl (ldS rfl rfl xM (sub1 (by exact rfl))) ?_ | refine c_load1 rfl rfl rfl Tryz.isAgg3 rfl (ldSC (k := 0) rfl rfl xM (sub1 (by exact rfl))) ?_ | refine c_load1 rfl rfl rfl Tryz.isAgg3 rfl (ldSC rfl rfl xM (sub1 (by exact rfl))) ?_
  first | refine c_mulI rfl rfl rfl rfl rfl rfl xW ?_ | refine c_mul rfl rfl rfl rfl rfl rfl ?_
  refine c_assign rfl rfl rfl rfl (by conv => lhs; whnf) ?_
  refine can_nil ?_
  refine ps_then ?_
  refine cs_ret ?_
  apply ps_end1 rfl Tryz.results282 (by conv => lhs; whnf)
  · exact ⟨rfl, rfl, rfl⟩
  · exact (.mk xS xS)

end Go.Proofs.YtmodmjekhlnjpaaGreatDoor
namespace Go.Proofs.YtmodmjekhlnjpaaGreatDoor
open Go.RowKit Lf
theorem opn_field {α : Type} {d : Rep α} {φ : α → Prop} {P : Program} {W : World} {t : TypeId} {fs : Array Field} {H : Type} {enc : TypeId × Value → H} {held : Bool} {fuel : Nat} {cs : List Value} {x : DataW H × List MemPlace} (ht : P.underlying t = some (.struct fs)) (i : Nat) {f : Field} (hf : fs[i]? = some f)
    (he : Opn P W f.type d φ) (h : DataW.trod enc P W 0 (fun _ => true) held fuel t cs = some x) (hw : ∀ n ∈ x.1.weights P t, n ≤ 140737488355328) : ∃ y, d.K (all W) y ((cs.drop f.offset).take (P.cellsOf f.type)) ∧ φ y := by
  obtain ⟨xs, n, rfl, rfl, hl, hxs, hfs⟩ := DataW.trod_struct ht h
  have hi := (Array.getElem?_eq_some_iff.1 hf).1
  have h1 := hfs i f hf
  rw [List.getElem?_eq_getElem (by omega)] at h1
  refine he.2 enc held n _ _ h1 fun m hm => hw m ?_
  simp only [DataW.weights, ht]
  refine DataW.weights_mem_each (j := i) (t := f.type) (d := (xs[i]'(by omega)).1) ?_ ?_ m hm
  · rw [List.getElem?_map, Array.getElem?_toList, hf]; rfl
  · rw [List.getElem?_map, List.getElem?_eq_getElem (by omega)]; rfl
theorem laid_nums {P : Program} {W : World} {t e : TypeId} {n : Nat} {k : IntKind} {H : Type} {enc : TypeId × Value → H} {spare : Nat → Bool} {held : Bool} {fuel : Nat} {cs : List Value} {nums : List Int} {p : List MemPlace} (ht : P.underlying t = some (.array n e)) (he : P.underlying e = some (.int k)) (hc : P.cellsOf e = 1) (hct : P.cellsOf t = n)
    (h : DataW.trod enc P W 0 spare held fuel t cs = some (.agg (nums.map fun z => .lit (.int k z)), p)) : cs = nums.map fun z => .int k z := by
  obtain ⟨xs, m, rfl, hx, hl, hxs, hfs⟩ := DataW.trod_array ht h
  have h1 : xs.map (·.1) = nums.map fun z => .lit (.int k z) := by
    have := congrArg Prod.fst hx
    simp only [DataW.agg.injEq] at this
    exact this.symm
  have hln : xs.length = nums.length := by simpa using congrArg List.length h1
  apply List.ext_getElem?
  intro i
  rcases Nat.lt_or_ge i n with hi | hi
  · have h2 := hfs i hi
    rw [List.getElem?_eq_getElem (by omega), hc, Nat.mul_one] at h2
    obtain ⟨z, h3, h4, -⟩ := DataW.trod_int he h2
    have h5 : cs[i]? = some (.int k z) := by
      have := congrArg (fun l => l[0]?) h3
      simpa using this
    have h6 : (xs.map (·.1))[i]? = some (.lit (.int k z)) := by
      rw [List.getElem?_map, List.getElem?_eq_getElem (by omega)]
      simp only [Option.map_some, h4]
    rw [h1, List.getElem?_map] at h6
    rw [h5, List.getElem?_map]
    cases hq : nums[i]? with
    | none => rw [hq] at h6; cases h6
    | some y =>
      rw [hq] at h6
      simp only [Option.map_some, Option.some.injEq, DataW.lit.injEq, Lit.int.injEq, true_and] at h6
      simp [h6]
  · rw [List.getElem?_eq_none (by omega), List.getElem?_eq_none (by rw [List.length_map]; omega)]
theorem cl_of_var {P : Program} {W : World} {nm : String} {g : Nat} {cs : Array Value} (hg : P.globalNamed nm = some g) (h : W.var? P nm = some cs) : (Cl g 0 cs.toList).P (all W) := by
  unfold World.var? at h
  rw [hg] at h
  simp only [Option.bind_some] at h
  split at h
  · rename_i c t fz hq
    cases h
    exact ⟨cs, t, fz, ⟨trivial, hq⟩, fun j u hu => by rw [Nat.zero_add]; rw [Array.getElem?_toList] at hu; exact hu⟩
  · cases h
theorem laid_cl {P : Program} {W : World} {nm : String} {g : Nat} {t0 e : TypeId} {n : Nat} {k : IntKind} {nums : List Int} {r : List (String × DataW Unit)} {ps : List MemPlace}
    (hg : P.globalNamed nm = some g) (hgt : (P.globals[g]?).map (·.type) = some t0) (ht : P.underlying t0 = some (.array n e)) (he : P.underlying e = some (.int k)) (hc : P.cellsOf e = 1) (hct : P.cellsOf t0 = n)
    (h : DataW.LaidVars P W ((nm, .agg (nums.map fun z => .lit (.int k z))) :: r) ps) : (Cl g 0 (nums.map fun z => .int k z)).P (all W) ∧ ∃ q, DataW.LaidVars P W r q := by
  obtain ⟨g', t, cs, fuel, p, q, h1, h2, h3, h4, h5, -⟩ := h
  rw [hg] at h1
  cases h1
  rw [hgt] at h2
  cases h2
  refine ⟨?_, q, h5⟩
  rw [← laid_nums ht he hc hct h4]
  exact cl_of_var hg h3
theorem laid_two {W : World} (h : laidMetH Tryz.prog Rows.pressAnswersRow.laid W) : (Cl 8 0 constsV).P (all W) ∧ (Cl 7 0 startsV).P (all W) := by
  rw [MakeChecks.laidMetH_plain _ _ _ (by kernel_rfl)] at h
  obtain ⟨ps, h, -⟩ := h
  have e1 : Rows.pressAnswersRow.laid = ("imprimatur/sha2.constants", .agg ((constN.map fun (n : Nat) => (n : Int)).map fun z => .lit (.int .u64 z))) :: ("imprimatur/sha2.starts", .agg ((startN.map fun (n : Nat) => (n : Int)).map fun z => .lit (.int .u64 z))) :: Rows.pressAnswersRow.laid.drop 2 := by kernel_rfl
  rw [e1] at h
  obtain ⟨h1, q, h⟩ := laid_cl (g := 8) (t0 := 378) (e := 97) (n := 80) (by kernel_rfl) (by kernel_rfl) (by kernel_rfl) (by kernel_rfl) (by kernel_rfl) (by kernel_rfl) h
  obtain ⟨h2, q, h⟩ := laid_cl (g := 7) (t0 := 295) (e := 97) (n := 8) (by kernel_rfl) (by kernel_rfl) (by kernel_rfl) (by kernel_rfl) (by kernel_rfl) (by kernel_rfl) h
  rw [List.map_map] at h1 h2
  exact ⟨h1, h2⟩
end Go.Proofs.YtmodmjekhlnjpaaGreatDoor
