/- The proof of PressAnswers, part 1 of 14 (texts joined and shortened by a program: Base SSt SFlow SOps SRules SRules2 SRules3 SRules4 SLoop SNat SRes SByt ShaS ShaW SMore Lift Lift2 Lift3 Open Sha1 Sha2 Sha3). -/
import Derived.WalkKit
import Derived.Handy
import Derived.WalkSpells
import Derived.Lib.Hide
import Derived.Deep.AppendLies
import Derived.Laws.AppendOwnNone
import Derived.OrdersHeld
import Derived.Deep.RegionHeld3
import Derived.Laws.Slices
import Derived.Laws.ResultCell
import Derived.Laws.Cells
import Derived.Laws.CopyRow
import Derived.Deep.MidRow
import Derived.Laws.Small
import Derived.Laws.Pointers
import Derived.Laws.Strings
import Derived.Laws.MakeOwn
import Derived.LoopN
import Derived.Laws.BytesArg
import Derived.OpenShut
import Derived.ChangeArms
import Derived.DataReads
import Derived.SizedLaws
import Derived.Test.YtmodmjekhlnjpaaGreatDoorProg
import Derived.KernelRfl
import Derived.LaidMore
import Derived.MakeChecks
import Derived.Recover
import Derived.Tactics2
import Derived.ProofKit
import Derived.Lay
import Derived.Carry
import Derived.ChangeOld
import Derived.ShutString
import Derived.Stop.Joined
import Derived.JoinedOf
import Derived.SevenTiedAt
namespace Go.Proofs.YtmodmjekhlnjpaaGreatDoor
theorem xE {T : Prop} (h : T := by first | exact .nil | ((refine .mk ?_ ?_ <;> (repeat (first | exact .refl | apply Suf.cons))); done) | (refine .prt ?_ ?_ <;> (repeat (first | exact .nil | exact .refl | apply Prt.keep | apply Prt.skip | apply Suf.cons)))) : T := h
theorem xM {T : Prop} (h : T := by repeat (first | exact .head _ | assumption | apply List.Mem.tail)) : T := h
theorem xS {T : Prop} (h : T := by repeat (first | exact .refl | apply Suf.cons)) : T := h
theorem xW {T : Prop} (h : T := by first | decide | (rw [IntKind.wrap_i64]; omega) | (unfold IntKind.wrap; simp [IntKind.bits, IntKind.signed]; omega)) : T := h
theorem xD {T : Prop} (h : T := by first | decide | exact ⟨by omega, by omega⟩ | (constructor <;> simp <;> omega)) : T := h
theorem xF {T : Prop} (h : T := by repeat (first | exact Foc.here | apply Foc.there)) : T := h
theorem xA {T : Prop} (h : T := by repeat (first | with_reducible exact Mix.refl | with_reducible exact Mix.base | with_reducible refine Mix.upd rfl ?_ | with_reducible refine Mix.upds rfl ?_ | with_reducible refine Mix.mix rfl ?_)) : T := h
theorem xO {T : Prop} (h : T := by first | assumption | exact mod_lt' _ _ | exact compl_lt _ _ | exact Nat.and_lt_two_pow _ (by assumption) | exact Nat.xor_lt_two_pow (Nat.and_lt_two_pow _ (by assumption)) (Nat.and_lt_two_pow _ (by assumption))) : T := h
theorem xQ {T : Prop} (h : T := by repeat (first | exact qok_body | exact qok_bodyN | refine qok_then ?_ | refine qok_block ?_)) : T := h
end Go.Proofs.YtmodmjekhlnjpaaGreatDoor
namespace Go.Proofs.YtmodmjekhlnjpaaGreatDoor
open Go.RowKit

/-- A part of a heap: block k is o. -/
abbrev Hp := Nat → Obj → Prop
/-- The blocks of a world that are let. -/
def hp (w : World) (ok : Hp) : Hp := fun k o => ok k o ∧ w.heap[k]? = some o
def allO : Hp := fun _ _ => True
def isT (T : List Nat) (o : Obj) : Prop := ∃ cells t fz, o = .cells cells t fz ∧ t ∈ T
def tyO (T : List Nat) : Hp := fun _ o => isT T o

theorem lt_heap {w : World} {k : Nat} {o : Obj} (h : w.heap[k]? = some o) : k < w.heap.size := (Array.getElem?_eq_some_iff.1 h).1
theorem hp_move {w w' : World} {ok ok' : Hp} (h : ∀ k o, ok k o → w.heap[k]? = some o → ok' k o ∧ w'.heap[k]? = some o) : ∀ k o, hp w ok k o → hp w' ok' k o :=
  fun k o ⟨h1, h2⟩ => h k o h1 h2
theorem hp_imp {w : World} {ok ok' : Hp} (h : ∀ k o, ok k o → ok' k o) : ∀ k o, hp w ok k o → hp w ok' k o := fun k o ⟨h1, h2⟩ => ⟨h k o h1, h2⟩
theorem hp_all {w : World} {ok : Hp} : ∀ k o, hp w ok k o → hp w allO k o := fun _ _ h => ⟨trivial, h.2⟩

/-- How data of a Lean type lie in cells. -/
structure Rep (α : Type) where
  sz : Nat
  K : Hp → α → List Value → Prop
  len : ∀ {h x cs}, K h x cs → cs.length = sz
  one : ∀ {h x cs}, K h x cs → ∀ u ∈ cs, u.oneCell' = true
  mono : ∀ {h h' : Hp} {x cs}, (∀ k o, h k o → h' k o) → K h x cs → K h' x cs

/-- Rows of elements in cells, one behind the other. -/
def Reps {α : Type} (d : Rep α) (h : Hp) (xs : List α) (cs : List Value) : Prop :=
  cs.length = xs.length * d.sz ∧ ∀ j x, xs[j]? = some x → d.K h x ((cs.drop (j * d.sz)).take d.sz)

namespace Reps
variable {α : Type} {d : Rep α} {h h' : Hp} {xs : List α} {cs : List Value}
theorem nil (d : Rep α) (h : Hp) : Reps d h [] [] := ⟨by simp, fun j x hj => by simp at hj⟩
theorem mono (hh : ∀ k o, h k o → h' k o) (r : Reps d h xs cs) : Reps d h' xs cs := ⟨r.1, fun j x hj => d.mono hh (r.2 j x hj)⟩
theorem snoc {x : α} {c : List Value} (r : Reps d h xs cs) (hx : d.K h x c) : Reps d h (xs ++ [x]) (cs ++ c) := by
  have hc := d.len hx
  refine ⟨by rw [List.length_append, r.1, hc, List.length_append, List.length_singleton, Nat.add_mul, Nat.one_mul], fun j q hq => ?_⟩
  rcases Nat.lt_or_ge j xs.length with hj | hj
  · rw [List.getElem?_append_left hj] at hq
    have h1 : j * d.sz + d.sz ≤ cs.length := by rw [r.1, ← Nat.succ_mul]; exact Nat.mul_le_mul_right _ hj
    rw [List.drop_append_of_le_length (by omega), List.take_append_of_le_length (by rw [List.length_drop]; omega)]
    exact r.2 j q hq
  · have hj' : j = xs.length := by
      have := (List.getElem?_eq_some_iff.1 hq).1
      rw [List.length_append, List.length_singleton] at this
      omega
    subst hj'
    have hq' : x = q := by simpa using hq
    subst hq'
    rw [← r.1, List.drop_left, ← hc, List.take_length]
    exact hx
theorem app {ys : List α} {cs' : List Value} (r : Reps d h xs cs) (r' : Reps d h ys cs') : Reps d h (xs ++ ys) (cs ++ cs') := by
  refine ⟨by rw [List.length_append, r.1, r'.1, List.length_append, Nat.add_mul], fun j q hq => ?_⟩
  rcases Nat.lt_or_ge j xs.length with hj | hj
  · rw [List.getElem?_append_left hj] at hq
    have h1 : j * d.sz + d.sz ≤ cs.length := by rw [r.1, ← Nat.succ_mul]; exact Nat.mul_le_mul_right _ hj
    rw [List.drop_append_of_le_length (by omega), List.take_append_of_le_length (by rw [List.length_drop]; omega)]
    exact r.2 j q hq
  · rw [List.getElem?_append_right hj] at hq
    have e : j * d.sz = cs.length + (j - xs.length) * d.sz := by rw [r.1, ← Nat.add_mul]; congr 1; omega
    rw [e, List.drop_append, List.drop_eq_nil_of_le (by omega), List.nil_append]
    simpa using r'.2 _ q hq
theorem take (r : Reps d h xs cs) (n : Nat) : Reps d h (xs.take n) (cs.take (n * d.sz)) := by
  refine ⟨by rw [List.length_take, List.length_take, r.1]; rcases Nat.le_total n xs.length with hn | hn
             · rw [Nat.min_eq_left hn, Nat.min_eq_left (Nat.mul_le_mul_right _ hn)]
             · rw [Nat.min_eq_right hn, Nat.min_eq_right (Nat.mul_le_mul_right _ hn)], fun j q hq => ?_⟩
  rw [List.getElem?_take] at hq
  split at hq
  · rename_i hj
    have hk := r.2 j q hq
    have h1 : j * d.sz + d.sz ≤ n * d.sz := by rw [← Nat.succ_mul]; exact Nat.mul_le_mul_right _ hj
    rw [List.drop_take, List.take_take, Nat.min_eq_left (by omega)]
    exact hk
  · cases hq
theorem drop (r : Reps d h xs cs) (n : Nat) : Reps d h (xs.drop n) (cs.drop (n * d.sz)) := by
  refine ⟨by rw [List.length_drop, List.length_drop, r.1, Nat.sub_mul], fun j q hq => ?_⟩
  rw [List.getElem?_drop] at hq
  have hk := r.2 _ q hq
  rw [List.drop_drop, ← Nat.add_mul]
  exact hk
theorem one (r : Reps d h xs cs) : ∀ u ∈ cs, u.oneCell' = true := by
  intro u hu
  obtain ⟨i, hi, rfl⟩ := List.mem_iff_getElem.1 hu
  have hs : 0 < d.sz := by
    rcases Nat.eq_zero_or_pos d.sz with h0 | h0
    · rw [r.1, h0] at hi; simp at hi
    · exact h0
  have hj : i / d.sz < xs.length := by
    rw [Nat.div_lt_iff_lt_mul hs]; rw [r.1] at hi; exact hi
  have hk := r.2 (i / d.sz) _ (List.getElem?_eq_getElem hj)
  refine d.one hk _ ?_
  rw [List.mem_iff_getElem?]
  refine ⟨i % d.sz, ?_⟩
  rw [List.getElem?_take, if_pos (Nat.mod_lt _ hs), List.getElem?_drop, Nat.mul_comm, Nat.div_add_mod]
  exact List.getElem?_eq_getElem hi
end Reps

/-- A slice's address and length: its cells read as xs. -/
def SL {α : Type} (d : Rep α) (h : Hp) (A : Option Addr) (xs : List α) : Prop :=
  xs.length ≤ 9223372036854775807 ∧ (xs ≠ [] → ∃ g off cells e fz cs, A = some ⟨g, off, none⟩ ∧ h g (.cells cells e fz) ∧ Reps d h xs cs ∧ ∀ i u, cs[i]? = some u → cells[off + i]? = some u)

theorem SL.mono {α : Type} {d : Rep α} {h h' : Hp} {A : Option Addr} {xs : List α} (hh : ∀ k o, h k o → h' k o) (s : SL d h A xs) : SL d h' A xs := by
  refine ⟨s.1, fun hx => ?_⟩
  obtain ⟨g, off, cells, e, fz, cs, h1, h2, h3, h4⟩ := s.2 hx
  exact ⟨g, off, cells, e, fz, cs, h1, hh _ _ h2, h3.mono hh, h4⟩
theorem SL.nil {α : Type} (d : Rep α) (h : Hp) (A : Option Addr) : SL d h A [] := ⟨by simp, fun hx => absurd rfl hx⟩

/-- What a slice value reads as. -/
def SV {α : Type} (d : Rep α) (h : Hp) (v : Value) (xs : List α) : Prop := ∃ A c, v = .slice A xs.length c ∧ xs.length ≤ c ∧ (A = none → c = 0) ∧ SL d h A xs
theorem SV.mono {α : Type} {d : Rep α} {h h' : Hp} {v : Value} {xs : List α} (hh : ∀ k o, h k o → h' k o) (s : SV d h v xs) : SV d h' v xs := by
  obtain ⟨A, c, h1, h2, h3, h4⟩ := s
  exact ⟨A, c, h1, h2, h3, h4.mono hh⟩
theorem SV.shape {α : Type} {d : Rep α} {h : Hp} {v : Value} {xs : List α} (s : SV d h v xs) : ∃ A c, v = .slice A xs.length c := by
  obtain ⟨A, c, h1, _⟩ := s
  exact ⟨A, c, h1⟩
theorem SV.nil {α : Type} (d : Rep α) (h : Hp) : SV d h (.slice none 0 0) [] := ⟨none, 0, rfl, Nat.le_refl _, fun _ => rfl, SL.nil _ _ _⟩

namespace Rep
variable {α β : Type}
def scalar (enc : α → Value) (h1 : ∀ x, (enc x).oneCell' = true) (ok : α → Prop) : Rep α where
  sz := 1
  K := fun _ x cs => cs = [enc x] ∧ ok x
  len := fun h => by rw [h.1]; rfl
  one := fun h u hu => by rw [h.1] at hu; rw [List.mem_singleton.1 hu]; exact h1 _
  mono := fun _ h => h
/-- An integer of a kind, within the kind's range. -/
def int (k : IntKind) : Rep Int := scalar (Value.int k) (fun _ => rfl) (fun n => (Lit.int k n).wf = true)
def bool : Rep Bool := scalar Value.bool (fun _ => rfl) (fun _ => True)
def string : Rep ByteArray := scalar Value.string (fun _ => rfl) (fun _ => True)
def slice (d : Rep α) : Rep (List α) where
  sz := 1
  K := fun h xs cs => ∃ v, cs = [v] ∧ SV d h v xs
  len := by rintro h x cs ⟨v, rfl, _⟩; rfl
  one := by rintro h x cs ⟨v, rfl, A, c, rfl, _⟩ u hu; rw [List.mem_singleton.1 hu]; rfl
  mono := by rintro h h' x cs hh ⟨v, rfl, hs⟩; exact ⟨v, rfl, hs.mono hh⟩
end Rep

abbrev u8 : Rep Int := Rep.int .u8
/-- All of a world's heap. -/
abbrev all (w : World) : Hp := hp w allO
/-- What a slice value reads as in a world. -/
abbrev Reads {α : Type} (d : Rep α) (w : World) (v : Value) (xs : List α) : Prop := SV d (all w) v xs

theorem below_hp {w w' : World} {ok : Hp} (hb : Below w.heap.size w w') : ∀ k o, hp w ok k o → hp w' ok k o := hp_move fun k o h hk => ⟨h, by rw [hb.block k (lt_heap hk)]; exact hk⟩
theorem alloc_hp {w : World} {ok : Hp} (o : Obj) : ∀ k o', hp w ok k o' → hp (w.alloc o) ok k o' := hp_move fun k o' h hk => ⟨h, by rw [Below.heap_alloc w o k (lt_heap hk)]; exact hk⟩
theorem SV.below {α : Type} {d : Rep α} {w w' : World} {v : Value} {xs : List α} {ok : Hp} (s : SV d (hp w ok) v xs) (hb : Below w.heap.size w w') : SV d (hp w' ok) v xs := s.mono (below_hp hb)
theorem SV.alloc {α : Type} {d : Rep α} {w : World} {v : Value} {xs : List α} {ok : Hp} (s : SV d (hp w ok) v xs) (o : Obj) : SV d (hp (w.alloc o) ok) v xs := s.mono (alloc_hp o)
theorem SV.reads {α : Type} {d : Rep α} {w : World} {v : Value} {xs : List α} {ok : Hp} (s : SV d (hp w ok) v xs) : Reads d w v xs := s.mono hp_all

/-- The cells of what reads as a row. -/
theorem SL.cells {α : Type} {d : Rep α} {w : World} {ok : Hp} {A : Option Addr} {xs : List α} (s : SL d (hp w ok) A xs) (hx : xs ≠ []) :
    ∃ g off cs, A = some ⟨g, off, none⟩ ∧ Reps d (hp w ok) xs cs ∧ ∀ i u, cs[i]? = some u → w.cell? ⟨g, off + i, none⟩ = some u := by
  obtain ⟨g, off, cells, e, fz, cs, h1, h2, h3, h4⟩ := s.2 hx
  refine ⟨g, off, cs, h1, h3, fun i u hu => ?_⟩
  simp only [World.cell?, h2.2]
  exact h4 i u hu

/-- THE CALL's OWN ROW: it may be appended to; its elements hang on let blocks other than its own. -/
def Own {α : Type} (d : Rep α) (e : TypeId) (w : World) (B : Nat) (ok : Hp) (v : Value) (xs : List α) : Prop :=
  ∃ inner, w.ownsRow B e d.sz v xs.length inner ∧ Reps d (hp w fun k o => ok k o ∧ some k ≠ v.ownBlock) xs inner

section
variable {α : Type} {d : Rep α} {e : TypeId} {w w' : World} {B : Nat} {ok ok' : Hp} {v : Value} {xs : List α}
theorem Own.nil (d : Rep α) (e : TypeId) (w : World) (B : Nat) (ok : Hp) : Own d e w B ok (.slice none 0 0) [] := ⟨[], World.ownsRow_nil _ _ _ _, Reps.nil _ _⟩
theorem Own.base (h : Own d e w B ok v xs) : ∀ k, v.ownBlock = some k → B ≤ k ∧ k < w.heap.size := by
  obtain ⟨inner, ho, _⟩ := h
  exact ho.lt
theorem Own.move (h : Own d e w B ok v xs) (hm : ∀ k o, (ok k o ∨ v.ownBlock = some k) → w.heap[k]? = some o → w'.heap[k]? = some o) : Own d e w' B ok v xs := by
  obtain ⟨inner, ho, hr⟩ := h
  refine ⟨inner, ?_, hr.mono (hp_move fun k o hk hl => ⟨hk, hm k o (.inl hk.1) hl⟩)⟩
  obtain ⟨h1, h2⟩ := ho
  refine ⟨h1, ?_⟩
  rcases h2 with h2 | ⟨g, cap, cur, rfl, hg, hh, r⟩
  · exact .inl h2
  · exact .inr ⟨g, cap, cur, rfl, hg, hm g _ (.inr rfl) hh, r⟩
theorem Own.below (h : Own d e w B ok v xs) (hb : Below w.heap.size w w') : Own d e w' B ok v xs := h.move fun k o _ hk => by rw [hb.block k (lt_heap hk)]; exact hk
theorem Own.alloc (h : Own d e w B ok v xs) (o : Obj) : Own d e (w.alloc o) B ok v xs := h.move fun k o' _ hk => by rw [Below.heap_alloc w o k (lt_heap hk)]; exact hk
theorem Own.drew (h : Own d e w B ok v xs) : Own d e w.drew B ok v xs := h
theorem Own.shape (h : Own d e w B ok v xs) : ∃ A c, v = .slice A xs.length c ∧ xs.length ≤ c ∧ (xs = [] ∨ A ≠ none) := by
  obtain ⟨inner, ⟨h1, h2⟩, hr⟩ := h
  rcases h2 with ⟨rfl, h2⟩ | ⟨g, cap, cur, rfl, hg, hh, hn, _⟩
  · exact ⟨none, 0, by rw [h2], by omega, .inl (List.eq_nil_of_length_eq_zero h2)⟩
  · exact ⟨_, cap, rfl, hn, .inr (by simp)⟩
/-- What is owned can be read. -/
theorem Own.reads (h : Own d e w B ok v xs) : SV d (hp w fun k o => ok k o ∨ v.ownBlock = some k) v xs := by
  obtain ⟨inner, ⟨h1, h2⟩, hr⟩ := h
  rcases h2 with ⟨rfl, h2⟩ | ⟨g, cap, cur, rfl, hg, hh, hn, hm, hc, ht⟩
  · obtain rfl := List.eq_nil_of_length_eq_zero h2
    exact SV.nil _ _
  · refine ⟨_, cap, rfl, hn, fun e => (by cases e), by simp only [maxLen] at hm; omega, fun hx => ⟨g, 0, cur, e, (0, 0), inner, rfl, ⟨.inr rfl, hh⟩, hr.mono (hp_imp fun k o h => .inl h.1), fun i u hu => ?_⟩⟩
    rw [← ht] at hu
    rw [List.getElem?_take] at hu
    split at hu
    · rw [Nat.zero_add, ← Array.getElem?_toList]; exact hu
    · cases hu
/-- As an element of another row: one cell. -/
theorem Own.K (h : Own d e w B ok v xs) : (Rep.slice d).K (hp w fun k o => ok k o ∨ v.ownBlock = some k) xs [v] := ⟨v, rfl, h.reads⟩
/-- Behind a write to another row. -/
theorem Own.kept (h : Own d e w B ok v xs) {row : Option Nat} (hg : w.grownBy w' row) (hne : ∀ k o, (ok k o ∨ v.ownBlock = some k) → w.heap[k]? = some o → some k ≠ row) : Own d e w' B ok v xs :=
  h.move fun k o hk hl => by rw [hg.block k (lt_heap hl) (hne k o hk hl)]; exact hl
/-- Behind an append to it: 'news' are the new elements' cells. -/
theorem Own.appended {ys : List α} {news : List Value} {v' : Value} (h : Own d e w B ok v xs) {inner : List Value} (hi : w.ownsRow B e d.sz v xs.length inner) (hin : Reps d (hp w fun k o => ok k o ∧ some k ≠ v.ownBlock) xs inner)
    (hn : Reps d (hp w fun k o => ok k o ∧ some k ≠ v.ownBlock) ys news) (ho : w'.ownsRow B e d.sz v' (xs.length + ys.length) (inner ++ news)) (hg : w.grownBy w' v.ownBlock)
    (hv : ∀ k, v'.ownBlock = some k → v.ownBlock = some k ∨ w.heap.size ≤ k) : Own d e w' B ok v' (xs ++ ys) := by
  refine ⟨inner ++ news, by rw [List.length_append]; exact ho, (hin.app hn).mono ?_⟩
  rintro k o ⟨⟨h1, h2⟩, h3⟩
  have hk : k < w.heap.size := (Array.getElem?_eq_some_iff.1 h3).1
  refine ⟨⟨h1, fun e' => ?_⟩, by rw [hg.block k hk h2]; exact h3⟩
  rcases hv k e'.symm with h4 | h4
  · exact h2 h4.symm
  · omega
end

/-- Of the old blocks none has turned but those of S. -/
structure Turn (S : Nat → Prop) (w w' : World) : Prop where
  os : w'.os = w.os
  tape : w'.tape = w.tape
  output : w'.output = w.output
  size : w.heap.size ≤ w'.heap.size
  block : ∀ k, k < w.heap.size → ¬ S k → w'.heap[k]? = w.heap[k]?
section
variable {S S' : Nat → Prop} {a w w' : World}
theorem Turn.refl (S : Nat → Prop) (w : World) : Turn S w w := ⟨rfl, rfl, rfl, Nat.le_refl _, fun _ _ _ => rfl⟩
theorem Turn.trans {c : World} (h : Turn S a w) (k : Turn S w c) : Turn S a c :=
  ⟨k.os.trans h.os, k.tape.trans h.tape, k.output.trans h.output, Nat.le_trans h.size k.size, fun i hi hn => (k.block i (Nat.lt_of_lt_of_le hi h.size) hn).trans (h.block i hi hn)⟩
theorem Turn.mono (h : Turn S w w') (hs : ∀ k, k < w.heap.size → S k → S' k) : Turn S' w w' := ⟨h.os, h.tape, h.output, h.size, fun k hk hn => h.block k hk fun hS => hn (hs k hk hS)⟩
theorem Turn.drew (h : Turn S a w) : Turn S a w.drew := ⟨h.os, h.tape, h.output, h.size, h.block⟩
theorem Turn.alloc (h : Turn S a w) (o : Obj) : Turn S a (w.alloc o) := h.trans ⟨rfl, rfl, rfl, by simp, fun k hk _ => Below.heap_alloc _ _ _ hk⟩
theorem Turn.setCell (h : Turn S a w) {p : Addr} (hp : S p.block ∨ a.heap.size ≤ p.block) (u : Value) : Turn S a (w.setCell p u) := by
  refine ⟨h.os, h.tape, h.output, by simpa [World.setCell] using h.size, fun k hk hn => ?_⟩
  rw [Below.heap_setCell w p u k (by rintro rfl; exact hp.elim hn (fun hp => by omega))]
  exact h.block k hk hn
theorem Turn.below {B : Nat} (h : Turn S w w') (hB : B ≤ w.heap.size) (hs : ∀ k, S k → B ≤ k) : Below B w w' := ⟨h.os, h.tape, h.output, h.size, fun k hk => h.block k (by omega) fun hS => by have := hs k hS; omega⟩
end

/-- A block of the call's own (a box, a struct), whole. -/
def Blk (w : World) (b : Nat) (cs : Array Value) (t : TypeId) : Prop := w.heap[b]? = some (.cells cs t (0, 0))
section
variable {w w' : World} {b : Nat} {cs : Array Value} {t : TypeId}
theorem Blk.cell (h : Blk w b cs t) : ∀ j, w.cell? ⟨b, j, none⟩ = cs[j]? := fun j => cell_of_row w b j cs t _ h
theorem Blk.lt (h : Blk w b cs t) : b < w.heap.size := (Array.getElem?_eq_some_iff.1 h).1
theorem Blk.below (h : Blk w b cs t) (hb : Below w.heap.size w w') : Blk w' b cs t := (hb.block b h.lt).trans h
theorem Blk.grown {row : Option Nat} (h : Blk w b cs t) (hg : w.grownBy w' row) (hne : some b ≠ row) : Blk w' b cs t := (hg.block b h.lt hne).trans h
theorem Blk.turn {S : Nat → Prop} (h : Blk w b cs t) (hg : Turn S w w') (hne : ¬ S b) : Blk w' b cs t := (hg.block b h.lt hne).trans h
theorem Blk.alloc (h : Blk w b cs t) (o : Obj) : Blk (w.alloc o) b cs t := (Below.heap_alloc w o b h.lt).trans h
theorem Blk.drew (h : Blk w b cs t) : Blk w.drew b cs t := h
theorem Blk.set (h : Blk w b cs t) (i : Nat) (v : Value) : Blk (w.setCell ⟨b, i, none⟩ v) b (cs.setIfInBounds i v) t := heap_setCell_same w b i cs t v h
theorem Blk.new (w : World) (cs : Array Value) (t : TypeId) : Blk (w.alloc (.cells cs t)) w.heap.size cs t := heap_alloc_new w _
end

theorem Own.turn {α : Type} {d : Rep α} {e : TypeId} {w w' : World} {B : Nat} {ok : Hp} {S : Nat → Prop} {v : Value} {xs : List α} (h : Own d e w B ok v xs) (ht : Turn S w w') (hne : ∀ k o, (ok k o ∨ v.ownBlock = some k) → w.heap[k]? = some o → ¬ S k) : Own d e w' B ok v xs :=
  h.move fun k o hk hl => by rw [ht.block k (lt_heap hl) (hne k o hk hl)]; exact hl
theorem Own.typed {α : Type} {d : Rep α} {e : TypeId} {w : World} {B : Nat} {ok : Hp} {v : Value} {xs : List α} {b : Nat} {cs : Array Value} {t : TypeId} (h : Own d e w B ok v xs) (hb : Blk w b cs t) (hne : e ≠ t) : some b ≠ v.ownBlock := by
  obtain ⟨inner, ⟨_, h2⟩, _⟩ := h
  rcases h2 with ⟨rfl, _⟩ | ⟨g, cap, cur, rfl, hg, hh, _⟩
  · simp [Value.ownBlock]
  · intro he
    simp only [Value.ownBlock, Option.some.injEq] at he
    subst he
    rw [Blk, hh] at hb
    injection hb with hb
    injection hb with _ hb
    exact hne hb
/-- What lies in rows of other types is none of its row. -/
theorem Own.apart {α : Type} {d : Rep α} {e : TypeId} {w : World} {B : Nat} {ok : Hp} {v : Value} {xs : List α} {T : List Nat} (h : Own d e w B ok v xs) (hne : e ∉ T) : ∀ k o, hp w (tyO T) k o → hp w (fun k o => tyO T k o ∧ some k ≠ v.ownBlock) k o :=
  hp_move fun k o hk hl => ⟨⟨hk, fun hs => by
    obtain ⟨inner, ⟨_, h2⟩, _⟩ := h
    rcases h2 with ⟨rfl, _⟩ | ⟨g, cap, cur, rfl, hgB, hh, _⟩
    · simp [Value.ownBlock] at hs
    · simp only [Value.ownBlock, Option.some.injEq] at hs
      subst hs
      obtain ⟨cells, t', fz, rfl, ht⟩ := hk
      rw [hh] at hl; cases hl
      exact hne ht⟩, hl⟩
/-- A store into a block of another type than all that is read. -/
theorem Own.store {α : Type} {d : Rep α} {e : TypeId} {w : World} {B : Nat} {T : List Nat} {v : Value} {xs : List α} {b : Nat} {cs : Array Value} {t : TypeId} (h : Own d e w B (tyO T) v xs) (hb : Blk w b cs t) (hne : t ∉ e :: T) (i : Nat) (u : Value) : Own d e (w.setCell ⟨b, i, none⟩ u) B (tyO T) v xs :=
  h.turn ((Turn.refl (fun k => k = b) w).setCell (.inl rfl) u) fun k o hk hl hs => by
    rcases hk with ⟨cells, t', fz, rfl, ht⟩ | hk
    · rw [hs, hb] at hl
      cases hl
      exact hne (List.mem_cons_of_mem _ ht)
    · exact h.typed hb (fun e => hne (by rw [e]; exact List.mem_cons_self)) (by rw [← hs, hk])
/-- A literal row. -/
theorem Own.lit {α : Type} {d : Rep α} {e : TypeId} {B : Nat} {ok ok' : Hp} {xs : List α} {inner : List Value} (w : World) (hr : Reps d (hp w ok') xs inner) (hB : B ≤ w.heap.size) (hk : ∀ k o, ok' k o → ok k o := by exact fun _ _ h => h) (hm : xs.length ≤ 9223372036854775807 := by simp) :
    Own d e (w.alloc (.cells inner.toArray e)) B ok (.slice (some ⟨w.heap.size, 0, none⟩) xs.length xs.length) xs := by
  refine ⟨inner, by simpa using World.ownsRow_lit (base := B) (e := e) (size := d.sz) w inner.toArray xs.length hB (by simpa [maxLen] using hm) (by simpa using hr.1), hr.mono (hp_move fun k o h hl => ⟨⟨hk k o h, ?_⟩, by rw [Below.heap_alloc w _ k (lt_heap hl)]; exact hl⟩)⟩
  have := lt_heap hl
  simp only [Value.ownBlock, ne_eq, Option.some.injEq]
  omega
theorem Reps.one1 {α : Type} {d : Rep α} {h : Hp} {x : α} {cs : List Value} (hk : d.K h x cs) : Reps d h [x] cs := by
  have := (Reps.nil d h).snoc hk
  simpa using this
/-- What make lays: the zero value so many times. -/
theorem Reps.made {α : Type} {d : Rep α} {h : Hp} {x : α} (z : Array Value) (n : Nat) (hz : z.size = d.sz) (h0 : 0 < d.sz) (hk : d.K h x z.toList) : Reps d h (List.replicate n x) (madeCells z (n * d.sz)).toList := by
  refine ⟨by simp [size_madeCells], fun j y hj => ?_⟩
  have hjn : j < n := by
    have := (List.getElem?_eq_some_iff.1 hj).1
    simpa using this
  have hy : x = y := by simpa [List.getElem?_replicate, hjn] using hj
  subst hy
  have e : ((madeCells z (n * d.sz)).toList.drop (j * d.sz)).take d.sz = z.toList := by
    apply List.ext_getElem?
    intro i
    rw [List.getElem?_take]
    by_cases hi : i < d.sz
    · rw [if_pos hi, List.getElem?_drop]
      have hlt : j * d.sz + i < n * d.sz := by
        have : j * d.sz + d.sz ≤ n * d.sz := by rw [← Nat.succ_mul]; exact Nat.mul_le_mul_right _ hjn
        omega
      have hiz : i < z.size := by omega
      simp only [madeCells, Array.toList_map, List.getElem?_map, Array.toList_range, List.getElem?_range hlt, Option.map_some, hz]
      rw [Nat.add_comm, Nat.mul_comm, Nat.add_mul_mod_self_left, Nat.mod_eq_of_lt hi, getElem!_pos z i hiz]
      simp [hiz]
    · rw [if_neg hi]
      simp; omega
  rw [e]
  exact hk
theorem run_mk {P : Program} {t e : TypeId} {z : Value} {sz bytes : Nat} (ht : P.underlying t = some (.slice e)) (hinfo : (P.info? e).map (fun i => (i.zero, i.size, i.bytes)) = some (some z, sz, bytes)) (n : Nat) (hb : bytes * n ≤ 281474976710656) (h63 : n ≤ 9223372036854775807) :
    ∀ W : World, (Instr.makeSlice t (.int .i64 (n : Int)) (.int .i64 (n : Int))).run P W = .ok (.slice (some ⟨W.heap.size, 0, none⟩) n n) (W.alloc (.cells (madeCells z.cells (n * sz)) e)) := by
  intro W
  obtain ⟨i, hi, hz, hs, hby⟩ := info_parts hinfo
  have hb' : (i.bytes : Int) * (n : Int) ≤ 281474976710656 := by
    rw [hby]
    have h : ((bytes * n : Nat) : Int) ≤ 281474976710656 := by omega
    rwa [Int.natCast_mul] at h
  have hr := run_make (P := P) W t e i z ht hi hz .i64 .i64 n n (by omega) (Int.le_refl _) hb' (by omega)
  simp only [Int.toNat_natCast, hs] at hr
  exact hr

/-- A slice type, its elements' type, their cells and bytes, in a program's table. -/
def STy (P : Program) (t e : TypeId) (sz bytes : Nat) : Prop :=
  P.underlying t = some (.slice e) ∧ 0 < sz ∧ 0 < bytes ∧ ∃ i z, P.info? e = some i ∧ i.zero = some z ∧ i.size = sz ∧ i.bytes = bytes ∧ z.cells.size = sz
theorem STy.mk {P : Program} {t e : TypeId} {z : Value} {sz bytes : Nat} (h : P.underlying t = some (.slice e)) (hi : (P.info? e).map (fun i => (i.zero, i.size, i.bytes)) = some (some z, sz, bytes)) (hz : z.cells.size = sz) (h0 : 0 < sz) (h1 : 0 < bytes) : STy P t e sz bytes := by
  obtain ⟨i, h2, h3, h4, h5⟩ := info_parts hi
  exact ⟨h, h0, h1, i, z, h2, h3, h4, h5, hz⟩

/-- What is to be appended: a slice value whose cells can be read. -/
def Src {α : Type} (d : Rep α) (w : World) (h : Hp) (x : Value) (ys : List α) : Prop :=
  ∃ A c, x = .slice A ys.length c ∧ (A = none → c = 0) ∧ ys.length ≤ c ∧ ∃ news, Reps d h ys news ∧ ∀ ad, A = some ad → ∀ j u, news[j]? = some u → w.cell? (ad.add j) = some u
theorem SV.src {α : Type} {d : Rep α} {w : World} {ok : Hp} {x : Value} {ys : List α} (s : SV d (hp w ok) x ys) : Src d w (hp w ok) x ys := by
  obtain ⟨A, c, rfl, h1, h2, h3⟩ := s
  by_cases hy : ys = []
  · subst hy
    exact ⟨A, c, rfl, h2, h1, [], Reps.nil _ _, fun ad _ j u hu => by simp at hu⟩
  · obtain ⟨g, off, cs, rfl, h4, h5⟩ := h3.cells hy
    refine ⟨_, c, rfl, h2, h1, cs, h4, fun ad had j u hu => ?_⟩
    cases had
    rw [Addr.add_lit]
    exact h5 j u hu
theorem Src.mono {α : Type} {d : Rep α} {w : World} {h h' : Hp} {x : Value} {ys : List α} (hh : ∀ k o, h k o → h' k o) (s : Src d w h x ys) : Src d w h' x ys := by
  obtain ⟨A, c, h1, h2, h3, news, h4, h5⟩ := s
  exact ⟨A, c, h1, h2, h3, news, h4.mono hh, h5⟩
/-- One element, in a block of its own. -/
theorem Src.one {α : Type} {d : Rep α} {w : World} {h : Hp} {g : Nat} {y : α} {cs : List Value} {t : TypeId} {fz : Nat × Nat} (hg : w.heap[g]? = some (.cells cs.toArray t fz)) (hk : d.K h y cs) : Src d w h (.slice (some ⟨g, 0, none⟩) 1 1) [y] := by
  refine ⟨_, 1, rfl, fun e => (by cases e), Nat.le_refl _, cs, ?_, fun ad had j u hu => ?_⟩
  · have := (Reps.nil d h).snoc hk
    simpa using this
  · cases had
    rw [Addr.add_lit, Nat.zero_add]
    simp only [World.cell?, hg]
    simpa using hu

section
variable {P : Program} {α : Type} {d : Rep α} {t e : TypeId} {bytes : Nat} {W : World} {B : Nat} {ok : Hp} {v x : Value} {xs ys : List α}
theorem run_app (hT : STy P t e d.sz bytes) (ho : Own d e W B ok v xs) (hs : Src d W (hp W fun k o => ok k o ∧ some k ≠ v.ownBlock) x ys) (hl : (xs.length + ys.length) * bytes ≤ 140737488355328) (hB : B ≤ W.heap.size) (ty : TypeId) :
    ∃ v' w', (Builtin.append_ #[t, t] ty #[v, x]).run P W = .ok v' w' ∧ Own d e w' B ok v' (xs ++ ys) ∧ W.grownBy w' v.ownBlock ∧ (v'.ownBlock = v.ownBlock ∨ v'.ownBlock = some W.heap.size) := by
  obtain ⟨ht, h0, hb0, i, z, hi, hz, hsz, hby, hzs⟩ := hT
  obtain ⟨inner, hin, hr⟩ := ho
  obtain ⟨A, c, rfl, hA, hc, news, hn, hcell⟩ := hs
  have hlen : xs.length + ys.length ≤ maxLen := by
    have := Nat.le_mul_of_pos_right (xs.length + ys.length) hb0
    simp only [maxLen]; omega
  cases A with
  | none =>
    have hy : ys = [] := List.eq_nil_of_length_eq_zero (by have := hA rfl; omega)
    subst hy
    have hc0 := hA rfl
    subst hc0
    have hrun := run_append_owned_none (P := P) (w := W) B t ty e i d.sz ht hi v xs.length inner hin
    exact ⟨v, W, hrun, by rw [List.append_nil]; exact ⟨inner, hin, hr⟩, World.grownBy.refl _ _, .inl rfl⟩
  | some ad =>
    obtain ⟨v', w', hrun, h2, h3, _, h5⟩ := run_append_own_at (P := P) W B t ty e i z d.sz bytes ht hi hz hsz hby hzs h0 v xs.length inner hin ad ys.length c news hn.1 (hcell ad rfl) hn.one hlen hl hB
    refine ⟨v', w', hrun, Own.appended ⟨inner, hin, hr⟩ hin hr hn h2 h3 fun k hk => ?_, h3, h5⟩
    rcases h5 with h5 | h5
    · exact .inl (h5 ▸ hk)
    · rw [h5] at hk; cases hk; exact .inr (Nat.le_refl _)
end
end Go.Proofs.YtmodmjekhlnjpaaGreatDoor
namespace Go.Proofs.YtmodmjekhlnjpaaGreatDoor
open Go.RowKit

abbrev Blocks := List (Nat × Obj)
/-- A part of what is owned: which blocks; what it reads beside them. -/
structure Sp where
  P : Hp → Blocks → Prop
  mono : ∀ {h h' : Hp} {o : Blocks}, (∀ k b, h k b → h' k b) → P h o → P h' o
/-- A fact on what can be read. -/
structure Fa where
  P : Hp → Prop
  mono : ∀ {h h' : Hp}, (∀ k b, h k b → h' k b) → P h → P h'
def Sps : List Sp → Hp → Blocks → Prop
  | [], _, o => o = []
  | s :: ss, h, o => ∃ o1 o2, o = o1 ++ o2 ∧ s.P h o1 ∧ Sps ss h o2
theorem Sps.mono {h h' : Hp} (hh : ∀ k b, h k b → h' k b) : ∀ {ss : List Sp} {o : Blocks}, Sps ss h o → Sps ss h' o
  | [], _, e => e
  | s :: _, _, ⟨o1, o2, e, h1, h2⟩ => ⟨o1, o2, e, s.mono hh h1, Sps.mono hh h2⟩
theorem Sps.perm {h : Hp} {ss ss' : List Sp} (p : ss.Perm ss') : ∀ {o : Blocks}, Sps ss h o → ∃ o', o.Perm o' ∧ Sps ss' h o' := by
  induction p with
  | nil => exact fun {o} e => ⟨o, .refl _, e⟩
  | cons s _ ih =>
    rintro o ⟨o1, o2, rfl, h1, h2⟩
    obtain ⟨o', hp, h3⟩ := ih h2
    exact ⟨o1 ++ o', hp.append_left o1, o1, o', rfl, h1, h3⟩
  | swap s t l =>
    rintro o ⟨o1, o2, rfl, h1, o3, o4, rfl, h2, h3⟩
    refine ⟨o3 ++ (o1 ++ o4), ?_, o3, o1 ++ o4, rfl, h2, o1, o4, rfl, h1, h3⟩
    rw [← List.append_assoc, ← List.append_assoc]
    exact List.perm_append_comm.append_right o4
  | trans _ _ ih1 ih2 =>
    intro o h0
    obtain ⟨o', p1, h1⟩ := ih1 h0
    obtain ⟨o'', p2, h2⟩ := ih2 h1
    exact ⟨o'', p1.trans p2, h2⟩
/-- What is not owned. -/
def restH (W : World) (o : Blocks) : Hp := hp W fun k _ => k ∉ o.map (·.1)
theorem restH_perm {W : World} {o o' : Blocks} (p : o.Perm o') : ∀ k b, restH W o k b → restH W o' k b := by
  rintro k b ⟨h1, h2⟩
  exact ⟨fun h => h1 ((p.map (·.1)).mem_iff.2 h), h2⟩

/-- THE STATE: below w0's size nothing has turned; the owned parts, apart from each other and from what the facts speak of. -/
structure St (w0 W : World) (sps : List Sp) (rs : List Fa) : Prop where
  below : Below w0.heap.size w0 W
  own : ∃ o : Blocks, Sps sps (restH W o) o ∧ (∀ p ∈ o, W.heap[p.1]? = some p.2 ∧ w0.heap.size ≤ p.1) ∧ (o.map (·.1)).Nodup ∧ ∀ r ∈ rs, r.P (restH W o)

namespace St
variable {w0 W W' : World} {sps sps' : List Sp} {rs rs' : List Fa} {s : Sp} {r : Fa}
theorem begin (W : World) (h : ∀ r ∈ rs, r.P (all W)) : St W W [] rs :=
  ⟨Below.refl _ _, [], rfl, (fun _ h => by cases h), .nil, fun r hr => r.mono (fun _ _ h => ⟨by simp, h.2⟩) (h r hr)⟩
theorem perm (h : St w0 W sps rs) (p : sps.Perm sps') : St w0 W sps' rs := by
  obtain ⟨hb, o, h1, h2, h3, h4⟩ := h
  obtain ⟨o', p', h5⟩ := Sps.perm p h1
  exact ⟨hb, o', h5.mono (restH_perm p'), fun q hq => h2 q (p'.mem_iff.2 hq), (p'.map (·.1)).nodup_iff.1 h3, fun r hr => r.mono (restH_perm p') (h4 r hr)⟩
theorem facts (h : St w0 W sps rs) (hr : ∀ r ∈ rs', r ∈ rs) : St w0 W sps rs' := by
  obtain ⟨hb, o, h1, h2, h3, h4⟩ := h
  exact ⟨hb, o, h1, h2, h3, fun r h => h4 r (hr r h)⟩
theorem drop (h : St w0 W (s :: sps) rs) : St w0 W sps rs := by
  obtain ⟨hb, o, ⟨o1, o2, rfl, h0, h1⟩, h2, h3, h4⟩ := h
  have hm : ∀ k b, restH W (o1 ++ o2) k b → restH W o2 k b := by
    rintro k b ⟨h5, h6⟩
    exact ⟨fun h => h5 (by rw [List.map_append, List.mem_append]; exact .inr h), h6⟩
  refine ⟨hb, o2, h1.mono hm, fun p hp => h2 p (List.mem_append_right _ hp), ?_, fun r hr => r.mono hm (h4 r hr)⟩
  rw [List.map_append] at h3
  exact (List.nodup_append.1 h3).2.1
theorem drops (h : St w0 W (sps' ++ sps) rs) : St w0 W sps rs := by
  induction sps' with
  | nil => exact h
  | cons s l ih => exact ih h.drop
theorem sub (h : St w0 W sps rs) (hs : sps'.Sublist sps) : St w0 W sps' rs := by
  obtain ⟨l, hl⟩ := hs.exists_perm_append
  exact (h.perm (hl.trans List.perm_append_comm)).drops
/-- A fact out of an owned part, which is owned no more. -/
theorem give (h : St w0 W (s :: sps) rs) (hg : ∀ (hh : Hp) (o : Blocks), s.P hh o → r.P fun k b => hh k b ∨ (k, b) ∈ o) : St w0 W sps (r :: rs) := by
  have h' := h.drop
  obtain ⟨hb, o, ⟨o1, o2, rfl, h0, h1⟩, h2, h3, h4⟩ := h
  refine ⟨hb, o2, ?_⟩
  have hm : ∀ k b, restH W (o1 ++ o2) k b → restH W o2 k b := by
    rintro k b ⟨h5, h6⟩
    exact ⟨fun h => h5 (by rw [List.map_append, List.mem_append]; exact .inr h), h6⟩
  rw [List.map_append] at h3
  obtain ⟨n1, n2, n3⟩ := List.nodup_append.1 h3
  refine ⟨h1.mono hm, fun p hp => h2 p (List.mem_append_right _ hp), n2, fun q hq => ?_⟩
  rcases List.mem_cons.1 hq with rfl | hq
  · refine q.mono ?_ (hg _ _ h0)
    rintro k b (hk | hk)
    · exact hm k b hk
    · exact ⟨fun hc => n3 _ (List.mem_map_of_mem (f := (·.1)) hk) _ hc rfl, (h2 _ (List.mem_append_left _ hk)).1⟩
  · exact q.mono hm (h4 q hq)
/-- A fact out of the facts. -/
theorem more (h : St w0 W sps rs) (hg : ∀ hh : Hp, (∀ r ∈ rs, r.P hh) → r.P hh) : St w0 W sps (r :: rs) := by
  obtain ⟨hb, o, h1, h2, h3, h4⟩ := h
  refine ⟨hb, o, h1, h2, h3, fun q hq => ?_⟩
  rcases List.mem_cons.1 hq with rfl | hq
  · exact hg _ h4
  · exact h4 q hq
/-- A fact holds in the world. -/
theorem fact (h : St w0 W sps rs) (hr : r ∈ rs) : r.P (all W) := by
  obtain ⟨hb, o, h1, h2, h3, h4⟩ := h
  exact r.mono (fun k b h => ⟨trivial, h.2⟩) (h4 r hr)
theorem drew (h : St w0 W sps rs) : St w0 W.drew sps rs := ⟨h.below.drew, h.own⟩

theorem move (h : St w0 W sps rs) (hB : Below w0.heap.size W W') (hk : ∀ (k : Nat) (b : Obj), W.heap[k]? = some b → W'.heap[k]? = some b) : St w0 W' sps rs := by
  obtain ⟨hb, o, h1, h2, h3, h4⟩ := h
  have hm : ∀ k b, restH W o k b → restH W' o k b := fun k b h => ⟨h.1, hk k b h.2⟩
  exact ⟨hb.trans hB, o, h1.mono hm, fun p hp => ⟨hk _ _ (h2 p hp).1, (h2 p hp).2⟩, h3, fun r hr => r.mono hm (h4 r hr)⟩
theorem size (h : St w0 W sps rs) : w0.heap.size ≤ W.heap.size := h.below.size
end St

/-- A block, whole. -/
def Bk (g : Nat) (cs : List Value) (t : TypeId) : Sp := ⟨fun _ o => o = [(g, .cells cs.toArray t (0, 0))], fun _ h => h⟩
/-- What a slice value reads as. -/
def Rd {α : Type} (d : Rep α) (v : Value) (xs : List α) : Fa := ⟨fun h => SV d h v xs, fun hh h => h.mono hh⟩
/-- What cells read as. -/
def Kf {α : Type} (d : Rep α) (x : α) (cs : List Value) : Fa := ⟨fun h => d.K h x cs, fun hh h => d.mono hh h⟩
/-- A row of the call's own: nil, or a block with its elements at the head. -/
def Row {α : Type} (d : Rep α) (e : TypeId) (v : Value) (xs : List α) : Sp :=
  ⟨fun h o => (v = .slice none 0 0 ∧ xs = [] ∧ o = []) ∨ ∃ g cap cur inner, v = .slice (some ⟨g, 0, none⟩) xs.length cap ∧ o = [(g, .cells cur e (0, 0))] ∧ Reps d h xs inner ∧ xs.length ≤ cap ∧ cap ≤ maxLen ∧ cur.size = cap * d.sz ∧ cur.toList.take (xs.length * d.sz) = inner,
   fun hh h => by
    rcases h with h | ⟨g, cap, cur, inner, h1, h2, h3, h4⟩
    · exact .inl h
    · exact .inr ⟨g, cap, cur, inner, h1, h2, h3.mono hh, h4⟩⟩

namespace St
variable {w0 W W' : World} {sps sps' : List Sp} {rs rs' : List Fa} {s : Sp} {r : Fa} {g i : Nat} {cs : List Value} {t : TypeId}
theorem alloc (h : St w0 W sps rs) (cs : List Value) (t : TypeId) : St w0 (W.alloc (.cells cs.toArray t)) (Bk W.heap.size cs t :: sps) rs := by
  obtain ⟨hb, o, h1, h2, h3, h4⟩ := h
  have hlt : ∀ p ∈ o, p.1 < W.heap.size := fun p hp => lt_heap (h2 p hp).1
  have hm : ∀ k b, restH W o k b → restH (W.alloc (.cells cs.toArray t)) ((W.heap.size, .cells cs.toArray t) :: o) k b := by
    rintro k b ⟨h5, h6⟩
    have := lt_heap h6
    refine ⟨fun hk => ?_, by rw [Below.heap_alloc _ _ _ this]; exact h6⟩
    rcases List.mem_cons.1 hk with hk | hk
    · simp only at hk; omega
    · exact h5 hk
  refine ⟨hb.alloc hb.size _, (W.heap.size, .cells cs.toArray t) :: o, ⟨[_], o, rfl, rfl, h1.mono hm⟩, fun p hp => ?_, ?_, fun r hr => r.mono hm (h4 r hr)⟩
  · rcases List.mem_cons.1 hp with rfl | hp
    · exact ⟨heap_alloc_new _ _, hb.size⟩
    · exact ⟨by rw [Below.heap_alloc _ _ _ (hlt p hp)]; exact (h2 p hp).1, (h2 p hp).2⟩
  · rw [List.map_cons, List.nodup_cons]
    refine ⟨fun hk => ?_, h3⟩
    obtain ⟨p, hp, he⟩ := List.mem_map.1 hk
    have := hlt p hp
    omega
theorem blk (h : St w0 W (Bk g cs t :: sps) rs) : W.heap[g]? = some (.cells cs.toArray t (0, 0)) := by
  obtain ⟨hb, o, ⟨o1, o2, rfl, h0, h1⟩, h2, h3, h4⟩ := h
  cases h0
  exact (h2 _ List.mem_cons_self).1
theorem cell (h : St w0 W (Bk g cs t :: sps) rs) (i : Nat) : W.cell? ⟨g, i, none⟩ = cs[i]? := by
  rw [cell_of_row W g i _ t _ h.blk]; simp
/-- One owned block's object is another one. -/
theorem turn {ob ob' : Obj} {s' : Sp} (h : St w0 W (s :: sps) rs) (hs : ∀ hh o, s.P hh o → o = [(g, ob)]) (hs' : ∀ hh, (s.P hh [(g, ob)]) → s'.P hh [(g, ob')]) (hB : Below w0.heap.size W W')
    (hg : W'.heap[g]? = some ob') (hk : ∀ (k : Nat) (b : Obj), k ≠ g → W.heap[k]? = some b → W'.heap[k]? = some b) : St w0 W' (s' :: sps) rs := by
  obtain ⟨hb, o, ⟨o1, o2, rfl, h0, h1⟩, h2, h3, h4⟩ := h
  obtain rfl := hs _ _ h0
  have hno : ∀ p ∈ o2, p.1 ≠ g := by
    intro p hp e
    simp only [List.singleton_append, List.map_cons, List.nodup_cons] at h3
    exact h3.1 (e ▸ List.mem_map_of_mem (f := (·.1)) hp)
  have hm : ∀ k b, restH W ([(g, ob)] ++ o2) k b → restH W' ([(g, ob')] ++ o2) k b := by
    rintro k b ⟨h5, h6⟩
    exact ⟨h5, hk k b (fun e => h5 (by rw [e]; simp)) h6⟩
  refine ⟨hb.trans hB, [(g, ob')] ++ o2, ⟨[(g, ob')], o2, rfl, s'.mono hm (hs' _ h0), h1.mono hm⟩, fun p hp => ?_, h3, fun r hr => r.mono hm (h4 r hr)⟩
  rcases List.mem_cons.1 hp with rfl | hp
  · exact ⟨hg, (h2 _ (List.mem_cons_self)).2⟩
  · exact ⟨hk _ _ (hno p hp) (h2 p (List.mem_cons_of_mem _ hp)).1, (h2 p (List.mem_cons_of_mem _ hp)).2⟩
theorem base (h : St w0 W (Bk g cs t :: sps) rs) : w0.heap.size ≤ g := by
  obtain ⟨hb, o, ⟨o1, o2, rfl, h0, h1⟩, h2, h3, h4⟩ := h
  cases h0
  exact (h2 _ List.mem_cons_self).2
theorem set (h : St w0 W (Bk g cs t :: sps) rs) (i : Nat) (v : Value) : St w0 (W.setCell ⟨g, i, none⟩ v) (Bk g (cs.set i v) t :: sps) rs := by
  have hg := h.blk
  refine h.turn (g := g) (ob := .cells cs.toArray t (0, 0)) (ob' := .cells (cs.set i v).toArray t (0, 0)) (fun _ _ e => e) (fun _ _ => rfl) ((Below.refl _ _).setCell h.base _) ?_ fun k b hne hk => ?_
  · rw [heap_setCell_same W g i _ t v hg]; simp
  · rw [Below.heap_setCell _ _ _ _ hne]; exact hk

/-- An own row, of whatever elements, reads as what it holds. -/
theorem giveRow {α : Type} {d : Rep α} {e : TypeId} {v : Value} {xs : List α} (h : St w0 W (Row d e v xs :: sps) rs) : St w0 W sps (Rd d v xs :: rs) := by
  refine h.give fun hh o hr => ?_
  rcases hr with ⟨rfl, rfl, rfl⟩ | ⟨g, cap, cur, inner, rfl, rfl, h3, h4, h5, h6, h7⟩
  · exact SV.nil _ _
  · refine ⟨_, cap, rfl, h4, fun e => (by cases e), by simp only [maxLen] at h5; omega, fun hx => ⟨g, 0, cur, e, (0, 0), inner, rfl, .inr (List.mem_singleton.2 rfl), h3.mono fun k b h => .inl h, fun i u hu => ?_⟩⟩
    rw [← h7, List.getElem?_take] at hu
    split at hu
    · rw [Nat.zero_add, ← Array.getElem?_toList]; exact hu
    · cases hu
/-- A block, as a row. -/
theorem asRow {α : Type} {d : Rep α} {xs : List α} (h : St w0 W (Bk g cs t :: sps) rs) (hk : ∀ hh : Hp, (∀ r ∈ rs, r.P hh) → Reps d hh xs cs) (n : Nat) (hl : xs.length = n) (hm : n ≤ 9223372036854775807) :
    St w0 W (Row d t (.slice (some ⟨g, 0, none⟩) n n) xs :: sps) rs := by
  subst hl
  obtain ⟨hb, o, ⟨o1, o2, rfl, h0, h1⟩, h2, h3, h4⟩ := h
  cases h0
  have hr := hk _ h4
  exact ⟨hb, _, ⟨_, o2, rfl, .inr ⟨g, xs.length, cs.toArray, cs, rfl, rfl, hr, Nat.le_refl _, by simp only [maxLen]; omega, by simpa using hr.1, by rw [← hr.1]; simp⟩, h1⟩, h2, h3, h4⟩
theorem nilRow {α : Type} (d : Rep α) (e : TypeId) (h : St w0 W sps rs) : St w0 W (Row d e (.slice none 0 0) [] :: sps) rs := by
  obtain ⟨hb, o, h1, h2, h3, h4⟩ := h
  exact ⟨hb, o, ⟨[], o, rfl, .inl ⟨rfl, rfl, rfl⟩, h1⟩, h2, h3, h4⟩
end St
end Go.Proofs.YtmodmjekhlnjpaaGreatDoor
namespace Go.Proofs.YtmodmjekhlnjpaaGreatDoor

section
variable {P : Program} {ops : Array Oper} {Q : Exit → Act → World → Prop} {md : Region.Mode} {C : World → Prop} {kd : Nat → Nat} {nd : Nat → Bool}

/-- Whatever comes up next; behind a number that nd names C holds, a number of kind 0 or 1 leaves the world. -/
def wpAnyL (P : Program) (md : Region.Mode) (ops : Array Oper) (Q : Exit → Act → World → Prop) (kd : Nat → Nat) (nd : Nat → Bool) (C : World → Prop) : Nat → Array Bool → Act → World → Prop
  | 0, listed, a, w => Region.ready md ops listed = [] ∧ Q .normal a w
  | fuel + 1, listed, a, w =>
    (Region.ready md ops listed = [] → Q .normal a w) ∧
    ∀ i ∈ Region.ready md ops listed, wpOp P ops Q i (fun a' w' => ((nd i = true → C w') ∧ (kd i ≠ 2 → w' = w)) ∧ wpAnyL P md ops Q kd nd C fuel (listed.setIfInBounds i true) a' w') a w

theorem wpAny_of_L : ∀ (fuel : Nat) (listed : Array Bool) (a : Act) (w : World), wpAnyL P md ops Q kd nd C fuel listed a w → wpAny P md ops Q fuel listed a w
  | 0, _, _, _, h => h
  | fuel + 1, _, _, _, h => ⟨h.1, fun i hi => wpOp_mono (fun a' w' h' => wpAny_of_L fuel _ a' w' h'.2) (h.2 i hi)⟩

theorem wpAnyL_first {i : Nat} {oi : Oper} {v : Value} (hi : ops[i]? = some oi) (hsel : ∀ (j : Nat) (o : Oper) cs b, ops[j]? = some o → o.op ≠ .select cs b)
    (hQ : ∀ c a w, Q (.panic c) (a.put oi.dst v) w → Q (.panic c) a w) (hn : nd i = false) (b : Bool) (D : World → Prop) (hD : (b = true ∧ D = C) ∨ D = fun _ => True) :
    ∀ (fuel : Nat) (listed : Array Bool) (a : Act) (w : World),
      (∀ j oj, ops[j]? = some oj → j ≠ i → listed.getD j true = false → (∀ e ∈ oj.after, Region.binds md e = true → e.on ≠ i) → oi.apart ops oj = true ∧ (b = true → nd j = true ∨ kd j ≠ 2)) →
      i ∈ Region.ready md ops listed → YieldsIf P ops D oi v a → D w →
      wpAnyL P md ops Q kd nd C fuel (listed.setIfInBounds i true) (a.put oi.dst v) w → wpAnyL P md ops Q kd nd C (fuel + 1) listed a w := by
  intro fuel
  induction fuel with
  | zero =>
    intro listed a w _ hr hy hDw H
    refine ⟨fun h => (by rw [h] at hr; cases hr), fun j hj => ?_⟩
    by_cases hji : j = i
    · subst hji; exact hy.wpOp hi hDw ⟨⟨fun h => (by rw [hn] at h; cases h), fun _ => rfl⟩, H⟩
    · have := ready_mono hj hji
      rw [H.1] at this
      cases this
  | succ fuel ih =>
    intro listed a w hfree hr hy hDw H
    refine ⟨fun h => (by rw [h] at hr; cases hr), fun j hj => ?_⟩
    by_cases hji : j = i
    · subst hji; exact hy.wpOp hi hDw ⟨⟨fun h => (by rw [hn] at h; cases h), fun _ => rfl⟩, H⟩
    · have h1 := H.2 j (ready_mono hj hji)
      obtain ⟨hjun, oj, hoj, hall⟩ := mem_ready.1 hj
      have hnot : ∀ e ∈ oj.after, Region.binds md e = true → e.on ≠ i := fun e he hb heq => by
        have h1 := hall e he hb
        have h0 := (mem_ready.1 hr).1
        rw [heq] at h1
        rcases Nat.lt_or_ge i listed.size with h' | h'
        · simp [h'] at h0 h1; rw [h0] at h1; cases h1
        · simp [Array.getElem?_eq_none h'] at h1
      obtain ⟨hap, hndj⟩ := hfree j oj hoj hji hjun hnot
      have h2 := wpOp_putIf hoj hap (fun cs b => hsel i oi cs b hi) (fun cs b => hsel j oj cs b hoj) hQ hy h1
      have hfree' : ∀ k ok, ops[k]? = some ok → k ≠ i → (listed.setIfInBounds j true).getD k true = false →
          (∀ e ∈ ok.after, Region.binds md e = true → e.on ≠ i) → oi.apart ops ok = true ∧ (b = true → nd k = true ∨ kd k ≠ 2) := fun k ok hk hki hun hno => by
        refine hfree k ok hk hki ?_ hno
        by_cases hjk : j = k
        · subst hjk; exact hjun
        · rw [getD_set_ne true hjk] at hun; exact hun
      refine wpOp_mono (fun a' w' h3 => ⟨h3.2.1, ?_⟩) h2
      have hDw' : D w' := by
        rcases hD with ⟨hb, hD⟩ | hD
        · rcases hndj hb with h | h
          · rw [hD]; exact h3.2.1.1 h
          · rw [h3.2.1.2 h]; exact hDw
        · rw [hD]; trivial
      refine ih (listed.setIfInBounds j true) a' w' hfree' (ready_mono hr (Ne.symm hji)) h3.1 hDw' ?_
      rw [Array.setIfInBounds_comm _ _ hji]
      exact h3.2.2

/-- One order: kind 0: yields in whatever world; kind 1: in each that meets C; kind 2: acts. -/
def wpCan (P : Program) (ops : Array Oper) (Q : Exit → Act → World → Prop) (kd : Nat → Nat) (nd : Nat → Bool) (C : World → Prop) : List Nat → Act → World → Prop
  | [], a, w => Q .normal a w
  | i :: l, a, w => ∃ o, ops[i]? = some o ∧
    if kd i = 2 then wpOp P ops Q i (fun a' w' => (nd i = true → C w') ∧ wpCan P ops Q kd nd C l a' w') a w
    else ∃ v, YieldsIf P ops (if kd i = 1 then C else fun _ => True) o v a ∧ (kd i = 1 → C w) ∧ wpCan P ops Q kd nd C l (a.put o.dst v) w

/-- What of number i the others that have not come up, and do not wait for it, must bear. -/
def freeB (md : Region.Mode) (ops : Array Oper) (kd : Nat → Nat) (nd : Nat → Bool) (listed : Array Bool) (i : Nat) (oi : Oper) : Bool :=
  (List.range ops.size).all fun j => match ops[j]? with
    | none => true
    | some oj => j == i || listed.getD j true || oj.after.any (fun e => Region.binds md e && e.on == i) || (oi.apart ops oj && (kd i != 1 || nd j || kd j != 2))

/-- The order l is one, and what stands in it stands for all. -/
def flowOk (md : Region.Mode) (ops : Array Oper) (kd : Nat → Nat) (nd : Nat → Bool) : List Nat → Array Bool → Bool
  | [], listed => (Region.ready md ops listed).isEmpty
  | i :: l, listed => (match ops[i]? with
    | none => false
    | some oi => if kd i == 2 then Region.ready md ops listed == [i] else (Region.ready md ops listed).contains i && !nd i && freeB md ops kd nd listed i oi) && flowOk md ops kd nd l (listed.setIfInBounds i true)

def noSel (ops : Array Oper) : Bool := ops.all fun o => match o.op with | .select _ _ => false | _ => true
theorem noSel_spec (h : noSel ops = true) : ∀ (j : Nat) (o : Oper) cs b, ops[j]? = some o → o.op ≠ .select cs b := by
  intro j o cs b hj he
  have hlt := (Array.getElem?_eq_some_iff.1 hj).1
  have := (Array.all_eq_true.1 h) j hlt
  rw [(Array.getElem?_eq_some_iff.1 hj).2, he] at this
  cases this

/-- A post that looks at no slot where the call panics. -/
def QOk (Q : Exit → Act → World → Prop) : Prop := ∀ c a d v w, Q (.panic c) (a.put d v) w → Q (.panic c) a w

theorem wpAnyL_of_can (hs : noSel ops = true) (hQ : QOk Q) : ∀ (l : List Nat) (listed : Array Bool) (a : Act) (w : World), flowOk md ops kd nd l listed = true → wpCan P ops Q kd nd C l a w →
    wpAnyL P md ops Q kd nd C l.length listed a w := by
  intro l
  induction l with
  | nil =>
    intro listed a w hf h
    exact ⟨by simpa [flowOk] using hf, h⟩
  | cons i l ih =>
    intro listed a w hf h
    obtain ⟨o, ho, h⟩ := h
    simp only [flowOk, ho, Bool.and_eq_true] at hf
    obtain ⟨hf1, hf2⟩ := hf
    by_cases hk : kd i = 2
    · rw [if_pos hk] at h
      rw [if_pos (by simpa using hk)] at hf1
      have hr : Region.ready md ops listed = [i] := by simpa using hf1
      refine ⟨fun h0 => (by rw [hr] at h0; cases h0), fun j hj => ?_⟩
      rw [hr] at hj
      obtain rfl := List.mem_singleton.1 hj
      exact wpOp_mono (fun a' w' h' => ⟨⟨h'.1, fun hne => absurd hk hne⟩, ih _ a' w' hf2 h'.2⟩) h
    · rw [if_neg hk] at h
      rw [if_neg (by simpa using hk)] at hf1
      simp only [Bool.and_eq_true, Bool.not_eq_true'] at hf1
      obtain ⟨⟨hr, hn⟩, hfree⟩ := hf1
      obtain ⟨v, hy, hC, h⟩ := h
      have hsl := List.all_eq_true.1 hfree
      refine wpAnyL_first ho (noSel_spec hs) (fun c a w h => hQ c a _ _ w h) hn (kd i == 1) (if kd i = 1 then C else fun _ => True) ?_ l.length listed a w ?_ (List.contains_iff_mem.1 hr) hy ?_ (ih _ _ _ hf2 h)
      · by_cases h1 : kd i = 1
        · exact .inl ⟨by simpa using h1, by rw [if_pos h1]⟩
        · exact .inr (by rw [if_neg h1])
      · intro j oj hj hne hun hno
        have h1 := hsl j (List.mem_range.2 (Array.getElem?_eq_some_iff.1 hj).1)
        simp only [hj, Bool.or_eq_true, beq_iff_eq, hun, Bool.false_eq_true, or_false, hne, false_or, Bool.and_eq_true, bne_iff_ne, ne_eq] at h1
        rcases h1 with h1 | h1
        · obtain ⟨n, hn', he⟩ := Array.any_eq_true.1 h1
          simp only [Bool.and_eq_true, beq_iff_eq] at he
          exact absurd he.2 (hno _ (Array.getElem_mem hn') he.1)
        · refine ⟨h1.1, fun hb => ?_⟩
          have hb' : kd i = 1 := by simpa using hb
          rcases h1.2 with (h2 | h2) | h2
          · exact absurd hb' h2
          · exact .inl h2
          · exact .inr h2
      · by_cases h1 : kd i = 1
        · rw [if_pos h1]; exact hC h1
        · rw [if_neg h1]; trivial

/-- A region that draws. -/
theorem flow_region {id : Nat} {a : Act} {w : World} (hm : P.follows .mixedOrders = true) (hs : noSel ops = true) (hQ : QOk Q) (l : List Nat) (hl : l.length = ops.size) (hf : flowOk .any ops kd nd l (Array.replicate ops.size false) = true)
    (h : wpCan P ops Q kd nd C l a w.drew) : (Code.region id ops true).wp P Q a w := by
  refine wp_region_any hm ?_
  have := wpAny_of_L _ _ _ _ (wpAnyL_of_can (md := .any) hs hQ l _ a _ hf h)
  rw [hl] at this
  exact this

/-- A region that does not draw: number by number. -/
theorem wpOps_of_can : ∀ (l : List Nat) (a : Act) (w : World), wpCan P ops Q (fun _ => 2) (fun _ => false) C l a w → wpOps P ops Q l a w
  | [], _, _, h => h
  | i :: l, a, w, h => by
    obtain ⟨o, _, h⟩ := h
    rw [if_pos rfl] at h
    rw [wpOps_cons]
    exact wpOp_mono (fun a' w' h' => wpOps_of_can l a' w' h'.2) h
theorem seq_region {id : Nat} {a : Act} {w : World} (h : wpCan P ops Q (fun _ => 2) (fun _ => false) C (List.range ops.size) a w) : (Code.region id ops false).wp P Q a w :=
  wp_region (wpOps_of_can _ _ _ h)
end
end Go.Proofs.YtmodmjekhlnjpaaGreatDoor
namespace Go.Proofs.YtmodmjekhlnjpaaGreatDoor
open Go.RowKit

/-- What stands in the slots. -/
def upd (e : Nat → Value) (d : Nat) (v : Value) : Nat → Value := fun t => match Nat.beq t d with | true => v | false => e t
def env0 (l : List Value) : Nat → Value := fun t => l.getD t undef
def ev (e : Nat → Value) : Operand → Value
  | .tmp t => e t
  | .const v => v
  | .global g => .pointer (some ⟨g, 0, none⟩)
  | .func f => .func (.func f) #[] #[]
/-- A frame: how many slots; which calls are deferred. -/
structure Fr where
  n : Nat
  ds : List Deferred
structure Env (n : Fr) (e : Nat → Value) (a : Act) : Prop where
  defers : a.defers = n.ds
  size : a.tmps.size = n.n
  at_ : ∀ t, a.tmps.getD t undef = e t
theorem Env.eval {n : Fr} {e : Nat → Value} {a : Act} (h : Env n e a) : a.eval = ev e := by
  funext x
  cases x <;> simp [Act.eval, ev, h.at_]
theorem Env.put {n : Fr} {e : Nat → Value} {a : Act} (h : Env n e a) {d : Nat} (hd : Nat.blt d n.n = true) (v : Value) : Env n (upd e d v) (a.put (some d) v) := by
  have hd' : d < a.tmps.size := by rw [h.size]; simpa using hd
  refine ⟨h.defers, by simp [Act.put, h.size], fun t => ?_⟩
  simp only [Act.put, upd]
  by_cases ht : t = d
  · subst ht
    simp [hd']
  · have : Nat.beq t d = false := by
      cases hb : Nat.beq t d with
      | false => rfl
      | true => exact absurd (Nat.eq_of_beq_eq_true hb) ht
    rw [this, ← h.at_ t]
    simp only [Array.getD_eq_getD_getElem?, Array.getElem?_setIfInBounds]
    rw [if_neg (fun e => ht e.symm)]
theorem upd1 (e : Nat → Value) {d : Nat} {v : Value} (h : e d = v) : e = upd e d v := by
  funext t
  simp only [upd]
  cases hb : Nat.beq t d with
  | false => rfl
  | true => rw [Nat.eq_of_beq_eq_true hb, h]

/-- A loop by a number that falls. -/
theorem wp_loop_k {P : Program} {Q : Exit → Act → World → Prop} {a : Act} {w : World} {c : Code} (I : Nat → Act → World → Prop) (k : Nat) (h₀ : I k a w)
    (round : ∀ k a w, I k a w → c.wp P (Exit.then (fun a' w' => ∃ k', k' < k ∧ I k' a' w') Q) a w) : (Code.loop c).wp P Q a w := by
  intro b kk cs
  have key : ∀ k a w, I k a w → ∃ e a' w', Q e a' w' ∧ Arrives P (lone (b.at a (.code c :: .inLoop c :: kk)) cs w) b kk cs e a' w' := by
    intro k
    induction k using Nat.strongRecOn with
    | _ k ih =>
      intro a w hI
      obtain ⟨e, a₁, w₁, hq, harr⟩ := round k a w hI b (.inLoop c :: kk) cs
      cases e with
      | normal =>
        obtain ⟨k', hlt, hI₁⟩ := hq
        obtain ⟨e₂, a₂, w₂, hq₂, harr₂⟩ := ih k' hlt a₁ w₁ hI₁
        exact ⟨e₂, a₂, w₂, hq₂, .of_steps (Steps.trans harr (.one step_inLoop)) harr₂⟩
      | exit id => exact ⟨_, a₁, w₁, hq, .pass (x := .inLoop c) rfl (fun _ _ => .inl (by simp)) harr⟩
      | goto l => exact ⟨_, a₁, w₁, hq, .pass (x := .inLoop c) rfl (fun _ _ => .inl (by simp)) harr⟩
      | ret => exact ⟨_, a₁, w₁, hq, .pass (x := .inLoop c) rfl (fun _ _ => .inl (by simp)) harr⟩
      | panic ch => exact ⟨_, a₁, w₁, hq, .pass (x := .inLoop c) rfl (fun _ _ => .inl (by simp)) harr⟩
      | outgrown => exact ⟨_, a₁, w₁, hq, .pass (x := .inLoop c) rfl (fun _ _ => .inl (by simp)) harr⟩
  obtain ⟨e, a', w', hq, harr⟩ := key k a w h₀
  exact ⟨e, a', w', hq, .of_steps (.one step_loop) harr⟩

section
variable {P : Program} {n : Fr} {Q : Exit → Act → World → Prop} {w0 : World} {e : Nat → Value} {sps : List Sp} {rs : List Fa}
/-- The code's walk, and the way out of it, from a state. -/
def CS (P : Program) (n : Fr) (c : Code) (Q : Exit → Act → World → Prop) (w0 : World) (e : Nat → Value) (sps : List Sp) (rs : List Fa) : Prop := ∀ a W, Env n e a → St w0 W sps rs → c.wp P Q a W
def PS (n : Fr) (Q : Exit → Act → World → Prop) (x : Exit) (w0 : World) (e : Nat → Value) (sps : List Sp) (rs : List Fa) : Prop := ∀ a W, Env n e a → St w0 W sps rs → Q x a W
/-- What a call comes to. -/
def Post (w0 : World) (R : Value → List Sp → List Fa → Prop) : Ending → World → Prop := fun e W => ∃ v sps rs, e = .returned v ∧ R v sps rs ∧ St w0 W sps rs
def FnOk (P : Program) (f : FuncId) (args : Array Value) (w0 : World) (sps : List Sp) (rs : List Fa) (R : Value → List Sp → List Fa → Prop) : Prop := ∀ W, St w0 W sps rs → Calls P f args W (Post w0 R)
theorem FnOk.mono {f : FuncId} {args : Array Value} {R R' : Value → List Sp → List Fa → Prop} (h : FnOk P f args w0 sps rs R) (hr : ∀ v s r, R v s r → R' v s r) : FnOk P f args w0 sps rs R' :=
  fun W hs => (h W hs).mono fun _ _ ⟨v, s, r, h1, h2, h3⟩ => ⟨v, s, r, h1, hr _ _ _ h2, h3⟩
theorem fn_enter {m : Nat} {f : FuncId} {fn : Func} {c : Code} {l : List Value} {R : Value → List Sp → List Fa → Prop} (hf : P.funcs[f]? = some fn) (hb : fn.body = some c) (hn : fn.ntmps = m) (hl : Nat.ble l.length m = true) (h : CS P ⟨m, []⟩ c (bodyPost P fn (Post w0 R)) w0 (env0 l) sps rs) : FnOk P f l.toArray w0 sps rs R := by
  intro W hs
  refine calls_of_wp hf hb (h _ W ⟨rfl, ?_, fun t => ?_⟩ hs)
  · have hl' : l.length ≤ m := by simpa using hl
    simp [hn]; omega
  · simp only [env0, Array.getD_eq_getD_getElem?, List.getD_eq_getElem?_getD]
    rw [Array.getElem?_append]
    split
    · simp
    · rename_i h
      simp only [List.size_toArray, Nat.not_lt] at h
      rw [List.getElem?_eq_none h, Array.getElem?_replicate]
      split <;> rfl

theorem cs_seq {x y : Code} (h : CS P n x (Exit.then (y.wp P Q) Q) w0 e sps rs) : CS P n (.seq x y) Q w0 e sps rs := fun a W he hs => wp_seq (h a W he hs)
theorem cs_skip (h : PS n Q .normal w0 e sps rs) : CS P n .skip Q w0 e sps rs := fun a W he hs => wp_skip (h a W he hs)
theorem cs_ret (h : PS n Q .ret w0 e sps rs) : CS P n .ret Q w0 e sps rs := fun a W he hs => wp_ret (h a W he hs)
theorem cs_exit {id : Nat} (h : PS n Q (.exit id) w0 e sps rs) : CS P n (.exit id) Q w0 e sps rs := fun a W he hs => wp_exit (h a W he hs)
theorem cs_block {id : Nat} {c : Code} (h : CS P n c (Exit.inBlock id Q) w0 e sps rs) : CS P n (.block id c) Q w0 e sps rs := fun a W he hs => wp_block (h a W he hs)
theorem cs_cond {c : Operand} {x y : Code} {t : Bool} (hc : ev e c = .bool t) (h1 : t = true → CS P n x Q w0 e sps rs) (h2 : t = false → CS P n y Q w0 e sps rs) : CS P n (.cond c x y) Q w0 e sps rs :=
  fun a W he hs => wp_cond_split (t := t) (by rw [he.eval]; exact hc) (fun ht => h1 ht a W he hs) (fun ht => h2 ht a W he hs)
theorem cs_true {c : Operand} {x y : Code} (hc : ev e c = .bool true) (h1 : CS P n x Q w0 e sps rs) : CS P n (.cond c x y) Q w0 e sps rs := cs_cond hc (fun _ => h1) (fun h => by cases h)
theorem cs_false {c : Operand} {x y : Code} (hc : ev e c = .bool false) (h1 : CS P n y Q w0 e sps rs) : CS P n (.cond c x y) Q w0 e sps rs := cs_cond hc (fun h => by cases h) (fun _ => h1)
theorem ps_then {y : Code} (h : CS P n y Q w0 e sps rs) : PS n (Exit.then (y.wp P Q) Q) .normal w0 e sps rs := h
theorem ps_then_exit {K : Act → World → Prop} {id : Nat} (h : PS n Q (.exit id) w0 e sps rs) : PS n (Exit.then K Q) (.exit id) w0 e sps rs := h
theorem ps_then_ret {K : Act → World → Prop} (h : PS n Q .ret w0 e sps rs) : PS n (Exit.then K Q) .ret w0 e sps rs := h
theorem ps_block_ret {id : Nat} (h : PS n Q .ret w0 e sps rs) : PS n (Exit.inBlock id Q) .ret w0 e sps rs := h
theorem ps_block_normal {id : Nat} (h : PS n Q .normal w0 e sps rs) : PS n (Exit.inBlock id Q) .normal w0 e sps rs := h
theorem ps_block_here {id : Nat} (h : PS n Q .normal w0 e sps rs) : PS n (Exit.inBlock id Q) (.exit id) w0 e sps rs := fun a W he hs => by
  simp only [Exit.inBlock, if_true]; exact h a W he hs
/-- The way out of the body. -/
theorem results_nil {fn : Func} (h : fn.results = #[]) (tmps : Array Value) (w : World) : (results fn tmps).run P w = .ok (.tuple #[]) w := by
  simp [results, h]
theorem results_one {fn : Func} {t : Tmp} (h : fn.results = #[.tmp t]) (tmps : Array Value) (w : World) : (results fn tmps).run P w = .ok (tmps.getD t undef) w := by
  simp [results, h]
theorem results_two {fn : Func} {t u : Tmp} (h : fn.results = #[.tmp t, .tmp u]) (tmps : Array Value) (w : World) : (results fn tmps).run P w = .ok (.tuple #[tmps.getD t undef, tmps.getD u undef]) w := by
  simp [results, h]
def isEnd : Exit → Bool
  | .normal | .ret => true
  | _ => false
def isEndF (n : Fr) (x : Exit) : Bool := match n.ds with | [] => isEnd x | _ => false
theorem isEndF_ds {n : Fr} {x : Exit} (h : isEndF n x = true) : n.ds = [] ∧ isEnd x = true := by
  unfold isEndF at h
  split at h
  · exact ⟨by assumption, h⟩
  · cases h
/-- What is held since the region began. -/
inductive Suf {α : Type _} : List α → List α → Prop
  | refl {l} : Suf l l
  | cons {l l'} {x : α} : Suf l l' → Suf l (x :: l')
theorem Suf.sublist {α : Type _} {l l' : List α} (h : Suf l l') : l.Sublist l' := by
  induction h with
  | refl => exact List.Sublist.refl _
  | cons _ ih => exact ih.cons _
/-- Some parts, in their order. -/
inductive Prt : List Sp → List Sp → Prop
  | nil {l} : Prt [] l
  | keep {x : Sp} {l l'} (h : Prt l l') : Prt (x :: l) (x :: l')
  | skip {x : Sp} {l l'} (h : Prt l l') : Prt l (x :: l')
theorem Prt.sublist {l l' : List Sp} (h : Prt l l') : l.Sublist l' := by
  induction h with
  | nil => exact List.nil_sublist _
  | keep _ ih => exact ih.cons_cons _
  | skip _ ih => exact ih.cons _
inductive Ext : List Sp → List Fa → List Sp → List Fa → Prop
  | mk {s r s' r'} : Suf s s' → Suf r r' → Ext s r s' r'
  | nil {s r} : Ext [] [] s r
  | prt {s r s' r'} : Prt s s' → Suf r r' → Ext s r s' r'
theorem Ext.st {s r s' r' : _} (h : Ext s r s' r') {W : World} (hs : St w0 W s' r') : St w0 W s r := by
  cases h with
  | mk h1 h2 => exact (hs.facts fun x hx => h2.sublist.subset hx).sub h1.sublist
  | nil => exact (hs.facts fun _ h => by cases h).sub (List.nil_sublist _)
  | prt h1 h2 => exact (hs.facts fun x hx => h2.sublist.subset hx).sub h1.sublist
theorem ps_end {fn : Func} {R : Value → List Sp → List Fa → Prop} {x : Exit} {v : Value} {s : List Sp} {r : List Fa} (hx : isEndF n x = true) (hv : ∀ a W, Env n e a → St w0 W sps rs → (results fn a.tmps).run P W = .ok v W) (h : R v s r) (hE : Ext s r sps rs) : PS n (bodyPost P fn (Post w0 R)) x w0 e sps rs := by
  intro a W he hs
  have h' : a.defers = [] ∧ ∃ v, (results fn a.tmps).run P W = .ok v W ∧ Post w0 R (.returned v) W := ⟨he.defers.trans (isEndF_ds hx).1, v, hv a W he hs, v, s, r, rfl, h, hE.st hs⟩
  replace hx := (isEndF_ds hx).2
  cases x <;> first | exact h' | cases hx
theorem ps_end0 {fn : Func} {R : Value → List Sp → List Fa → Prop} {x : Exit} {s : List Sp} {r : List Fa} (hx : isEndF n x = true) (hr : fn.results = #[]) (h : R (.tuple #[]) s r) (hE : Ext s r sps rs) : PS n (bodyPost P fn (Post w0 R)) x w0 e sps rs :=
  ps_end hx (fun a W _ _ => results_nil hr _ _) h hE
theorem ps_end1 {fn : Func} {R : Value → List Sp → List Fa → Prop} {x : Exit} {t : Tmp} {v : Value} {s : List Sp} {r : List Fa} (hx : isEndF n x = true) (hr : fn.results = #[.tmp t]) (hv : ev e (.tmp t) = v) (h : R v s r) (hE : Ext s r sps rs) : PS n (bodyPost P fn (Post w0 R)) x w0 e sps rs :=
  ps_end hx (fun a W he _ => by rw [results_one hr, he.at_, ← hv]; rfl) h hE
theorem ps_end2 {fn : Func} {R : Value → List Sp → List Fa → Prop} {x : Exit} {t u : Tmp} {v1 v2 : Value} {s : List Sp} {r : List Fa} (hx : isEndF n x = true) (hr : fn.results = #[.tmp t, .tmp u]) (hv : ev e (.tmp t) = v1) (hv2 : ev e (.tmp u) = v2) (h : R (.tuple #[v1, v2]) s r) (hE : Ext s r sps rs) : PS n (bodyPost P fn (Post w0 R)) x w0 e sps rs :=
  ps_end hx (fun a W he _ => by rw [results_two hr, he.at_, he.at_, ← hv, ← hv2]; rfl) h hE
/-- A call that panics looks at no slot. -/
theorem qok_body {fn : Func} {R : Value → List Sp → List Fa → Prop} : QOk (bodyPost P fn (Post w0 R)) := by
  rintro c a d v w ⟨_, v', _, _, h, _⟩
  cases h
theorem qok_then {K : Act → World → Prop} (h : QOk Q) : QOk (Exit.then K Q) := h
theorem qok_block {id : Nat} (h : QOk Q) : QOk (Exit.inBlock id Q) := h

/-! Regions. -/
/-- The walk of a region's numbers, from a state. -/
def Can (P : Program) (ops : Array Oper) (Q : Exit → Act → World → Prop) (kds : List Nat) (nds : List Bool) (sc : List Sp) (rc : List Fa) (n : Fr) (w0 : World) (l : List Nat) (e : Nat → Value) (sps : List Sp) (rs : List Fa) : Prop :=
  ∀ a W, Env n e a → St w0 W sps rs → wpCan P ops Q (fun i => kds.getD i 2) (fun i => nds.getD i false) (fun W => St w0 W sc rc) l a W
theorem cs_seq_region {id : Nat} {ops : Array Oper} (l : List Nat) (hl : List.range ops.size = l) (h : Can P ops Q [] [] [] [] n w0 l e sps rs) : CS P n (.region id ops false) Q w0 e sps rs := by
  intro a W he hs
  refine seq_region (C := fun W => St w0 W [] []) ?_
  rw [hl]
  have := h a W he hs
  simpa using this
theorem cs_draw_region {id : Nat} {ops : Array Oper} (kds : List Nat) (nds : List Bool) (l : List Nat) (hm : P.follows .mixedOrders = true) (hs : noSel ops = true) (hl : (l.length == ops.size) = true)
    (hf : flowOk .any ops (fun i => kds.getD i 2) (fun i => nds.getD i false) l (Array.replicate ops.size false) = true) (hQ : QOk Q) (h : Can P ops Q kds nds sps rs n w0 l e sps rs) : CS P n (.region id ops true) Q w0 e sps rs :=
  fun a W he hst => flow_region hm hs hQ l (by simpa using hl) hf (h a W.drew he hst.drew)
/-- What the loads need is a part of what is held. -/
theorem cs_draw_region_at {id : Nat} {ops : Array Oper} (sc : List Sp) (kds : List Nat) (nds : List Bool) (l : List Nat) (hm : P.follows .mixedOrders = true) (hs : noSel ops = true) (hl : (l.length == ops.size) = true)
    (hf : flowOk .any ops (fun i => kds.getD i 2) (fun i => nds.getD i false) l (Array.replicate ops.size false) = true) (hQ : QOk Q) (h : Can P ops Q kds nds sc rs n w0 l e sps rs) : CS P n (.region id ops true) Q w0 e sps rs :=
  fun a W he hst => flow_region hm hs hQ l (by simpa using hl) hf (h a W.drew he hst.drew)
theorem can_nil {ops : Array Oper} {kds : List Nat} {nds : List Bool} {sc : List Sp} {rc : List Fa} (h : PS n Q .normal w0 e sps rs) : Can P ops Q kds nds sc rc n w0 [] e sps rs := h
theorem wpCan_forget {ops : Array Oper} {kd : Nat → Nat} {nd : Nat → Bool} {C C' : World → Prop} : ∀ (l : List Nat) (a : Act) (W : World), (l.all fun i => kd i != 1 && !nd i) = true → wpCan P ops Q kd nd C' l a W → wpCan P ops Q kd nd C l a W
  | [], _, _, _, h => h
  | i :: l, a, W, hl, h => by
    simp only [List.all_cons, Bool.and_eq_true, bne_iff_ne, ne_eq, Bool.not_eq_true'] at hl
    obtain ⟨⟨h1, h2⟩, h3⟩ := hl
    obtain ⟨o, ho, h⟩ := h
    refine ⟨o, ho, ?_⟩
    split
    · rename_i hk
      rw [if_pos hk] at h
      exact wpOp_mono (fun a' w' h' => ⟨fun hn => (by rw [h2] at hn; cases hn), wpCan_forget l a' w' h3 h'.2⟩) h
    · rename_i hk
      rw [if_neg hk] at h
      obtain ⟨v, hy, hc, h⟩ := h
      rw [if_neg h1] at hy
      exact ⟨v, hy, fun hk => absurd hk h1, wpCan_forget l _ W h3 h⟩
/-- Nothing more is looked at. -/
theorem can_forget {ops : Array Oper} {kds : List Nat} {nds : List Bool} {sc : List Sp} {rc : List Fa} {l : List Nat} (hl : (l.all fun i => kds.getD i 2 != 1 && !nds.getD i false) = true) (h : Can P ops Q kds nds [] [] n w0 l e sps rs) : Can P ops Q kds nds sc rc n w0 l e sps rs :=
  fun a W he hs => wpCan_forget l a W hl (h a W he hs)
end
end Go.Proofs.YtmodmjekhlnjpaaGreatDoor
namespace Go.Proofs.YtmodmjekhlnjpaaGreatDoor
open Go.RowKit

def guardOf (ops : Array Oper) (g : Option (Nat × Bool)) (e : Nat → Value) : Bool :=
  match g with
  | none => true
  | some (j, b) => match (ops[j]?).bind (·.dst) with
    | some d => match e d with
      | .bool c => c == b
      | _ => false
    | none => false
theorem wanted_of {n : Fr} {e : Nat → Value} {a : Act} (he : Env n e a) (ops : Array Oper) (o : Oper) : Region.wanted o (yielded ops a.tmps) = guardOf ops o.guard e := by
  unfold Region.wanted guardOf
  cases o.guard with
  | none => rfl
  | some p =>
    obtain ⟨j, b⟩ := p
    simp only [yielded]
    cases (ops[j]?).bind (·.dst) with
    | none => rfl
    | some d =>
      simp only [Option.bind_some, ← he.at_ d, Array.getD_eq_getD_getElem?]
      cases a.tmps[d]? with
      | none => rfl
      | some v => cases v <;> simp
def pureK (kds : List Nat) (nds : List Bool) (i : Nat) : Bool := Nat.beq (kds.getD i 2) 0 || (Nat.beq (kds.getD i 2) 2 && !nds.getD i false)
def loudK (kds : List Nat) (i : Nat) : Bool := Nat.beq (kds.getD i 2) 2

section
variable {P : Program} {ops : Array Oper} {Q : Exit → Act → World → Prop} {kds : List Nat} {nds : List Bool} {sc : List Sp} {rc : List Fa} {n : Fr} {w0 : World} {i : Nat} {l : List Nat} {e : Nat → Value} {sps : List Sp} {rs : List Fa}
  {o : Oper} {d : Nat} {ty : TypeId} {pos : String} {af : Array Edge} {g : Option (Nat × Bool)} {v : Value} {x y z : Operand}

theorem can_val (ho : ops[i]? = some o) (hw : guardOf ops o.guard e = true) (hd : o.dst = some d) (hn : Nat.blt d n.n = true) (hk : pureK kds nds i = true) (hv : ∀ W, (execOp (ev e) o).run P W = .ok (.value v) W)
    (h : Can P ops Q kds nds sc rc n w0 l (upd e d v) sps rs) : Can P ops Q kds nds sc rc n w0 (i :: l) e sps rs := by
  intro a W he hs
  refine ⟨o, ho, ?_⟩
  have hwd : Region.wanted o (yielded ops a.tmps) = true := (wanted_of he ops o).trans hw
  have hrest := h (a.put o.dst v) W (by rw [hd]; exact he.put hn v) hs
  simp only [pureK, Bool.or_eq_true, Bool.and_eq_true, Bool.not_eq_true'] at hk
  split
  · rename_i hk2
    dsimp only at hk2
    simp only [wpOp, ho, hwd, if_true, Oper.wp, he.eval, hv, Oper.upon]
    refine .inl ⟨fun hnd => ?_, hrest⟩
    rcases hk with hk | hk
    · have := Nat.eq_of_beq_eq_true hk; omega
    · rw [hk.2] at hnd; cases hnd
  · rename_i hk2
    dsimp only at hk2
    rcases hk with hk | hk
    · have hk0 := Nat.eq_of_beq_eq_true hk
      refine ⟨v, .inl ⟨hwd, fun w _ => by rw [he.eval]; exact hv w⟩, fun h1 => (by dsimp only at h1; omega), hrest⟩
    · exact absurd (Nat.eq_of_beq_eq_true hk.1) hk2
/-- Not wanted. -/
theorem can_skip {ox : Op} (ho : ops[i]? = some ⟨some d, ox, ty, pos, af, g⟩) (hw : guardOf ops g e = false) (hn : Nat.blt d n.n = true) (hk : pureK kds nds i = true ∨ (loudK kds i = true ∧ nds.getD i false = false))
    (h : Can P ops Q kds nds sc rc n w0 l (upd e d undef) sps rs) : Can P ops Q kds nds sc rc n w0 (i :: l) e sps rs := by
  intro a W he hs
  refine ⟨_, ho, ?_⟩
  have hwd : Region.wanted ⟨some d, ox, ty, pos, af, g⟩ (yielded ops a.tmps) = false := (wanted_of he ops _).trans hw
  have hrest := h (a.put (some d) undef) W (he.put hn undef) hs
  simp only [pureK, loudK, Bool.or_eq_true, Bool.and_eq_true, Bool.not_eq_true'] at hk
  split
  · rename_i hk2
    dsimp only at hk2
    simp only [wpOp, ho, hwd, Bool.false_eq_true, if_false]
    refine ⟨fun hnd => ?_, hrest⟩
    rcases hk with (hk | hk) | hk
    · have := Nat.eq_of_beq_eq_true hk; omega
    · rw [hk.2] at hnd; cases hnd
    · rw [hk.2] at hnd; cases hnd
  · rename_i hk2
    dsimp only at hk2
    refine ⟨undef, .inr ⟨hwd, rfl⟩, fun h1 => ?_, hrest⟩
    dsimp only at h1
    rcases hk with (hk | hk) | hk
    · have := Nat.eq_of_beq_eq_true hk; omega
    · exact absurd (Nat.eq_of_beq_eq_true hk.1) hk2
    · exact absurd (Nat.eq_of_beq_eq_true hk.1) hk2

theorem c_move (ho : ops[i]? = some ⟨some d, .move x, ty, pos, af, g⟩) (hw : guardOf ops g e = true) (hn : Nat.blt d n.n = true) (hk : pureK kds nds i = true) (hx : ev e x = v)
    (h : Can P ops Q kds nds sc rc n w0 l (upd e d v) sps rs) : Can P ops Q kds nds sc rc n w0 (i :: l) e sps rs :=
  can_val ho hw rfl hn hk (fun W => by simp [execOp, hx]) h
theorem c_assign (ho : ops[i]? = some ⟨some d, .assign x, ty, pos, af, g⟩) (hw : guardOf ops g e = true) (hn : Nat.blt d n.n = true) (hk : pureK kds nds i = true) (hx : ev e x = v)
    (h : Can P ops Q kds nds sc rc n w0 l (upd e d v) sps rs) : Can P ops Q kds nds sc rc n w0 (i :: l) e sps rs :=
  can_val ho hw rfl hn hk (fun W => by simp [execOp, hx]) h

/-- Arithmetic. -/
theorem c_add {t u : TypeId} {k : IntKind} {p q : Int} (ho : ops[i]? = some ⟨some d, .binOp .add t x y u, ty, pos, af, g⟩) (hw : guardOf ops g e = true) (hn : Nat.blt d n.n = true) (hk : pureK kds nds i = true) (hx : ev e x = .int k p) (hy : ev e y = .int k q)
    (h : Can P ops Q kds nds sc rc n w0 l (upd e d (.int k (k.wrap (p + q)))) sps rs) : Can P ops Q kds nds sc rc n w0 (i :: l) e sps rs :=
  can_val ho hw rfl hn hk (fun W => by simp [execOp, hx, hy, eqGuard, binOp, Op.intArith]) h
theorem c_sub {t u : TypeId} {k : IntKind} {p q : Int} (ho : ops[i]? = some ⟨some d, .binOp .sub t x y u, ty, pos, af, g⟩) (hw : guardOf ops g e = true) (hn : Nat.blt d n.n = true) (hk : pureK kds nds i = true) (hx : ev e x = .int k p) (hy : ev e y = .int k q)
    (h : Can P ops Q kds nds sc rc n w0 l (upd e d (.int k (k.wrap (p - q)))) sps rs) : Can P ops Q kds nds sc rc n w0 (i :: l) e sps rs :=
  can_val ho hw rfl hn hk (fun W => by simp [execOp, hx, hy, eqGuard, binOp, Op.intArith]) h
theorem c_mul {t u : TypeId} {k : IntKind} {p q : Int} (ho : ops[i]? = some ⟨some d, .binOp .mul t x y u, ty, pos, af, g⟩) (hw : guardOf ops g e = true) (hn : Nat.blt d n.n = true) (hk : pureK kds nds i = true) (hx : ev e x = .int k p) (hy : ev e y = .int k q)
    (h : Can P ops Q kds nds sc rc n w0 l (upd e d (.int k (k.wrap (p * q)))) sps rs) : Can P ops Q kds nds sc rc n w0 (i :: l) e sps rs :=
  can_val ho hw rfl hn hk (fun W => by simp [execOp, hx, hy, eqGuard, binOp, Op.intArith]) h
/-- The same, where nothing is wrapped. -/
theorem c_addI {t u : TypeId} {k : IntKind} {p q : Int} (ho : ops[i]? = some ⟨some d, .binOp .add t x y u, ty, pos, af, g⟩) (hw : guardOf ops g e = true) (hn : Nat.blt d n.n = true) (hk : pureK kds nds i = true) (hx : ev e x = .int k p) (hy : ev e y = .int k q) (hr : k.wrap (p + q) = p + q)
    (h : Can P ops Q kds nds sc rc n w0 l (upd e d (.int k (p + q))) sps rs) : Can P ops Q kds nds sc rc n w0 (i :: l) e sps rs := c_add ho hw hn hk hx hy (by rw [hr]; exact h)
theorem c_subI {t u : TypeId} {k : IntKind} {p q : Int} (ho : ops[i]? = some ⟨some d, .binOp .sub t x y u, ty, pos, af, g⟩) (hw : guardOf ops g e = true) (hn : Nat.blt d n.n = true) (hk : pureK kds nds i = true) (hx : ev e x = .int k p) (hy : ev e y = .int k q) (hr : k.wrap (p - q) = p - q)
    (h : Can P ops Q kds nds sc rc n w0 l (upd e d (.int k (p - q))) sps rs) : Can P ops Q kds nds sc rc n w0 (i :: l) e sps rs := c_sub ho hw hn hk hx hy (by rw [hr]; exact h)
theorem c_mulI {t u : TypeId} {k : IntKind} {p q : Int} (ho : ops[i]? = some ⟨some d, .binOp .mul t x y u, ty, pos, af, g⟩) (hw : guardOf ops g e = true) (hn : Nat.blt d n.n = true) (hk : pureK kds nds i = true) (hx : ev e x = .int k p) (hy : ev e y = .int k q) (hr : k.wrap (p * q) = p * q)
    (h : Can P ops Q kds nds sc rc n w0 l (upd e d (.int k (p * q))) sps rs) : Can P ops Q kds nds sc rc n w0 (i :: l) e sps rs := c_mul ho hw hn hk hx hy (by rw [hr]; exact h)
/-- Shifts. -/
theorem c_shr {t u : TypeId} {k k' : IntKind} {p q : Int} (ho : ops[i]? = some ⟨some d, .binOp .shr t x y u, ty, pos, af, g⟩) (hw : guardOf ops g e = true) (hn : Nat.blt d n.n = true) (hk : pureK kds nds i = true) (hx : ev e x = .int k p) (hy : ev e y = .int k' q) (hq : 0 ≤ q)
    (h : Can P ops Q kds nds sc rc n w0 l (upd e d (.int k (p.fdiv (2 ^ min q.toNat k.bits)))) sps rs) : Can P ops Q kds nds sc rc n w0 (i :: l) e sps rs :=
  can_val ho hw rfl hn hk (fun W => by simp [execOp, hx, hy, eqGuard, binOp, Op.shift, Int.not_lt.2 hq]) h
theorem c_shl {t u : TypeId} {k k' : IntKind} {p q : Int} (ho : ops[i]? = some ⟨some d, .binOp .shl t x y u, ty, pos, af, g⟩) (hw : guardOf ops g e = true) (hn : Nat.blt d n.n = true) (hk : pureK kds nds i = true) (hx : ev e x = .int k p) (hy : ev e y = .int k' q) (hq : 0 ≤ q)
    (h : Can P ops Q kds nds sc rc n w0 l (upd e d (.int k (k.wrap (p * 2 ^ min q.toNat k.bits)))) sps rs) : Can P ops Q kds nds sc rc n w0 (i :: l) e sps rs :=
  can_val ho hw rfl hn hk (fun W => by simp [execOp, hx, hy, eqGuard, binOp, Op.shift, Int.not_lt.2 hq]) h
/-- Bits. -/
def bitI (b : BinOp) (k : IntKind) (p q : Int) : Int :=
  let x := BitVec.ofInt k.bits p
  let y := BitVec.ofInt k.bits q
  match b with
  | .and => k.wrap (x &&& y).toNat
  | .or => k.wrap (x ||| y).toNat
  | .xor => k.wrap (x ^^^ y).toNat
  | .andNot => k.wrap (x &&& ~~~y).toNat
  | _ => 0
theorem c_bit {t u : TypeId} {k : IntKind} {p q r : Int} {b : BinOp} (ho : ops[i]? = some ⟨some d, .binOp b t x y u, ty, pos, af, g⟩) (hw : guardOf ops g e = true) (hn : Nat.blt d n.n = true) (hk : pureK kds nds i = true) (hx : ev e x = .int k p) (hy : ev e y = .int k q)
    (hb : (b = .and ∨ b = .or ∨ b = .xor ∨ b = .andNot)) (hr : bitI b k p q = r)
    (h : Can P ops Q kds nds sc rc n w0 l (upd e d (.int k r)) sps rs) : Can P ops Q kds nds sc rc n w0 (i :: l) e sps rs := by
  subst hr
  refine can_val ho hw rfl hn hk (fun W => ?_) h
  rcases hb with rfl | rfl | rfl | rfl <;> simp [execOp, hx, hy, eqGuard, binOp, Op.intBits, bitI]
end
end Go.Proofs.YtmodmjekhlnjpaaGreatDoor
namespace Go.Proofs.YtmodmjekhlnjpaaGreatDoor
open Go.RowKit

/-- Cells in a block that stands. -/
def Cl (g off : Nat) (cs : List Value) : Fa :=
  ⟨fun h => ∃ cells t fz, h g (.cells cells t fz) ∧ ∀ (j : Nat) (u : Value), cs[j]? = some u → cells[off + j]? = some u, fun hh ⟨c, t, f, h1, h2⟩ => ⟨c, t, f, hh _ _ h1, h2⟩⟩
theorem St.cl {w0 W : World} {sps : List Sp} {rs : List Fa} {g off : Nat} {cs : List Value} (h : St w0 W sps rs) (hm : Cl g off cs ∈ rs) : W.rangeAt g off cs := by
  obtain ⟨cells, t, fz, ⟨_, h1⟩, h2⟩ := h.fact hm
  intro j v hv
  rw [cell_of_row W g _ _ t _ h1]
  exact h2 j v hv
theorem St.bk {w0 W : World} {sps : List Sp} {rs : List Fa} {g : Nat} {bs : List Value} {t : TypeId} (h : St w0 W sps rs) (hm : Bk g bs t ∈ sps) : W.heap[g]? = some (.cells bs.toArray t (0, 0)) := by
  obtain ⟨s, u, rfl⟩ := List.append_of_mem hm
  exact (h.perm List.perm_middle).blk
theorem eqIn_ptr {P : Program} (k : Nat) (t el : TypeId) (p : Option Addr) (hu : P.underlying t = some (.pointer el)) (W : World) : (Op.equalIn (k + 1) t (.pointer p) (.pointer none)).run P W = .ok p.isNone W := by
  cases p <;> simp [Op.equalIn, run_underlying hu]
theorem eqIn_sl {P : Program} (k : Nat) (t el : TypeId) (p : Option Addr) (m c c2 c3 : Nat) (hu : P.underlying t = some (.slice el)) (W : World) : (Op.equalIn (k + 1) t (.slice p m c) (.slice none c2 c3)).run P W = .ok p.isNone W := by
  cases p <;> simp [Op.equalIn, run_underlying hu]
section
variable {P : Program} {ops : Array Oper} {Q : Exit → Act → World → Prop} {kds : List Nat} {nds : List Bool} {sc : List Sp} {rc : List Fa} {n : Fr} {w0 : World} {i : Nat} {l : List Nat} {e : Nat → Value} {sps : List Sp} {rs : List Fa}
  {o : Oper} {d : Nat} {ty : TypeId} {pos : String} {af : Array Edge} {g : Option (Nat × Bool)} {v : Value} {x y z : Operand}
theorem c_pick {a b : Operand} {t : Bool} (ho : ops[i]? = some ⟨some d, .pick x a b, ty, pos, af, g⟩) (hw : guardOf ops g e = true) (hn : Nat.blt d n.n = true) (hk : pureK kds nds i = true) (hx : ev e x = .bool t) (hv : (if t then ev e a else ev e b) = v)
    (h : Can P ops Q kds nds sc rc n w0 l (upd e d (v)) sps rs) : Can P ops Q kds nds sc rc n w0 (i :: l) e sps rs :=
  can_val ho hw rfl hn hk (fun W => by subst hv; simp [execOp, hx, asBool]) h
theorem c_not {t : TypeId} {p : Bool} (ho : ops[i]? = some ⟨some d, .unOp .not t x, ty, pos, af, g⟩) (hw : guardOf ops g e = true) (hn : Nat.blt d n.n = true) (hk : pureK kds nds i = true) (hx : ev e x = .bool p)
    (h : Can P ops Q kds nds sc rc n w0 l (upd e d (.bool (!p))) sps rs) : Can P ops Q kds nds sc rc n w0 (i :: l) e sps rs :=
  can_val ho hw rfl hn hk (fun W => by simp [execOp, hx, Op.unary]) h
theorem c_compl {t : TypeId} {k : IntKind} {p : Int} (ho : ops[i]? = some ⟨some d, .unOp .xor t x, ty, pos, af, g⟩) (hw : guardOf ops g e = true) (hn : Nat.blt d n.n = true) (hk : pureK kds nds i = true) (hx : ev e x = .int k p)
    (h : Can P ops Q kds nds sc rc n w0 l (upd e d (.int k (bitI .xor k (if k.signed = true then -1 else k.max) p))) sps rs) : Can P ops Q kds nds sc rc n w0 (i :: l) e sps rs :=
  can_val ho hw rfl hn hk (fun W => by simp [execOp, hx, Op.unary, Op.intBits, bitI]) h
theorem c_conv {s t : TypeId} {ds : TypeDesc} {k k' : IntKind} {p : Int} (ho : ops[i]? = some ⟨some d, .convert s t x, ty, pos, af, g⟩) (hw : guardOf ops g e = true) (hn : Nat.blt d n.n = true) (hk : pureK kds nds i = true) (hs : P.underlying s = some ds) (ht : P.underlying t = some (.int k)) (hx : ev e x = .int k' p)
    (h : Can P ops Q kds nds sc rc n w0 l (upd e d (.int k (k.wrap p))) sps rs) : Can P ops Q kds nds sc rc n w0 (i :: l) e sps rs :=
  can_val ho hw rfl hn hk (fun W => by simp [execOp, hx, convert, run_underlying hs, run_underlying ht, Conv.intToInt]) h
theorem c_convI {s t : TypeId} {ds : TypeDesc} {k k' : IntKind} {p : Int} (ho : ops[i]? = some ⟨some d, .convert s t x, ty, pos, af, g⟩) (hw : guardOf ops g e = true) (hn : Nat.blt d n.n = true) (hk : pureK kds nds i = true) (hs : P.underlying s = some ds) (ht : P.underlying t = some (.int k)) (hx : ev e x = .int k' p) (hr : k.wrap p = p)
    (h : Can P ops Q kds nds sc rc n w0 l (upd e d (.int k p)) sps rs) : Can P ops Q kds nds sc rc n w0 (i :: l) e sps rs :=
  can_val ho hw rfl hn hk (fun W => by simp [execOp, hx, convert, run_underlying hs, run_underlying ht, Conv.intToInt, hr]) h
theorem c_nilCheck {a : Addr} (ho : ops[i]? = some ⟨some d, .nilCheck x, ty, pos, af, g⟩) (hw : guardOf ops g e = true) (hn : Nat.blt d n.n = true) (hk : pureK kds nds i = true) (hx : ev e x = .pointer (some a))
    (h : Can P ops Q kds nds sc rc n w0 l (upd e d (.pointer (some a))) sps rs) : Can P ops Q kds nds sc rc n w0 (i :: l) e sps rs :=
  can_val ho hw rfl hn hk (fun W => by simp [execOp, hx]) h
theorem c_nilCheckF {fn : FuncId} {a b : Array Value} (ho : ops[i]? = some ⟨some d, .nilCheck x, ty, pos, af, g⟩) (hw : guardOf ops g e = true) (hn : Nat.blt d n.n = true) (hk : pureK kds nds i = true) (hx : ev e x = .func (.func fn) a b)
    (h : Can P ops Q kds nds sc rc n w0 l (upd e d (.func (.func fn) a b)) sps rs) : Can P ops Q kds nds sc rc n w0 (i :: l) e sps rs :=
  can_val ho hw rfl hn hk (fun W => by simp [execOp, hx]) h
theorem c_extract {k : Nat} {vs : Array Value} (ho : ops[i]? = some ⟨some d, .extract x k, ty, pos, af, g⟩) (hw : guardOf ops g e = true) (hn : Nat.blt d n.n = true) (hk : pureK kds nds i = true) (hx : ev e x = .tuple vs) (hv : vs[k]? = some v)
    (h : Can P ops Q kds nds sc rc n w0 l (upd e d (v)) sps rs) : Can P ops Q kds nds sc rc n w0 (i :: l) e sps rs :=
  can_val ho hw rfl hn hk (fun W => by simp [execOp, hx, Instr.extract, hv]) h
theorem c_func {f : FuncId} {caps : Array Operand} {cv : Array Value} (ho : ops[i]? = some ⟨some d, .makeFunc (.func f) #[] caps, ty, pos, af, g⟩) (hw : guardOf ops g e = true) (hn : Nat.blt d n.n = true) (hk : pureK kds nds i = true) (hx : caps.map (ev e) = cv)
    (h : Can P ops Q kds nds sc rc n w0 l (upd e d (.func (.func f) #[] cv)) sps rs) : Can P ops Q kds nds sc rc n w0 (i :: l) e sps rs :=
  can_val ho hw rfl hn hk (fun W => by simp [execOp, Instr.makeFunc, hx]) h
theorem c_len {A : Option Addr} {p c : Nat} {t el : TypeId} (ho : ops[i]? = some ⟨some d, .call ⟨.builtin .len, #[x], #[t]⟩, ty, pos, af, g⟩) (hw : guardOf ops g e = true) (hn : Nat.blt d n.n = true) (hk : pureK kds nds i = true) (hu : P.underlying t = some (.slice el)) (hx : ev e x = .slice A p c)
    (h : Can P ops Q kds nds sc rc n w0 l (upd e d (.int .i64 p)) sps rs) : Can P ops Q kds nds sc rc n w0 (i :: l) e sps rs :=
  can_val ho hw rfl hn hk (fun W => by simp [execOp, resolve, invoke, builtin, hx, Builtin.len_, goInt, run_underlying hu]) h
theorem c_fieldAddr {t : TypeId} {k off sz gg : Nat} {fs : Array Field} {f : Field} (ho : ops[i]? = some ⟨some d, .fieldAddr t x k, ty, pos, af, g⟩) (hw : guardOf ops g e = true) (hn : Nat.blt d n.n = true) (hk : pureK kds nds i = true) (hu : P.underlying t = some (.struct fs)) (hf : fs[k]? = some f) (hS : ∀ w, (sizeOf f.type).run P w = .ok sz w) (hz : Nat.beq sz 0 = false) (hx : ev e x = .pointer (some ⟨gg, off, none⟩))
    (h : Can P ops Q kds nds sc rc n w0 l (upd e d (.pointer (some ⟨gg, off + f.offset, none⟩))) sps rs) : Can P ops Q kds nds sc rc n w0 (i :: l) e sps rs :=
  can_val ho hw rfl hn hk (fun W => by have hz' : ¬ sz = 0 := Nat.ne_of_beq_eq_false hz; simp [execOp, hx, Instr.fieldAt, run_underlying hu, hf, Instr.sureAddr, fieldPlace, hS, hz', Addr.add_mid]) h
theorem c_indexStr {t : TypeId} {k : IntKind} {p : Int} {s : ByteArray} {b : UInt8} (ho : ops[i]? = some ⟨some d, .index t x y, ty, pos, af, g⟩) (hw : guardOf ops g e = true) (hn : Nat.blt d n.n = true) (hk : pureK kds nds i = true) (hu : P.underlying t = some .string) (hx : ev e x = .string s) (hy : ev e y = .int k p) (hp : 0 ≤ p) (hv : s[p.toNat]? = some b)
    (h : Can P ops Q kds nds sc rc n w0 l (upd e d (.int .u8 b.toNat)) sps rs) : Can P ops Q kds nds sc rc n w0 (i :: l) e sps rs :=
  can_val ho hw rfl hn hk (fun W => by simp [execOp, hx, hy, Instr.index, run_underlying hu, asIntOf, hp, hv]) h
theorem c_indexAddrS {t el : TypeId} {gg off m c sz : Nat} {k : IntKind} {p : Int} (ho : ops[i]? = some ⟨some d, .indexAddr t x y, ty, pos, af, g⟩) (hw : guardOf ops g e = true) (hn : Nat.blt d n.n = true) (hk : pureK kds nds i = true) (hu : P.underlying t = some (.slice el)) (hS : ∀ w, (sizeOf el).run P w = .ok sz w) (hx : ev e x = .slice (some ⟨gg, off, none⟩) m c) (hy : ev e y = .int k p) (hp : 0 ≤ p ∧ p < m)
    (h : Can P ops Q kds nds sc rc n w0 l (upd e d (.pointer (some ⟨gg, off + p.toNat * sz, none⟩))) sps rs) : Can P ops Q kds nds sc rc n w0 (i :: l) e sps rs :=
  can_val ho hw rfl hn hk (fun W => by simp [execOp, hx, hy, Instr.indexAt, run_underlying hu, asIntOf, hp, hS, Addr.add_mid]) h
theorem c_indexAddrS1 {t el : TypeId} {gg off m c : Nat} {k : IntKind} {p : Int} (ho : ops[i]? = some ⟨some d, .indexAddr t x y, ty, pos, af, g⟩) (hw : guardOf ops g e = true) (hn : Nat.blt d n.n = true) (hk : pureK kds nds i = true) (hu : P.underlying t = some (.slice el)) (hS : ∀ w, (sizeOf el).run P w = .ok 1 w) (hx : ev e x = .slice (some ⟨gg, off, none⟩) m c) (hy : ev e y = .int k p) (hp : 0 ≤ p ∧ p < m)
    (h : Can P ops Q kds nds sc rc n w0 l (upd e d (.pointer (some ⟨gg, off + p.toNat, none⟩))) sps rs) : Can P ops Q kds nds sc rc n w0 (i :: l) e sps rs :=
  can_val ho hw rfl hn hk (fun W => by simp [execOp, hx, hy, Instr.indexAt, run_underlying hu, asIntOf, hp, hS, Addr.add_mid]) h
theorem c_indexAddrA1 {t el : TypeId} {gg off m : Nat} {k : IntKind} {p : Int} (ho : ops[i]? = some ⟨some d, .indexAddr t x y, ty, pos, af, g⟩) (hw : guardOf ops g e = true) (hn : Nat.blt d n.n = true) (hk : pureK kds nds i = true) (hu : P.underlying t = some (.array m el)) (hS : ∀ w, (sizeOf el).run P w = .ok 1 w) (hx : ev e x = .pointer (some ⟨gg, off, none⟩)) (hy : ev e y = .int k p) (hp : 0 ≤ p ∧ p < m)
    (h : Can P ops Q kds nds sc rc n w0 l (upd e d (.pointer (some ⟨gg, off + p.toNat, none⟩))) sps rs) : Can P ops Q kds nds sc rc n w0 (i :: l) e sps rs :=
  can_val ho hw rfl hn hk (fun W => by simp [execOp, hx, hy, Instr.indexAt, run_underlying hu, asIntOf, hp, hS, Addr.add_mid, Instr.sureAddr]) h
theorem c_eqS {t u : TypeId} {p q : ByteArray} (ho : ops[i]? = some ⟨some d, .binOp .eql t x y u, ty, pos, af, g⟩) (hw : guardOf ops g e = true) (hn : Nat.blt d n.n = true) (hk : pureK kds nds i = true) (hx : ev e x = .string p) (hy : ev e y = .string q)
    (h : Can P ops Q kds nds sc rc n w0 l (upd e d (.bool ((p.toList == q.toList)))) sps rs) : Can P ops Q kds nds sc rc n w0 (i :: l) e sps rs :=
  can_val ho hw rfl hn hk (fun W => by simp [execOp, hx, hy, eqGuard, binOp_string_eql]) h
theorem c_eqP {t u el : TypeId} {p : Option Addr} (ho : ops[i]? = some ⟨some d, .binOp .eql t x y u, ty, pos, af, g⟩) (hw : guardOf ops g e = true) (hn : Nat.blt d n.n = true) (hk : pureK kds nds i = true) (hu : P.underlying t = some (.pointer el)) (hx : ev e x = .pointer p) (hy : ev e y = .pointer none)
    (h : Can P ops Q kds nds sc rc n w0 l (upd e d (.bool (p.isNone))) sps rs) : Can P ops Q kds nds sc rc n w0 (i :: l) e sps rs :=
  can_val ho hw rfl hn hk (fun W => by cases p <;> simp only [execOp, hx, hy, eqGuard, binOp, Op.equal, Op.maxDepth, Sem.run_bind, eqIn_ptr (P := P) 9999 t el _ hu] <;> rfl) h
theorem c_eqL {t u el : TypeId} {p : Option Addr} {m c c2 c3 : Nat} (ho : ops[i]? = some ⟨some d, .binOp .eql t x y u, ty, pos, af, g⟩) (hw : guardOf ops g e = true) (hn : Nat.blt d n.n = true) (hk : pureK kds nds i = true) (hu : P.underlying t = some (.slice el)) (hx : ev e x = .slice p m c) (hy : ev e y = .slice none c2 c3)
    (h : Can P ops Q kds nds sc rc n w0 l (upd e d (.bool (p.isNone))) sps rs) : Can P ops Q kds nds sc rc n w0 (i :: l) e sps rs :=
  can_val ho hw rfl hn hk (fun W => by cases p <;> simp only [execOp, hx, hy, eqGuard, binOp, Op.equal, Op.maxDepth, Sem.run_bind, eqIn_sl (P := P) 9999 t el _ m c c2 c3 hu] <;> rfl) h
theorem c_lss {t u : TypeId} {k : IntKind} {p q : Int} (ho : ops[i]? = some ⟨some d, .binOp .lss t x y u, ty, pos, af, g⟩) (hw : guardOf ops g e = true) (hn : Nat.blt d n.n = true) (hk : pureK kds nds i = true) (hx : ev e x = .int k p) (hy : ev e y = .int k q)
    (h : Can P ops Q kds nds sc rc n w0 l (upd e d (.bool (decide (p < q)))) sps rs) : Can P ops Q kds nds sc rc n w0 (i :: l) e sps rs :=
  can_val ho hw rfl hn hk (fun W => by simp [execOp, hx, hy, eqGuard, binOp, Op.intCmp]) h
theorem c_leq {t u : TypeId} {k : IntKind} {p q : Int} (ho : ops[i]? = some ⟨some d, .binOp .leq t x y u, ty, pos, af, g⟩) (hw : guardOf ops g e = true) (hn : Nat.blt d n.n = true) (hk : pureK kds nds i = true) (hx : ev e x = .int k p) (hy : ev e y = .int k q)
    (h : Can P ops Q kds nds sc rc n w0 l (upd e d (.bool (decide (p ≤ q)))) sps rs) : Can P ops Q kds nds sc rc n w0 (i :: l) e sps rs :=
  can_val ho hw rfl hn hk (fun W => by simp [execOp, hx, hy, eqGuard, binOp, Op.intCmp]) h
theorem c_gtr {t u : TypeId} {k : IntKind} {p q : Int} (ho : ops[i]? = some ⟨some d, .binOp .gtr t x y u, ty, pos, af, g⟩) (hw : guardOf ops g e = true) (hn : Nat.blt d n.n = true) (hk : pureK kds nds i = true) (hx : ev e x = .int k p) (hy : ev e y = .int k q)
    (h : Can P ops Q kds nds sc rc n w0 l (upd e d (.bool (decide (p > q)))) sps rs) : Can P ops Q kds nds sc rc n w0 (i :: l) e sps rs :=
  can_val ho hw rfl hn hk (fun W => by simp [execOp, hx, hy, eqGuard, binOp, Op.intCmp]) h
theorem c_geq {t u : TypeId} {k : IntKind} {p q : Int} (ho : ops[i]? = some ⟨some d, .binOp .geq t x y u, ty, pos, af, g⟩) (hw : guardOf ops g e = true) (hn : Nat.blt d n.n = true) (hk : pureK kds nds i = true) (hx : ev e x = .int k p) (hy : ev e y = .int k q)
    (h : Can P ops Q kds nds sc rc n w0 l (upd e d (.bool (decide (p ≥ q)))) sps rs) : Can P ops Q kds nds sc rc n w0 (i :: l) e sps rs :=
  can_val ho hw rfl hn hk (fun W => by simp [execOp, hx, hy, eqGuard, binOp, Op.intCmp]) h
theorem c_eql {t u : TypeId} {k : IntKind} {p q : Int} (ho : ops[i]? = some ⟨some d, .binOp .eql t x y u, ty, pos, af, g⟩) (hw : guardOf ops g e = true) (hn : Nat.blt d n.n = true) (hk : pureK kds nds i = true) (hx : ev e x = .int k p) (hy : ev e y = .int k q)
    (h : Can P ops Q kds nds sc rc n w0 l (upd e d (.bool (p == q))) sps rs) : Can P ops Q kds nds sc rc n w0 (i :: l) e sps rs :=
  can_val ho hw rfl hn hk (fun W => by simp [execOp, hx, hy, eqGuard, binOp, Op.intCmp]) h
theorem c_neq {t u : TypeId} {k : IntKind} {p q : Int} (ho : ops[i]? = some ⟨some d, .binOp .neq t x y u, ty, pos, af, g⟩) (hw : guardOf ops g e = true) (hn : Nat.blt d n.n = true) (hk : pureK kds nds i = true) (hx : ev e x = .int k p) (hy : ev e y = .int k q)
    (h : Can P ops Q kds nds sc rc n w0 l (upd e d (.bool (p != q))) sps rs) : Can P ops Q kds nds sc rc n w0 (i :: l) e sps rs :=
  can_val ho hw rfl hn hk (fun W => by simp [execOp, hx, hy, eqGuard, binOp, Op.intCmp]) h
theorem c_quo {t u : TypeId} {k : IntKind} {p q : Int} (ho : ops[i]? = some ⟨some d, .binOp .quo t x y u, ty, pos, af, g⟩) (hw : guardOf ops g e = true) (hn : Nat.blt d n.n = true) (hk : pureK kds nds i = true) (hx : ev e x = .int k p) (hy : ev e y = .int k q) (hq : q ≠ 0)
    (h : Can P ops Q kds nds sc rc n w0 l (upd e d (.int k (k.wrap (p.tdiv q)))) sps rs) : Can P ops Q kds nds sc rc n w0 (i :: l) e sps rs :=
  can_val ho hw rfl hn hk (fun W => by simp [execOp, hx, hy, eqGuard, binOp, Op.intDiv, hq]) h
theorem c_rem {t u : TypeId} {k : IntKind} {p q : Int} (ho : ops[i]? = some ⟨some d, .binOp .rem t x y u, ty, pos, af, g⟩) (hw : guardOf ops g e = true) (hn : Nat.blt d n.n = true) (hk : pureK kds nds i = true) (hx : ev e x = .int k p) (hy : ev e y = .int k q) (hq : q ≠ 0)
    (h : Can P ops Q kds nds sc rc n w0 l (upd e d (.int k (p.tmod q))) sps rs) : Can P ops Q kds nds sc rc n w0 (i :: l) e sps rs :=
  can_val ho hw rfl hn hk (fun W => by simp [execOp, hx, hy, eqGuard, binOp, Op.intDiv, hq]) h
end
end Go.Proofs.YtmodmjekhlnjpaaGreatDoor
namespace Go.Proofs.YtmodmjekhlnjpaaGreatDoor
open Go.RowKit

section
variable {P : Program} {ops : Array Oper} {Q : Exit → Act → World → Prop} {kds : List Nat} {nds : List Bool} {sc : List Sp} {rc : List Fa} {n : Fr} {w0 : World} {i : Nat} {l : List Nat} {e : Nat → Value} {sps : List Sp} {rs : List Fa}
  {o : Oper} {d : Nat} {ty : TypeId} {pos : String} {af : Array Edge} {g : Option (Nat × Bool)} {v : Value} {x y z : Operand}

theorem can_act {R : Value → List Sp → List Fa → Prop} (ho : ops[i]? = some o) (hw : guardOf ops o.guard e = true) (hd : o.dst = some d) (hn : Nat.blt d n.n = true) (hk : loudK kds i = true)
    (hrun : ∀ W, St w0 W sps rs → ∃ v W' s r, (execOp (ev e) o).run P W = .ok (.value v) W' ∧ St w0 W' s r ∧ R v s r) (hx : ∀ v s r, R v s r → nds.getD i false = false ∨ Ext sc rc s r)
    (h : ∀ v s r, R v s r → Can P ops Q kds nds sc rc n w0 l (upd e d v) s r) : Can P ops Q kds nds sc rc n w0 (i :: l) e sps rs := by
  intro a W he hs
  refine ⟨o, ho, ?_⟩
  have hk2 : kds.getD i 2 = 2 := Nat.eq_of_beq_eq_true hk
  rw [if_pos hk2]
  obtain ⟨v, W', s, r, h1, h2, h3⟩ := hrun W hs
  have hwd : Region.wanted o (yielded ops a.tmps) = true := (wanted_of he ops o).trans hw
  simp only [wpOp, ho, hwd, if_true, Oper.wp, he.eval, h1, Oper.upon]
  refine .inl ⟨fun hnd => ?_, h v s r h3 _ W' (by rw [hd]; exact he.put hn v) h2⟩
  rcases hx v s r h3 with hx | hx
  · rw [hx] at hnd; cases hnd
  · exact hx.st h2
theorem can_act0 {R : List Sp → List Fa → Prop} (ho : ops[i]? = some o) (hw : guardOf ops o.guard e = true) (hd : o.dst = none) (hk : loudK kds i = true)
    (hrun : ∀ W, St w0 W sps rs → ∃ W' s r, (execOp (ev e) o).run P W = .ok .skip W' ∧ St w0 W' s r ∧ R s r) (hx : ∀ s r, R s r → nds.getD i false = false ∨ Ext sc rc s r)
    (h : ∀ s r, R s r → Can P ops Q kds nds sc rc n w0 l e s r) : Can P ops Q kds nds sc rc n w0 (i :: l) e sps rs := by
  intro a W he hs
  refine ⟨o, ho, ?_⟩
  have hk2 : kds.getD i 2 = 2 := Nat.eq_of_beq_eq_true hk
  rw [if_pos hk2]
  obtain ⟨W', s, r, h1, h2, h3⟩ := hrun W hs
  have hwd : Region.wanted o (yielded ops a.tmps) = true := (wanted_of he ops o).trans hw
  simp only [wpOp, ho, hwd, if_true, Oper.wp, he.eval, h1, Oper.upon]
  refine .inl ⟨fun hnd => ?_, h s r h3 _ W' (by rw [hd]; exact he) h2⟩
  rcases hx s r h3 with hx | hx
  · rw [hx] at hnd; cases hnd
  · exact hx.st h2

/-- New blocks. -/
theorem c_box {t : TypeId} {cs : List Value} (ho : ops[i]? = some ⟨some d, .box t x, ty, pos, af, g⟩) (hw : guardOf ops g e = true) (hn : Nat.blt d n.n = true) (hk : loudK kds i = true) (hx : (ev e x).cells = cs.toArray) (hxt : ∀ gg, nds.getD i false = false ∨ Ext sc rc (Bk gg cs t :: sps) rs)
    (h : ∀ gg, Can P ops Q kds nds sc rc n w0 l (upd e d (.pointer (some ⟨gg, 0, none⟩))) (Bk gg cs t :: sps) rs) : Can P ops Q kds nds sc rc n w0 (i :: l) e sps rs :=
  can_act (R := fun v s r => ∃ gg, v = .pointer (some ⟨gg, 0, none⟩) ∧ s = Bk gg cs t :: sps ∧ r = rs) ho hw rfl hn hk
    (fun W hs => ⟨_, W.alloc (.cells cs.toArray t), _, _, by simp [execOp, Instr.box, newVar, newRow, hx], hs.alloc cs t, _, rfl, rfl, rfl⟩)
    (by rintro v s r ⟨gg, rfl, rfl, rfl⟩; exact hxt gg) (by rintro v s r ⟨gg, rfl, rfl, rfl⟩; exact h gg)
theorem c_alloc {t : TypeId} {zv : Value} {cs : List Value} (ho : ops[i]? = some ⟨some d, .alloc t, ty, pos, af, g⟩) (hw : guardOf ops g e = true) (hn : Nat.blt d n.n = true) (hk : loudK kds i = true) (hz : ∀ w, (zeroValue t).run P w = .ok zv w) (hx : zv.cells = cs.toArray) (hxt : ∀ gg, nds.getD i false = false ∨ Ext sc rc (Bk gg cs t :: sps) rs)
    (h : ∀ gg, Can P ops Q kds nds sc rc n w0 l (upd e d (.pointer (some ⟨gg, 0, none⟩))) (Bk gg cs t :: sps) rs) : Can P ops Q kds nds sc rc n w0 (i :: l) e sps rs :=
  can_act (R := fun v s r => ∃ gg, v = .pointer (some ⟨gg, 0, none⟩) ∧ s = Bk gg cs t :: sps ∧ r = rs) ho hw rfl hn hk
    (fun W hs => ⟨_, W.alloc (.cells cs.toArray t), _, _, by simp [execOp, Instr.alloc, newVar, newRow, hz, hx], hs.alloc cs t, _, rfl, rfl, rfl⟩)
    (by rintro v s r ⟨gg, rfl, rfl, rfl⟩; exact hxt gg) (by rintro v s r ⟨gg, rfl, rfl, rfl⟩; exact h gg)
theorem c_buildSlice {t el : TypeId} {m sz : Nat} {zv : Value} {ps : Array (Nat × Operand)} {cs : List Value} (ho : ops[i]? = some ⟨some d, .buildSlice t m ps, ty, pos, af, g⟩) (hw : guardOf ops g e = true) (hn : Nat.blt d n.n = true) (hk : loudK kds i = true) (hu : P.underlying t = some (.slice el)) (hS : ∀ w, (sizeOf el).run P w = .ok sz w) (hz : ∀ w, (zeroValue el).run P w = .ok zv w)
    (hm : Nat.ble (m * sz) (2 ^ 24) = true) (hx : Instr.fill (fun i => some (i * sz, sz)) ((Array.range (m * sz)).map (zv.cells[· % zv.cells.size]!)) (ps.map (fun (i, x) => (i, ev e x))).toList = some cs.toArray) (hxt : ∀ gg, nds.getD i false = false ∨ Ext sc rc (Bk gg cs el :: sps) rs)
    (h : ∀ gg, Can P ops Q kds nds sc rc n w0 l (upd e d (.slice (some ⟨gg, 0, none⟩) m m)) (Bk gg cs el :: sps) rs) : Can P ops Q kds nds sc rc n w0 (i :: l) e sps rs := by
  have hm' : ¬ (2 ^ 24 < m * sz) := by have := Nat.le_of_ble_eq_true hm; omega
  refine can_act (R := fun v s r => ∃ gg, v = .slice (some ⟨gg, 0, none⟩) m m ∧ s = Bk gg cs el :: sps ∧ r = rs) ho hw rfl hn hk
    (fun W hs => ⟨_, W.alloc (.cells cs.toArray el), _, _, ?_, hs.alloc cs el, _, rfl, rfl, rfl⟩)
    (by rintro v s r ⟨gg, rfl, rfl, rfl⟩; exact hxt gg) (by rintro v s r ⟨gg, rfl, rfl, rfl⟩; exact h gg)
  by_cases h0 : m * sz = 0
  · have e0 : (Array.range (m * sz)).map (zv.cells[· % zv.cells.size]!) = (Array.range (m * sz)).map ((#[] : Array Value)[· % (#[] : Array Value).size]!) := by
      simp [h0]
    rw [e0] at hx
    simp only [execOp, Instr.buildSlice, Sem.run_bind, run_underlying hu, Result.andThen_ok, hS, if_neg hm', if_pos h0, Sem.run_pure, hx, newRow]
    rfl
  · simp only [execOp, Instr.buildSlice, Sem.run_bind, run_underlying hu, Result.andThen_ok, hS, if_neg hm', if_neg h0, hz, Sem.run_pure, hx, newRow]
    rfl

/-- Loads. -/
def ldOk (P : Program) (kds : List Nat) (nds : List Bool) (sc : List Sp) (rc : List Fa) (w0 : World) (i : Nat) (sps : List Sp) (rs : List Fa) (g off : Nat) (cs : List Value) : Prop :=
  (loudK kds i = true ∧ nds.getD i false = false ∧ ∀ W, St w0 W sps rs → W.rangeAt g off cs) ∨ (nds.getD i false = false ∧ (Nat.beq (kds.getD i 2) 1 = true ∧ Ext sc rc sps rs) ∧ ∀ W, St w0 W sc rc → W.rangeAt g off cs)
theorem can_ld {gg off : Nat} {cs : List Value} (ho : ops[i]? = some o) (hw : guardOf ops o.guard e = true) (hd : o.dst = some d) (hn : Nat.blt d n.n = true) (hl : ldOk P kds nds sc rc w0 i sps rs gg off cs)
    (hv : ∀ W, W.rangeAt gg off cs → (execOp (ev e) o).run P W = .ok (.value v) W) (h : Can P ops Q kds nds sc rc n w0 l (upd e d v) sps rs) : Can P ops Q kds nds sc rc n w0 (i :: l) e sps rs := by
  intro a W he hs
  refine ⟨o, ho, ?_⟩
  have hwd : Region.wanted o (yielded ops a.tmps) = true := (wanted_of he ops o).trans hw
  have hrest := h (a.put o.dst v) W (by rw [hd]; exact he.put hn v) hs
  split
  · rename_i hk2
    have hr : W.rangeAt gg off cs := by
      rcases hl with hl | hl
      · exact hl.2.2 W hs
      · exact hl.2.2 W (hl.2.1.2.st hs)
    simp only [wpOp, ho, hwd, if_true, Oper.wp, he.eval, hv W hr, Oper.upon]
    refine .inl ⟨fun hnd => ?_, hrest⟩
    rcases hl with hl | hl
    · rw [hl.2.1] at hnd; cases hnd
    · rw [hl.1] at hnd; cases hnd
  · rename_i hk2
    rcases hl with hl | hl
    · exact absurd (Nat.eq_of_beq_eq_true hl.1) hk2
    · refine ⟨v, ?_, fun _ => hl.2.1.2.st hs, hrest⟩
      split
      · exact .inl ⟨hwd, fun w hw' => by rw [he.eval]; exact hv w (hl.2.2 w hw')⟩
      · rename_i h1
        exact absurd (Nat.eq_of_beq_eq_true hl.2.1.1) h1
theorem ldS {gg off : Nat} {bs cs : List Value} {t' : TypeId} (hk : loudK kds i = true) (hnd : nds.getD i false = false) (hm : Bk gg bs t' ∈ sps) (hr : ∀ (j : Nat) (u : Value), cs[j]? = some u → bs[off + j]? = some u) : ldOk P kds nds sc rc w0 i sps rs gg off cs :=
  .inl ⟨hk, hnd, fun W hs j u hu => by rw [cell_of_row W gg _ _ t' _ (hs.bk hm)]; simpa using hr j u hu⟩
theorem ldD {gg off : Nat} {bs cs : List Value} {t' : TypeId} (hk : Nat.beq (kds.getD i 2) 1 = true) (hnd : nds.getD i false = false) (hx : Ext sc rc sps rs) (hm : Bk gg bs t' ∈ sc) (hr : ∀ (j : Nat) (u : Value), cs[j]? = some u → bs[off + j]? = some u) : ldOk P kds nds sc rc w0 i sps rs gg off cs :=
  .inr ⟨hnd, ⟨hk, hx⟩, fun W hs j u hu => by rw [cell_of_row W gg _ _ t' _ (hs.bk hm)]; simpa using hr j u hu⟩
theorem ldSC {gg off k : Nat} {bs cs : List Value} (hk : loudK kds i = true) (hnd : nds.getD i false = false) (hm : Cl gg off bs ∈ rs) (hr : ∀ (j : Nat) (u : Value), cs[j]? = some u → bs[k + j]? = some u) : ldOk P kds nds sc rc w0 i sps rs gg (off + k) cs :=
  .inl ⟨hk, hnd, fun W hs j u hu => by rw [Nat.add_assoc]; exact hs.cl hm _ u (hr j u hu)⟩
theorem ldDC {gg off k : Nat} {bs cs : List Value} (hk : Nat.beq (kds.getD i 2) 1 = true) (hnd : nds.getD i false = false) (hx : Ext sc rc sps rs) (hm : Cl gg off bs ∈ rc) (hr : ∀ (j : Nat) (u : Value), cs[j]? = some u → bs[k + j]? = some u) : ldOk P kds nds sc rc w0 i sps rs gg (off + k) cs :=
  .inr ⟨hnd, ⟨hk, hx⟩, fun W hs j u hu => by rw [Nat.add_assoc]; exact hs.cl hm _ u (hr j u hu)⟩
theorem sub1 {bs : List Value} {off : Nat} {v : Value} (h : bs[off]? = some v) : ∀ (j : Nat) (u : Value), [v][j]? = some u → bs[off + j]? = some u := by
  intro j u hu
  cases j with
  | zero => simp at hu; subst hu; exact h
  | succ j => simp at hu
theorem subAll {bs : List Value} : ∀ (j : Nat) (u : Value), bs[j]? = some u → bs[0 + j]? = some u := fun j u h => by rw [Nat.zero_add]; exact h
theorem subN {bs cs : List Value} {off m : Nat} (h : (bs.drop off).take m = cs) : ∀ (j : Nat) (u : Value), cs[j]? = some u → bs[off + j]? = some u := by
  intro j u hu
  rw [← h, List.getElem?_take] at hu
  split at hu
  · rw [List.getElem?_drop] at hu; exact hu
  · cases hu
theorem run_load1 {t : TypeId} {gg off : Nat} {v : Value} (hA : ∀ w, (isAgg t).run P w = .ok false w) (W : World) (h : W.rangeAt gg off [v]) : (Instr.loadAt t (.pointer (some ⟨gg, off, none⟩))).run P W = .ok v W := by
  have hc : W.cell? ⟨gg, off, none⟩ = some v := by simpa using h 0 v rfl
  simp [Instr.loadAt, Instr.sureAddr, loadVar, hA, load, Sem.run, hc]
theorem run_loadN {t : TypeId} {gg off sz : Nat} {cs : List Value} (hA : ∀ w, (isAgg t).run P w = .ok true w) (hS : ∀ w, (sizeOf t).run P w = .ok sz w) (hl : cs.length = sz) (W : World) (h : W.rangeAt gg off cs) : (Instr.loadAt t (.pointer (some ⟨gg, off, none⟩))).run P W = .ok (.agg cs.toArray) W := by
  have hl' : (loadCells ⟨gg, off, none⟩ cs.length).run P W = .ok cs.toArray W :=
    run_loadCells_list (P := P) W ⟨gg, off, none⟩ cs (fun j v hv => by rw [Addr.add_mid]; exact h j v hv)
  rw [hl] at hl'
  simp [Instr.loadAt, Instr.sureAddr, loadVar, hA, hS, hl']
theorem c_load1 {t : TypeId} {gg off : Nat} (ho : ops[i]? = some ⟨some d, .load t x, ty, pos, af, g⟩) (hw : guardOf ops g e = true) (hn : Nat.blt d n.n = true) (hA : ∀ w, (isAgg t).run P w = .ok false w) (hx : ev e x = .pointer (some ⟨gg, off, none⟩)) (hl : ldOk P kds nds sc rc w0 i sps rs gg off [v])
    (h : Can P ops Q kds nds sc rc n w0 l (upd e d v) sps rs) : Can P ops Q kds nds sc rc n w0 (i :: l) e sps rs :=
  can_ld ho hw rfl hn hl (fun W hr => by simp [execOp, hx, run_load1 hA W hr]) h
theorem c_loadN {t : TypeId} {gg off sz : Nat} {cs : List Value} (ho : ops[i]? = some ⟨some d, .load t x, ty, pos, af, g⟩) (hw : guardOf ops g e = true) (hn : Nat.blt d n.n = true) (hA : ∀ w, (isAgg t).run P w = .ok true w) (hS : ∀ w, (sizeOf t).run P w = .ok sz w) (hx : ev e x = .pointer (some ⟨gg, off, none⟩)) (hl : ldOk P kds nds sc rc w0 i sps rs gg off cs) (hc : cs.length = sz)
    (h : Can P ops Q kds nds sc rc n w0 l (upd e d (.agg cs.toArray)) sps rs) : Can P ops Q kds nds sc rc n w0 (i :: l) e sps rs :=
  can_ld ho hw rfl hn hl (fun W hr => by simp [execOp, hx, run_loadN hA hS hc W hr]) h

/-- One part, and what stands before and behind it. -/
inductive Foc (s : Sp) : List Sp → List Sp → List Sp → Prop
  | here {l : List Sp} : Foc s (s :: l) [] l
  | there {x : Sp} {l a b : List Sp} (h : Foc s l a b) : Foc s (x :: l) (x :: a) b
theorem Foc.eq {s : Sp} {l a b : List Sp} (h : Foc s l a b) : l = a ++ s :: b := by
  induction h with
  | here => rfl
  | there _ ih => rw [ih]; rfl
/-- One part is left out. -/
inductive Rem (s : Sp) : List Sp → List Sp → Prop
  | here {l : List Sp} : Rem s (s :: l) l
  | there {x : Sp} {l l' : List Sp} (h : Rem s l l') : Rem s (x :: l) (x :: l')
theorem Rem.perm {s : Sp} {l l' : List Sp} (h : Rem s l l') : l.Perm (s :: l') := by
  induction h with
  | here => exact List.Perm.refl _
  | there _ ih => exact (ih.cons _).trans (List.Perm.swap _ _ _)

/-- Stores. -/
def spl (bs : List Value) (off : Nat) (cs : List Value) : List Value := bs.take off ++ cs ++ bs.drop (off + cs.length)
theorem St.setRow {W : World} {gg : Nat} {bs bs' : List Value} {t' : TypeId} (h : St w0 W (Bk gg bs t' :: sps) rs) : St w0 (W.setRow gg bs'.toArray) (Bk gg bs' t' :: sps) rs := by
  have hg := h.blk
  have hlt := lt_heap hg
  have h1 : ∀ k, k ≠ gg → (W.setRow gg bs'.toArray).heap[k]? = W.heap[k]? := fun k hk => by
    simp only [World.setRow, Array.getElem?_modify]
    rw [if_neg (fun e => hk e.symm)]
  refine h.turn (g := gg) (ob := .cells bs.toArray t' (0, 0)) (ob' := .cells bs'.toArray t' (0, 0)) (fun _ _ e => e) (fun _ _ => rfl) ⟨rfl, rfl, rfl, by simp, fun k hk => h1 k (by have := h.base; omega)⟩ ?_ fun k b hne hk => by rw [h1 k hne]; exact hk
  simp only [World.setRow, Array.getElem?_modify, if_true, hg, Option.map_some]
theorem c_storeN {t : TypeId} {gg off sz : Nat} {bs bs' cs : List Value} {t' : TypeId} {pre post sps' : List Sp} (ho : ops[i]? = some ⟨none, .store t x y, ty, pos, af, g⟩) (hw : guardOf ops g e = true) (hk : loudK kds i = true) (hS : ∀ w, (sizeOf t).run P w = .ok sz w) (hx : ev e x = .pointer (some ⟨gg, off, none⟩)) (hy : (ev e y).cells = cs.toArray) (hf : Foc (Bk gg bs t') sps pre post) (hc : cs.length = sz)
    (h1 : (cs.all fun u => u.oneCell') = true) (hb : off + cs.length ≤ bs.length) (hbs : spl bs off cs = bs') (hp : pre ++ Bk gg bs' t' :: post = sps') (hxt : nds.getD i false = false ∨ Ext sc rc sps' rs)
    (h : Can P ops Q kds nds sc rc n w0 l e sps' rs) : Can P ops Q kds nds sc rc n w0 (i :: l) e sps rs := by
  obtain rfl := hf.eq
  subst hp
  refine can_act0 (R := fun s r => s = pre ++ Bk gg bs' t' :: post ∧ r = rs) ho hw rfl hk (fun W hs => ?_) (by rintro s r ⟨rfl, rfl⟩; exact hxt) (by rintro s r ⟨rfl, rfl⟩; exact h)
  have hs' := hs.perm (List.perm_middle (l₁ := pre))
  have hst := run_storeCells_at P gg off t' cs 0 bs.toArray W hs'.blk (by simpa using hb) (fun u hu => List.all_eq_true.1 h1 u hu)
  refine ⟨W.setRow gg bs'.toArray, _, _, ?_, (hs'.setRow (bs' := bs')).perm (List.perm_middle (l₁ := pre)).symm, rfl, rfl⟩
  simp only [Nat.add_zero] at hst
  have hz : cs.toArray.size = sz := by simpa using hc
  simp only [execOp, Instr.storeAt, hx, hy, Instr.sureAddr, Sem.run_bind, Sem.run_pure, Result.andThen_ok, storeVar, hS, hz, ne_eq, not_true_eq_false, if_false, List.toList_toArray, hst, ← hbs, spl]
theorem spl1 {bs : List Value} {off : Nat} {v : Value} (h : off < bs.length) : spl bs off [v] = bs.set off v := by
  simp only [spl, List.length_singleton]
  rw [List.set_eq_take_append_cons_drop, if_pos h, List.append_assoc]; rfl
theorem splAll {bs cs : List Value} (h : cs.length = bs.length) : spl bs 0 cs = cs := by
  simp [spl, h]
theorem c_store1 {t : TypeId} {gg off : Nat} {bs bs' : List Value} {t' : TypeId} {pre post sps' : List Sp} (ho : ops[i]? = some ⟨none, .store t x y, ty, pos, af, g⟩) (hw : guardOf ops g e = true) (hk : loudK kds i = true) (hS : ∀ w, (sizeOf t).run P w = .ok 1 w) (hx : ev e x = .pointer (some ⟨gg, off, none⟩)) (hy : ev e y = v) (hf : Foc (Bk gg bs t') sps pre post)
    (h1 : v.oneCell' = true) (hb : off < bs.length) (hbs : bs.set off v = bs') (hp : pre ++ Bk gg bs' t' :: post = sps') (hxt : nds.getD i false = false ∨ Ext sc rc sps' rs)
    (h : Can P ops Q kds nds sc rc n w0 l e sps' rs) : Can P ops Q kds nds sc rc n w0 (i :: l) e sps rs :=
  c_storeN (cs := [v]) ho hw hk hS hx (by rw [hy]; cases v <;> first | rfl | cases h1) hf rfl (by simp [h1]) hb ((spl1 hb).trans hbs) hp hxt h
theorem c_storeB {t : TypeId} {gg sz : Nat} {bs cs : List Value} {t' : TypeId} {pre post sps' : List Sp} (ho : ops[i]? = some ⟨none, .store t x y, ty, pos, af, g⟩) (hw : guardOf ops g e = true) (hk : loudK kds i = true) (hS : ∀ w, (sizeOf t).run P w = .ok sz w) (hx : ev e x = .pointer (some ⟨gg, 0, none⟩)) (hy : (ev e y).cells = cs.toArray) (hf : Foc (Bk gg bs t') sps pre post) (hc : cs.length = sz) (hb : bs.length = sz)
    (h1 : (cs.all fun u => u.oneCell') = true) (hp : pre ++ Bk gg cs t' :: post = sps') (hxt : nds.getD i false = false ∨ Ext sc rc sps' rs)
    (h : Can P ops Q kds nds sc rc n w0 l e sps' rs) : Can P ops Q kds nds sc rc n w0 (i :: l) e sps rs :=
  c_storeN ho hw hk hS hx hy hf hc h1 (by omega) (splAll (by omega)) hp hxt h

/-- Calls. -/
theorem c_call {f : FuncId} {ax : Array Operand} {ts : Array TypeId} {R : Value → List Sp → List Fa → Prop} {argl : List Value} (ho : ops[i]? = some ⟨some d, .call ⟨.value (.func f), ax, ts⟩, ty, pos, af, g⟩) (hw : guardOf ops g e = true) (hn : Nat.blt d n.n = true) (hk : loudK kds i = true) (hc : ∀ args w, (callFunc f args).run P w = .ok (.enter f args) w)
    (hF : FnOk P f argl.toArray w0 sps rs R) (ha : ax.toList.map (ev e) = argl) (hxt : ∀ v s r, R v s r → nds.getD i false = false ∨ Ext sc rc s r) (h : ∀ v s r, R v s r → Can P ops Q kds nds sc rc n w0 l (upd e d v) s r) : Can P ops Q kds nds sc rc n w0 (i :: l) e sps rs := by
  intro a W he hs
  refine ⟨_, ho, ?_⟩
  have hk2 : kds.getD i 2 = 2 := Nat.eq_of_beq_eq_true hk
  rw [if_pos hk2]
  have hwd : Region.wanted ⟨some d, .call ⟨.value (.func f), ax, ts⟩, ty, pos, af, g⟩ (yielded ops a.tmps) = true := (wanted_of he ops _).trans hw
  have hm : ax.map (ev e) = argl.toArray := by rw [← ha]; apply Array.ext'; simp
  have hrun : (execOp (ev e) ⟨some d, .call ⟨.value (.func f), ax, ts⟩, ty, pos, af, g⟩).run P W = .ok (.enter f argl.toArray) W := by
    simp [execOp, resolve, invoke, ev, Deferred.ofValue, hm, hc]
  simp only [wpOp, ho, hwd, if_true, Oper.wp, he.eval, hrun, Oper.upon]
  refine .inl ((hF W hs).mono ?_)
  rintro e' W' ⟨v, s, r, rfl, hR, hs'⟩
  refine ⟨fun hnd => ?_, h v s r hR _ W' (he.put hn v) hs'⟩
  rcases hxt v s r hR with hx | hx
  · rw [hx] at hnd; cases hnd
  · exact hx.st hs'
/-- A closure. -/
theorem c_callF {f : FuncId} {fo : Operand} {cv : Array Value} {ax : Array Operand} {ts : Array TypeId} {R : Value → List Sp → List Fa → Prop} {argl : List Value} (ho : ops[i]? = some ⟨some d, .call ⟨.value fo, ax, ts⟩, ty, pos, af, g⟩) (hw : guardOf ops g e = true) (hn : Nat.blt d n.n = true) (hk : loudK kds i = true) (hf : ev e fo = .func (.func f) #[] cv) (hc : ∀ args w, (callFunc f args).run P w = .ok (.enter f args) w)
    (hF : FnOk P f argl.toArray w0 sps rs R) (ha : ax.toList.map (ev e) ++ cv.toList = argl) (hxt : ∀ v s r, R v s r → nds.getD i false = false ∨ Ext sc rc s r) (h : ∀ v s r, R v s r → Can P ops Q kds nds sc rc n w0 l (upd e d v) s r) : Can P ops Q kds nds sc rc n w0 (i :: l) e sps rs := by
  intro a W he hs
  refine ⟨_, ho, ?_⟩
  have hk2 : kds.getD i 2 = 2 := Nat.eq_of_beq_eq_true hk
  rw [if_pos hk2]
  have hwd : Region.wanted ⟨some d, .call ⟨.value fo, ax, ts⟩, ty, pos, af, g⟩ (yielded ops a.tmps) = true := (wanted_of he ops _).trans hw
  have hm : ax.map (ev e) ++ cv = argl.toArray := by rw [← ha]; apply Array.ext'; simp
  have hrun : (execOp (ev e) ⟨some d, .call ⟨.value fo, ax, ts⟩, ty, pos, af, g⟩).run P W = .ok (.enter f argl.toArray) W := by
    simp [execOp, resolve, invoke, hf, Deferred.ofValue, hm, hc]
  simp only [wpOp, ho, hwd, if_true, Oper.wp, he.eval, hrun, Oper.upon]
  refine .inl ((hF W hs).mono ?_)
  rintro e' W' ⟨v, s, r, rfl, hR, hs'⟩
  refine ⟨fun hnd => ?_, h v s r hR _ W' (he.put hn v) hs'⟩
  rcases hxt v s r hR with hx | hx
  · rw [hx] at hnd; cases hnd
  · exact hx.st hs'

/-- What a state leads to. -/
def En (w0 : World) (sps : List Sp) (rs : List Fa) (R : List Sp → List Fa → Prop) : Prop := ∀ W, St w0 W sps rs → ∃ s r, St w0 W s r ∧ R s r
theorem can_en {R : List Sp → List Fa → Prop} (hE : En w0 sps rs R) (h : ∀ s r, R s r → Can P ops Q kds nds sc rc n w0 l e s r) : Can P ops Q kds nds sc rc n w0 l e sps rs := fun a W he hs =>
  let ⟨s, r, h1, h2⟩ := hE W hs
  h s r h2 a W he h1
theorem cs_en {c : Code} {R : List Sp → List Fa → Prop} (hE : En w0 sps rs R) (h : ∀ s r, R s r → CS P n c Q w0 e s r) : CS P n c Q w0 e sps rs := fun a W he hs =>
  let ⟨s, r, h1, h2⟩ := hE W hs
  h s r h2 a W he h1
theorem ps_en {q : Exit} {R : List Sp → List Fa → Prop} (hE : En w0 sps rs R) (h : ∀ s r, R s r → PS n Q q w0 e s r) : PS n Q q w0 e sps rs := fun a W he hs =>
  let ⟨s, r, h1, h2⟩ := hE W hs
  h s r h2 a W he h1
theorem fn_en {f : FuncId} {args : Array Value} {R' : Value → List Sp → List Fa → Prop} {R : List Sp → List Fa → Prop} (hE : En w0 sps rs R) (h : ∀ s r, R s r → FnOk P f args w0 s r R') : FnOk P f args w0 sps rs R' := fun W hs =>
  let ⟨s, r, h1, h2⟩ := hE W hs
  h s r h2 W h1
theorem en_sub {sps' : List Sp} (h : sps'.Sublist sps) : En w0 sps rs fun s r => sps' = s ∧ rs = r := fun _ hs => ⟨_, _, hs.sub h, rfl, rfl⟩
section
variable {α : Type} {dr : Rep α} {el : TypeId} {xs : List α} {pre post : List Sp}
/-- An own row is owned no more: it reads. -/
theorem en_give {sps' : List Sp} (hr : Rem (Row dr el v xs) sps sps') : En w0 sps rs fun s r => sps' = s ∧ r = Rd dr v xs :: rs := fun _ hs => ⟨_, _, (hs.perm hr.perm).giveRow, rfl, rfl⟩
theorem en_asRd {gg m : Nat} {bs : List Value} {t' : TypeId} {sps' : List Sp} (hr : Rem (Bk gg bs t') sps sps') (hk : ∀ hh : Hp, (∀ r ∈ rs, r.P hh) → Reps dr hh xs bs) (hl : xs.length = m) (hm : m ≤ 9223372036854775807) :
    En w0 sps rs fun s r => sps' = s ∧ r = Rd dr (.slice (some ⟨gg, 0, none⟩) m m) xs :: rs := fun _ hs => ⟨_, _, ((hs.perm hr.perm).asRow hk m hl hm).giveRow, rfl, rfl⟩
theorem en_asRow {gg m : Nat} {bs : List Value} {t' : TypeId} (hk : ∀ hh : Hp, (∀ r ∈ rs, r.P hh) → Reps dr hh xs bs) (hl : xs.length = m) (hm : m ≤ 9223372036854775807) :
    En w0 (pre ++ Bk gg bs t' :: post) rs fun s r => s = pre ++ Row dr t' (.slice (some ⟨gg, 0, none⟩) m m) xs :: post ∧ rs = r := fun _ hs =>
  ⟨_, _, ((hs.perm (List.perm_middle (l₁ := pre))).asRow hk m hl hm).perm (List.perm_middle (l₁ := pre)).symm, rfl, rfl⟩
theorem en_nilRow (dr : Rep α) (el : TypeId) : En w0 sps rs fun s r => s = Row dr el (.slice none 0 0) [] :: sps ∧ rs = r := fun _ hs => ⟨_, _, hs.nilRow dr el, rfl, rfl⟩
theorem en_fact {r : Fa} (h : ∀ hh : Hp, (∀ r ∈ rs, r.P hh) → r.P hh) : En w0 sps rs fun s r' => sps = s ∧ r' = r :: rs := fun _ hs => ⟨_, _, hs.more h, rfl, rfl⟩
theorem en_nilRd (dr : Rep α) : En w0 sps rs fun s r' => sps = s ∧ r' = Rd dr (.slice none 0 0) [] :: rs := en_fact fun _ _ => SV.nil _ _
/-- The shape of what reads as a row. -/
theorem en_shape (hm : Rd dr v xs ∈ rs) : En w0 sps rs fun s r => sps = s ∧ rs = r ∧ ∃ A c, v = .slice A xs.length c ∧ xs.length ≤ c ∧ (A = none → c = 0) ∧ xs.length ≤ 9223372036854775807 := fun W hs => by
  obtain ⟨A, c, h1, h2, h3, h4⟩ := hs.fact hm
  exact ⟨_, _, hs, rfl, rfl, A, c, h1, h2, h3, h4.1⟩
theorem en_rowShape (hm : Row dr el v xs ∈ sps) : En w0 sps rs fun s r => sps = s ∧ rs = r ∧ ∃ A c, v = .slice A xs.length c ∧ xs.length ≤ c ∧ (A = none → c = 0) ∧ xs.length ≤ 9223372036854775807 := fun W hs => by
  obtain ⟨pre, post, rfl⟩ := List.append_of_mem hm
  obtain ⟨A, c, h1, h2, h3, h4⟩ := (hs.perm (List.perm_middle (l₁ := pre))).giveRow.fact List.mem_cons_self
  exact ⟨_, _, hs, rfl, rfl, A, c, h1, h2, h3, h4.1⟩
/-- One element, opened. -/
theorem en_open (j : Nat) (hj : j < xs.length) (hm : Rd dr v xs ∈ rs) : En w0 sps rs fun s r => ∃ gg off c cs, v = .slice (some ⟨gg, off, none⟩) xs.length c ∧ cs.length = dr.sz ∧ sps = s ∧ r = Cl gg (off + j * dr.sz) cs :: Kf dr xs[j] cs :: rs := fun W hs => by
  obtain ⟨hb, o, h1, h2, h3, h4⟩ := hs
  obtain ⟨A, c, hv, hc, hA, hS⟩ := h4 _ hm
  obtain ⟨gg, off, cells, el, fz, cs, rfl, hg, hr, hcell⟩ := hS.2 (by intro e; rw [e] at hj; simp at hj)
  have hK := hr.2 j _ (List.getElem?_eq_getElem hj)
  refine ⟨_, _, ⟨hb, o, h1, h2, h3, fun r hr' => ?_⟩, gg, off, c, (cs.drop (j * dr.sz)).take dr.sz, hv, dr.len hK, rfl, rfl⟩
  rcases List.mem_cons.1 hr' with rfl | hr'
  · refine ⟨cells, el, fz, hg, fun k u hu => ?_⟩
    rw [List.getElem?_take] at hu
    split at hu
    · rw [List.getElem?_drop] at hu
      rw [Nat.add_assoc]; exact hcell _ u hu
    · cases hu
  · rcases List.mem_cons.1 hr' with rfl | hr'
    · exact hK
    · exact h4 r hr'
theorem en_openS {β : Type} {d' : Rep β} {v : Value} {xs : List (List β)} (j : Nat) (hj : j < xs.length) (hm : Rd (Rep.slice d') v xs ∈ rs) : En w0 sps rs fun s r => ∃ gg off c u, v = .slice (some ⟨gg, off, none⟩) xs.length c ∧ sps = s ∧ r = Cl gg (off + j) [u] :: Rd d' u xs[j] :: rs := fun W hs => by
  obtain ⟨hb, o, h1, h2, h3, h4⟩ := hs
  obtain ⟨A, c, hv, hc, hA, hS⟩ := h4 _ hm
  obtain ⟨gg, off, cells, el, fz, cs, rfl, hg, hr, hcell⟩ := hS.2 (by intro e; rw [e] at hj; simp at hj)
  obtain ⟨u, hu, hsv⟩ := hr.2 j _ (List.getElem?_eq_getElem hj)
  refine ⟨_, _, ⟨hb, o, h1, h2, h3, fun r hr' => ?_⟩, gg, off, c, u, hv, rfl, rfl⟩
  rcases List.mem_cons.1 hr' with rfl | hr'
  · have hu' : cs[j]? = some u := by
      have h5 := congrArg (fun l : List Value => l[0]?) hu
      have h6 : (Rep.slice d').sz = 1 := rfl
      rw [h6] at h5
      simpa [List.getElem?_take, List.getElem?_drop] using h5
    refine ⟨cells, el, fz, hg, fun k w hw => ?_⟩
    cases k with
    | zero => simp at hw; subst hw; exact hcell j _ hu'
    | succ k => simp at hw
  · rcases List.mem_cons.1 hr' with rfl | hr'
    · exact hsv
    · exact h4 r hr'
end

end
end Go.Proofs.YtmodmjekhlnjpaaGreatDoor
namespace Go.Proofs.YtmodmjekhlnjpaaGreatDoor
open Go.RowKit

theorem SV.sub {α : Type} {d : Rep α} {hh : Hp} {A : Option Addr} {c : Nat} {xs : List α} {l h : Nat} (s : SV d hh (.slice A xs.length c) xs) (h1 : l ≤ h) (h2 : h ≤ xs.length) :
    SV d hh (.slice (if c = l then A else A.map (·.add (l * d.sz))) (h - l) (c - l)) ((xs.take h).drop l) := by
  obtain ⟨A', c', he, hc, hA, hS⟩ := s
  injection he with e1 e2 e3
  subst e1 e3
  have hlen : ((xs.take h).drop l).length = h - l := by simp; omega
  refine ⟨_, c - l, by rw [hlen], by omega, fun hn => ?_, by have := hS.1; omega, fun hne => ?_⟩
  · have : A = none := by
      split at hn
      · exact hn
      · cases A <;> simp at hn; rfl
    have := hA this
    omega
  · have hx : xs ≠ [] := by rintro rfl; simp at hne
    obtain ⟨g, off, cells, e, fz, cs, rfl, hg, hr, hcell⟩ := hS.2 hx
    have hcl : ¬ c = l := by
      intro e
      apply hne
      apply List.eq_nil_of_length_eq_zero
      rw [hlen]; omega
    rw [if_neg hcl]
    refine ⟨g, off + l * d.sz, cells, e, fz, (cs.take (h * d.sz)).drop (l * d.sz), by simp [Addr.add_mid], hg, (hr.take h).drop l, fun j u hu => ?_⟩
    rw [List.getElem?_drop, List.getElem?_take] at hu
    split at hu
    · rw [Nat.add_assoc]; exact hcell _ u hu
    · cases hu

section
variable {P : Program} {ops : Array Oper} {Q : Exit → Act → World → Prop} {kds : List Nat} {nds : List Bool} {sc : List Sp} {rc : List Fa} {n : Fr} {w0 : World} {i : Nat} {l : List Nat} {e : Nat → Value} {sps : List Sp} {rs : List Fa}
  {o : Oper} {d : Nat} {ty : TypeId} {pos : String} {af : Array Edge} {g : Option (Nat × Bool)} {v : Value} {x y z : Operand}
theorem run_sl {t el : TypeId} {sz m c lo hi : Nat} {A : Option Addr} {k k' : IntKind} (hu : P.underlying t = some (.slice el)) (hS : ∀ w, (sizeOf el).run P w = .ok sz w) (vl vh : Option Value) (hl : (vl = none ∧ lo = 0) ∨ vl = some (.int k lo)) (hh : (vh = none ∧ hi = m) ∨ vh = some (.int k' hi))
    (h1 : lo ≤ hi) (h2 : hi ≤ c) (W : World) : (Instr.sliceAt t (.slice A m c) vl vh none).run P W = .ok (.slice (if c = lo then A else A.map (·.add (lo * sz))) (hi - lo) (c - lo)) W := by
  have b1 : ∀ (k : IntKind) (p q : Nat) (code : BoundsCode), p ≤ q → (Instr.sliceBound (.int k p) q code).run P W = .ok p W := by
    intro k p q code h
    simp [Instr.sliceBound, asIntOf, h]
  rcases hl with ⟨rfl, rfl⟩ | rfl <;> rcases hh with ⟨rfl, rfl⟩ | rfl <;>
    simp [Instr.sliceAt, run_underlying hu, Instr.slice, Instr.sliceBounds, hS, b1 _ _ _ _ h1, b1 _ _ _ _ h2]
/-- A part of what reads as a row. -/
theorem c_slice {α : Type} {dr : Rep α} {xs : List α} {t el : TypeId} {m c lo hi : Nat} {A : Option Addr} {ol oh : Option Operand} {vl vh : Option Value} {k k' : IntKind}
    (ho : ops[i]? = some ⟨some d, .slice t x ol oh none, ty, pos, af, g⟩) (hw : guardOf ops g e = true) (hn : Nat.blt d n.n = true) (hk : pureK kds nds i = true) (hu : P.underlying t = some (.slice el)) (hS : ∀ w, (sizeOf el).run P w = .ok dr.sz w)
    (hx : ev e x = .slice A m c) (hm : Rd dr (.slice A m c) xs ∈ rs) (hvl : ol.map (ev e) = vl) (hvh : oh.map (ev e) = vh) (hl : (vl = none ∧ lo = 0) ∨ vl = some (.int k lo)) (hh : (vh = none ∧ hi = m) ∨ vh = some (.int k' hi)) (h1 : lo ≤ hi) (h2 : hi ≤ xs.length)
    (h : ∀ A', Can P ops Q kds nds sc rc n w0 l (upd e d (.slice A' (hi - lo) (c - lo))) sps (Rd dr (.slice A' (hi - lo) (c - lo)) ((xs.take hi).drop lo) :: rs)) : Can P ops Q kds nds sc rc n w0 (i :: l) e sps rs := by
  intro a W he hs
  obtain ⟨A', c', e1, hc, hA, hS'⟩ := hs.fact hm
  injection e1 with e1 e2 e3
  subst e1 e2 e3
  refine can_val ho hw rfl hn hk (v := .slice (if c = lo then A else A.map (·.add (lo * dr.sz))) (hi - lo) (c - lo)) (fun W => by have hr := run_sl (A := A) (m := xs.length) (c := c) hu hS vl vh hl hh h1 (by omega) W; simp [execOp, hx, hvl, hvh, hr]) ?_ a W he hs
  intro a W he hs
  exact h _ a W he (hs.more fun hh' hr => (hr _ hm).sub h1 h2)

/-- A row that is made: the zero value so many times. -/
theorem c_makeSlice {t el : TypeId} {zv : Value} {m sz bytes : Nat} {k k' : IntKind} (ho : ops[i]? = some ⟨some d, .makeSlice t x y, ty, pos, af, g⟩) (hw : guardOf ops g e = true) (hn : Nat.blt d n.n = true) (hk : loudK kds i = true)
    (hu : P.underlying t = some (.slice el)) (hi : (P.info? el).map (fun i => (i.zero, i.size, i.bytes)) = some (some zv, sz, bytes)) (hx : ev e x = .int .i64 (m : Int)) (hy : ev e y = .int .i64 (m : Int)) (hb : bytes * m ≤ 281474976710656) (h63 : m ≤ 9223372036854775807)
    (hxt : ∀ gg, nds.getD i false = false ∨ Ext sc rc (Bk gg (madeCells zv.cells (m * sz)).toList el :: sps) rs)
    (h : ∀ gg, Can P ops Q kds nds sc rc n w0 l (upd e d (.slice (some ⟨gg, 0, none⟩) m m)) (Bk gg (madeCells zv.cells (m * sz)).toList el :: sps) rs) : Can P ops Q kds nds sc rc n w0 (i :: l) e sps rs :=
  can_act (R := fun v s r => ∃ gg, v = .slice (some ⟨gg, 0, none⟩) m m ∧ s = Bk gg (madeCells zv.cells (m * sz)).toList el :: sps ∧ r = rs) ho hw rfl hn hk
    (fun W hs => ⟨.slice (some ⟨W.heap.size, 0, none⟩) m m, W.alloc (.cells (madeCells zv.cells (m * sz)) el), _, _, by
      have hr := run_mk hu hi m hb h63 W
      simp [execOp, hx, hy, hr], by simpa using hs.alloc (madeCells zv.cells (m * sz)).toList el, _, rfl, rfl, rfl⟩)
    (by rintro v s r ⟨gg, rfl, rfl, rfl⟩; exact hxt gg) (by rintro v s r ⟨gg, rfl, rfl, rfl⟩; exact h gg)

/-- An append to an own row. -/
theorem St.append {α : Type} {dr : Rep α} {t el : TypeId} {bytes : Nat} {v yv : Value} {xs ys : List α} {W : World} (hT : STy P t el dr.sz bytes) (hs : St w0 W (Row dr el v xs :: sps) rs)
    (hsrc : ∀ hh : Hp, (∀ r ∈ rs, r.P hh) → (∀ k b, hh k b → W.heap[k]? = some b) → Src dr W hh yv ys) (hl : (xs.length + ys.length) * bytes ≤ 140737488355328) (ty : TypeId) :
    ∃ v' W', (Builtin.append_ #[t, t] ty #[v, yv]).run P W = .ok v' W' ∧ St w0 W' (Row dr el v' (xs ++ ys) :: sps) rs := by
  obtain ⟨hb, o, ⟨o1, o2, rfl, h0, h1⟩, h2, h3, h4⟩ := hs
  have hB := hb.size
  rw [List.map_append, List.nodup_append] at h3
  obtain ⟨n1, n2, n3⟩ := h3
  have hlt : ∀ p ∈ o2, p.1 < W.heap.size := fun p hp => lt_heap (h2 p (List.mem_append_right _ hp)).1
  -- which block is its own
  have hids : ∀ k, (k ∈ o1.map (·.1)) ↔ v.ownBlock = some k := by
    intro k
    rcases h0 with ⟨rfl, rfl, rfl⟩ | ⟨g, cap, cur, inner, rfl, rfl, _⟩
    · simp [Value.ownBlock]
    · simp [Value.ownBlock, eq_comm]
  have hhp : ∀ k b, restH W (o1 ++ o2) k b ↔ hp W (fun k b => (k ∉ o2.map (·.1)) ∧ some k ≠ v.ownBlock) k b := by
    intro k b
    simp only [restH, hp, List.map_append, List.mem_append, not_or]
    constructor
    · rintro ⟨⟨h5, h6⟩, h7⟩
      exact ⟨⟨h6, fun he => h5 ((hids k).2 he.symm)⟩, h7⟩
    · rintro ⟨⟨h5, h6⟩, h7⟩
      exact ⟨⟨fun he => h6 ((hids k).1 he).symm, h5⟩, h7⟩
  have hown : Own dr el W w0.heap.size (fun k _ => k ∉ o2.map (·.1)) v xs := by
    rcases h0 with ⟨rfl, rfl, rfl⟩ | ⟨g, cap, cur, inner, rfl, rfl, hr, h5, h6, h7, h8⟩
    · exact Own.nil _ _ _ _ _
    · refine ⟨inner, ⟨hr.1, .inr ⟨g, cap, cur, rfl, (h2 (g, .cells cur el (0, 0)) (by simp)).2, (h2 (g, .cells cur el (0, 0)) (by simp)).1, h5, h6, h7, h8⟩⟩, hr.mono fun k b h => (hhp k b).1 h⟩
  obtain ⟨v', W', hrun, ho', hg, hv⟩ := run_app (P := P) hT hown ((hsrc (restH W (o1 ++ o2)) h4 (fun k b h => h.2)).mono fun k b h => (hhp k b).1 h) hl hB ty
  refine ⟨v', W', hrun, ?_⟩
  obtain ⟨inner', hrow, hr'⟩ := ho'
  have hvB : ∀ k, v.ownBlock = some k → w0.heap.size ≤ k := fun k hk => by
    obtain ⟨p, hp, he⟩ := List.mem_map.1 ((hids k).2 hk)
    rw [← he]; exact (h2 p (List.mem_append_left _ hp)).2
  have hkeep : ∀ p ∈ o2, W'.heap[p.1]? = some p.2 := fun p hp => by
    rw [hg.block p.1 (hlt p hp) fun he => ?_]
    · exact (h2 p (List.mem_append_right _ hp)).1
    · exact n3 _ ((hids p.1).2 he.symm) _ (List.mem_map_of_mem (f := (·.1)) hp) rfl
  have hBel : Below w0.heap.size W W' := (Below.refl _ _).grown hg hB fun k hk => hvB k hk
  have hnew : ∀ k, v'.ownBlock = some k → k ∉ o2.map (·.1) ∧ w0.heap.size ≤ k := fun k hk => by
    rcases hv with hv | hv
    · rw [hv] at hk
      exact ⟨fun hm => n3 _ ((hids k).2 hk) _ hm rfl, hvB k hk⟩
    · rw [hk] at hv
      have hk' : k = W.heap.size := by simpa using hv
      subst hk'
      refine ⟨fun hm => ?_, hB⟩
      obtain ⟨p, hp, he⟩ := List.mem_map.1 hm
      have := hlt p hp
      omega
  have hmove : ∀ (o1' : Blocks), (∀ k, k ∈ o1'.map (·.1) → v'.ownBlock = some k) → ∀ k b, restH W (o1 ++ o2) k b → restH W' (o1' ++ o2) k b := by
    rintro o1' h5 k b hk
    obtain ⟨⟨h6, h7⟩, h8⟩ := (hhp k b).1 hk
    have hklt := lt_heap h8
    refine ⟨?_, by rw [hg.block k hklt h7]; exact h8⟩
    intro h9
    rw [List.map_append, List.mem_append] at h9
    rcases h9 with h9 | h9
    · have h10 := h5 k h9
      rcases hv with hv | hv
      · rw [hv] at h10; exact h7 h10.symm
      · rw [hv] at h10; simp at h10; omega
    · exact h6 h9
  obtain ⟨hlen, hrow⟩ := hrow
  rcases hrow with ⟨rfl, hz⟩ | ⟨g', cap', cur', rfl, hg', hh', hn', hc', hs', ht'⟩
  · have hxy : xs ++ ys = [] := List.eq_nil_of_length_eq_zero hz
    refine ⟨hb.trans hBel, o2, ⟨[], o2, rfl, .inl ⟨rfl, hxy, rfl⟩, h1.mono (hmove [] (by simp))⟩, fun p hp => ⟨hkeep p hp, (h2 p (List.mem_append_right _ hp)).2⟩, n2, fun r hr => r.mono (hmove [] (by simp)) (h4 r hr)⟩
  · obtain ⟨hn1, hn2⟩ := hnew g' rfl
    have hm1 := hmove [(g', .cells cur' el (0, 0))] (by intro k hk; simp at hk; subst hk; rfl)
    refine ⟨hb.trans hBel, [(g', .cells cur' el (0, 0))] ++ o2, ⟨_, o2, rfl, .inr ⟨g', cap', cur', inner', rfl, rfl, hr'.mono ?_, hn', hc', hs', ht'⟩, h1.mono hm1⟩, fun p hp => ?_, ?_, fun r hr => r.mono hm1 (h4 r hr)⟩
    · rintro k b ⟨⟨h5, h6⟩, h7⟩
      refine ⟨?_, h7⟩
      simp only [List.singleton_append, List.map_cons, List.mem_cons, not_or]
      exact ⟨fun he => h6 (by rw [he]; rfl), h5⟩
    · rcases List.mem_cons.1 hp with rfl | hp
      · exact ⟨hh', hg'⟩
      · exact ⟨hkeep p hp, (h2 p (List.mem_append_right _ hp)).2⟩
    · simp only [List.singleton_append, List.map_cons, List.nodup_cons]
      exact ⟨hn1, n2⟩
/-- Another row is appended. -/
theorem c_append {α : Type} {dr : Rep α} {xs ys : List α} {t el : TypeId} {bytes : Nat} {yv : Value} {pre post : List Sp} (ho : ops[i]? = some ⟨some d, .call ⟨.builtin .append, #[x, y], #[t, t]⟩, ty, pos, af, g⟩) (hw : guardOf ops g e = true) (hn : Nat.blt d n.n = true) (hk : loudK kds i = true)
    (hT : STy P t el dr.sz bytes) (hx : ev e x = v) (hy : ev e y = yv) (hf : Foc (Row dr el v xs) sps pre post) (hm : Rd dr yv ys ∈ rs) (hl : (xs.length + ys.length) * bytes ≤ 140737488355328) (hxt : ∀ v', nds.getD i false = false ∨ Ext sc rc (pre ++ Row dr el v' (xs ++ ys) :: post) rs)
    (h : ∀ v', Can P ops Q kds nds sc rc n w0 l (upd e d v') (pre ++ Row dr el v' (xs ++ ys) :: post) rs) : Can P ops Q kds nds sc rc n w0 (i :: l) e sps rs := by
  obtain rfl := hf.eq
  refine can_act (R := fun v' s r => s = pre ++ Row dr el v' (xs ++ ys) :: post ∧ r = rs) ho hw rfl hn hk (fun W hs => ?_) (by rintro v' s r ⟨rfl, rfl⟩; exact hxt v') (by rintro v' s r ⟨rfl, rfl⟩; exact h v')
  obtain ⟨v', W', hrun, hs'⟩ := (hs.perm (List.perm_middle (l₁ := pre))).append (yv := yv) (ys := ys) hT (fun hh hr hW => ((hr _ hm).mono (h' := hp W fun k b => hh k b) (fun k b hk => ⟨hk, hW k b hk⟩)).src.mono fun k b hk => hk.1) hl ty
  refine ⟨v', W', _, _, ?_, hs'.perm (List.perm_middle (l₁ := pre)).symm, rfl, rfl⟩
  simp [execOp, resolve, invoke, builtin, hx, hy, hrun]
/-- Elements are appended, out of a literal, which is left. -/
theorem c_append1 {α : Type} {dr : Rep α} {xs ys : List α} {t el el' : TypeId} {bytes gg m : Nat} {bs : List Value} {sps1 pre post : List Sp} (ho : ops[i]? = some ⟨some d, .call ⟨.builtin .append, #[x, y], #[t, t]⟩, ty, pos, af, g⟩) (hw : guardOf ops g e = true) (hn : Nat.blt d n.n = true) (hk : loudK kds i = true)
    (hT : STy P t el dr.sz bytes) (hx : ev e x = v) (hy : ev e y = .slice (some ⟨gg, 0, none⟩) m m) (hr : Rem (Bk gg bs el') sps sps1) (hf : Foc (Row dr el v xs) sps1 pre post) (hm : ys.length = m) (hks : ∀ hh : Hp, (∀ r ∈ rs, r.P hh) → Reps dr hh ys bs) (hl : (xs.length + m) * bytes ≤ 140737488355328) (hxt : ∀ v', nds.getD i false = false ∨ Ext sc rc (pre ++ Row dr el v' (xs ++ ys) :: post) rs)
    (h : ∀ v', Can P ops Q kds nds sc rc n w0 l (upd e d v') (pre ++ Row dr el v' (xs ++ ys) :: post) rs) : Can P ops Q kds nds sc rc n w0 (i :: l) e sps rs := by
  obtain rfl := hf.eq
  refine can_act (R := fun v' s r => s = pre ++ Row dr el v' (xs ++ ys) :: post ∧ r = rs) ho hw rfl hn hk (fun W hs => ?_) (by rintro v' s r ⟨rfl, rfl⟩; exact hxt v') (by rintro v' s r ⟨rfl, rfl⟩; exact h v')
  have hs := hs.perm hr.perm
  have hblk := hs.blk
  obtain ⟨v', W', hrun, hs'⟩ := (hs.drop.perm (List.perm_middle (l₁ := pre))).append (yv := .slice (some ⟨gg, 0, none⟩) m m) (ys := ys) hT (fun hh hr hW => ⟨_, m, by rw [hm], fun e => (by cases e), by omega, bs, hks hh hr, fun ad had j u hu => by
    cases had
    rw [Addr.add_lit, Nat.zero_add, cell_of_row W gg _ _ _ _ hblk]; simpa using hu⟩) (by rw [hm]; exact hl) ty
  refine ⟨v', W', _, _, ?_, hs'.perm (List.perm_middle (l₁ := pre)).symm, rfl, rfl⟩
  simp [execOp, resolve, invoke, builtin, hx, hy, hrun]
end
end Go.Proofs.YtmodmjekhlnjpaaGreatDoor
namespace Go.Proofs.YtmodmjekhlnjpaaGreatDoor
open Go.RowKit

/-- e, but for the slots of W. -/
def mix (W : List Nat) (f e : Nat → Value) : Nat → Value := fun t => match W.elem t with | true => f t | false => e t
def upds (e : Nat → Value) : List (Nat × Value) → Nat → Value
  | [] => e
  | p :: l => upd (upds e l) p.1 p.2
def Agree (e : Nat → Value) : List (Nat × Value) → Prop
  | [] => True
  | p :: l => e p.1 = p.2 ∧ Agree e l
theorem upds_agree {e : Nat → Value} : ∀ {l : List (Nat × Value)}, Agree e l → upds e l = e
  | [], _ => rfl
  | p :: l, ⟨h1, h2⟩ => by
    simp only [upds, upds_agree h2]
    exact (upd1 e h1).symm
/-- Out of W nothing has turned. -/
inductive Mix (W : List Nat) (e : Nat → Value) : (Nat → Value) → Prop
  | refl : Mix W e e
  | base {f : Nat → Value} : Mix W e (mix W f e)
  | upd {x : Nat → Value} {d : Nat} {v : Value} (hd : W.elem d = true) (h : Mix W e x) : Mix W e (upd x d v)
  | upds {x : Nat → Value} {l : List (Nat × Value)} (hd : (l.all fun p => W.elem p.1) = true) (h : Mix W e x) : Mix W e (upds x l)
  | mix {x f : Nat → Value} {W2 : List Nat} (hd : (W2.all fun t => W.elem t) = true) (h : Mix W e x) : Mix W e (mix W2 f x)
theorem Mix.eq {W : List Nat} {e x : Nat → Value} (h : Mix W e x) : x = Go.Proofs.YtmodmjekhlnjpaaGreatDoor.mix W x e := by
  have key : ∀ t, W.elem t = false → x t = e t := by
    induction h with
    | refl => exact fun _ _ => rfl
    | base => intro t ht; simp only [Go.Proofs.YtmodmjekhlnjpaaGreatDoor.mix, ht]
    | upd hd _ ih =>
      intro t ht
      simp only [Go.Proofs.YtmodmjekhlnjpaaGreatDoor.upd]
      split
      · rename_i hb; rw [Nat.eq_of_beq_eq_true hb] at ht; rw [hd] at ht; cases ht
      · exact ih t ht
    | upds hd _ ih =>
      rename_i x l _
      intro t ht
      rw [← ih t ht]
      clear ih
      induction l with
      | nil => rfl
      | cons p l ihl =>
        simp only [List.all_cons, Bool.and_eq_true] at hd
        simp only [Go.Proofs.YtmodmjekhlnjpaaGreatDoor.upds, Go.Proofs.YtmodmjekhlnjpaaGreatDoor.upd]
        split
        · rename_i hb; rw [Nat.eq_of_beq_eq_true hb] at ht; rw [hd.1] at ht; cases ht
        · exact ihl hd.2
    | mix hd _ ih =>
      intro t ht
      simp only [Go.Proofs.YtmodmjekhlnjpaaGreatDoor.mix]
      split
      · rename_i hb
        have := List.all_eq_true.1 hd t (List.elem_iff.1 hb)
        rw [ht] at this; cases this
      · exact ih t ht
  funext t
  simp only [Go.Proofs.YtmodmjekhlnjpaaGreatDoor.mix]
  cases hb : W.elem t with
  | true => rfl
  | false => exact key t hb

section
variable {P : Program} {n : Fr} {Q : Exit → Act → World → Prop} {w0 : World} {e : Nat → Value} {sps : List Sp} {rs : List Fa}
def Round (n : Fr) (w0 : World) (W : List Nat) (e : Nat → Value) (J : Nat → List (Nat × Value) → List Sp → List Fa → Prop) (k : Nat) : Act → World → Prop :=
  fun a Wo => ∃ k' f L s r, k' < k ∧ Env n (upds (mix W f e) L) a ∧ St w0 Wo s r ∧ J k' L s r
theorem cs_loopS {c : Code} (W : List Nat) (J : Nat → List (Nat × Value) → List Sp → List Fa → Prop) {k : Nat} (L : List (Nat × Value)) (hL : Agree e L) (h0 : J k L sps rs)
    (h : ∀ k f L s r, J k L s r → CS P n c (Exit.then (Round n w0 W e J k) Q) w0 (upds (mix W f e) L) s r) : CS P n (.loop c) Q w0 e sps rs := by
  refine fun a Wo he hs => wp_loop_k (fun k a Wo => ∃ f L s r, Env n (upds (mix W f e) L) a ∧ St w0 Wo s r ∧ J k L s r) k ⟨e, L, sps, rs, ?_, hs, h0⟩ fun k a Wo ⟨f, L, s, r, he, hs, hj⟩ => wp_mono (h k f L s r hj a Wo he hs) fun x a Wo hq => ?_
  · rw [← Mix.eq Mix.refl, upds_agree hL]; exact he
  · cases x with
    | normal =>
      obtain ⟨k', f, L, s, r, h1, h2, h3, h4⟩ := hq
      exact ⟨k', h1, f, L, s, r, h2, h3, h4⟩
    | _ => exact hq
theorem ps_roundS {W : List Nat} {e0 : Nat → Value} {J : Nat → List (Nat × Value) → List Sp → List Fa → Prop} {k : Nat} {s : List Sp} {r : List Fa} (L : List (Nat × Value)) (hL : Agree e L) (hM : Mix W e0 e) (k' : Nat) (hk : k' < k) (hj : J k' L s r) (hx : Ext s r sps rs) :
    PS n (Exit.then (Round n w0 W e0 J k) Q) .normal w0 e sps rs := fun a Wo he hs =>
  ⟨k', e, L, s, r, hk, by rw [← hM.eq, upds_agree hL]; exact he, hx.st hs, hj⟩
/-- A cut. -/
def Cut (n : Fr) (w0 : World) (W : List Nat) (e : Nat → Value) (J : List (Nat × Value) → List Sp → List Fa → Prop) : Act → World → Prop :=
  fun a Wo => ∃ f L s r, Env n (upds (mix W f e) L) a ∧ St w0 Wo s r ∧ J L s r
theorem cs_cutS {x y : Code} (W : List Nat) (J : List (Nat × Value) → List Sp → List Fa → Prop) (h1 : CS P n x (Exit.then (Cut n w0 W e J) Q) w0 e sps rs)
    (h2 : ∀ f L s r, J L s r → CS P n y Q w0 (upds (mix W f e) L) s r) : CS P n (.seq x y) Q w0 e sps rs :=
  fun a Wo he hs => wp_seq (wp_mono (h1 a Wo he hs) fun x a Wo hq => by
    cases x with
    | normal =>
      obtain ⟨f, L, s, r, h3, h4, h5⟩ := hq
      exact h2 f L s r h5 a Wo h3 h4
    | _ => exact hq)
theorem ps_cutS {W : List Nat} {e0 : Nat → Value} {J : List (Nat × Value) → List Sp → List Fa → Prop} {s : List Sp} {r : List Fa} (L : List (Nat × Value)) (hL : Agree e L) (hM : Mix W e0 e) (hj : J L s r) (hx : Ext s r sps rs) :
    PS n (Exit.then (Cut n w0 W e0 J) Q) .normal w0 e sps rs := fun a Wo he hs =>
  ⟨e, L, s, r, by rw [← hM.eq, upds_agree hL]; exact he, hx.st hs, hj⟩
/-- A bool is looked at. -/
theorem can_split {ops : Array Oper} {kds : List Nat} {nds : List Bool} {sc : List Sp} {rc : List Fa} {l : List Nat} (t : Nat) {b : Bool} (hb : e t = .bool b) (h1 : b = true → Can P ops Q kds nds sc rc n w0 l (upd e t (.bool true)) sps rs) (h2 : b = false → Can P ops Q kds nds sc rc n w0 l (upd e t (.bool false)) sps rs) :
    Can P ops Q kds nds sc rc n w0 l e sps rs := by
  cases b with
  | true => have := h1 rfl; rwa [← upd1 e hb] at this
  | false => have := h2 rfl; rwa [← upd1 e hb] at this
theorem can_known {ops : Array Oper} {kds : List Nat} {nds : List Bool} {sc : List Sp} {rc : List Fa} {l : List Nat} (t : Nat) {b : Bool} (c : Bool) (hb : e t = .bool b) (hc : b = c) (h1 : Can P ops Q kds nds sc rc n w0 l (upd e t (.bool c)) sps rs) :
    Can P ops Q kds nds sc rc n w0 l e sps rs := by
  subst hc
  rwa [← upd1 e hb] at h1
end
end Go.Proofs.YtmodmjekhlnjpaaGreatDoor
namespace Go.Proofs.YtmodmjekhlnjpaaGreatDoor
open Go.RowKit

theorem wrap_u {k : IntKind} (hk : k.signed = false) (n : Nat) : k.wrap (n : Int) = ((n % 2 ^ k.bits : Nat) : Int) := by
  cases k <;> simp [IntKind.signed] at hk <;> simp [IntKind.wrap, IntKind.bits, IntKind.signed] <;> omega
theorem wrap_u_lt {k : IntKind} (hk : k.signed = false) {n : Nat} (h : n < 2 ^ k.bits) : k.wrap (n : Int) = (n : Int) := by
  rw [wrap_u hk, Nat.mod_eq_of_lt h]
theorem ofInt_nat (b n : Nat) : BitVec.ofInt b (n : Int) = BitVec.ofNat b n := by
  apply BitVec.eq_of_toNat_eq
  simp
theorem bit_xor {k : IntKind} (hk : k.signed = false) {x y : Nat} (hx : x < 2 ^ k.bits) (hy : y < 2 ^ k.bits) : bitI .xor k (x : Int) (y : Int) = ((x ^^^ y : Nat) : Int) := by
  simp only [bitI, ofInt_nat, BitVec.toNat_xor, BitVec.toNat_ofNat, Nat.mod_eq_of_lt hx, Nat.mod_eq_of_lt hy]
  exact wrap_u_lt hk (Nat.xor_lt_two_pow hx hy)
theorem bit_or {k : IntKind} (hk : k.signed = false) {x y : Nat} (hx : x < 2 ^ k.bits) (hy : y < 2 ^ k.bits) : bitI .or k (x : Int) (y : Int) = ((x ||| y : Nat) : Int) := by
  simp only [bitI, ofInt_nat, BitVec.toNat_or, BitVec.toNat_ofNat, Nat.mod_eq_of_lt hx, Nat.mod_eq_of_lt hy]
  exact wrap_u_lt hk (Nat.or_lt_two_pow hx hy)
theorem bit_and {k : IntKind} (hk : k.signed = false) {x y : Nat} (hx : x < 2 ^ k.bits) (hy : y < 2 ^ k.bits) : bitI .and k (x : Int) (y : Int) = ((x &&& y : Nat) : Int) := by
  simp only [bitI, ofInt_nat, BitVec.toNat_and, BitVec.toNat_ofNat, Nat.mod_eq_of_lt hx, Nat.mod_eq_of_lt hy]
  exact wrap_u_lt hk (Nat.and_lt_two_pow _ hy)
theorem fdiv_nat (x m : Nat) : ((x : Int)).fdiv (2 ^ m) = ((x / 2 ^ m : Nat) : Int) := by
  rw [show ((2 : Int) ^ m) = ((2 ^ m : Nat) : Int) by simp, Int.fdiv_eq_ediv_of_nonneg _ (Int.natCast_nonneg _)]
  rfl
theorem shl_nat {k : IntKind} (hk : k.signed = false) (x m : Nat) : k.wrap ((x : Int) * 2 ^ m) = ((x * 2 ^ m % 2 ^ k.bits : Nat) : Int) := by
  rw [show ((x : Int) * 2 ^ m) = ((x * 2 ^ m : Nat) : Int) by simp, wrap_u hk]
theorem add_nat {k : IntKind} (hk : k.signed = false) (x y : Nat) : k.wrap ((x : Int) + (y : Int)) = (((x + y) % 2 ^ k.bits : Nat) : Int) := by
  rw [show ((x : Int) + (y : Int)) = ((x + y : Nat) : Int) by simp, wrap_u hk]
theorem mul_nat {k : IntKind} (hk : k.signed = false) (x y : Nat) : k.wrap ((x : Int) * (y : Int)) = (((x * y) % 2 ^ k.bits : Nat) : Int) := by
  rw [show ((x : Int) * (y : Int)) = ((x * y : Nat) : Int) by simp, wrap_u hk]
theorem compl_nat {k : IntKind} (hk : k.signed = false) {x : Nat} (hx : x < 2 ^ k.bits) : bitI .xor k (if k.signed = true then -1 else k.max) (x : Int) = ((2 ^ k.bits - 1 - x : Nat) : Int) := by
  have hm : (if k.signed = true then -1 else k.max) = ((2 ^ k.bits - 1 : Nat) : Int) := by cases k <;> simp [IntKind.signed] at hk <;> simp [IntKind.signed, IntKind.max, IntKind.bits]
  have hp : 0 < 2 ^ k.bits := Nat.two_pow_pos _
  rw [hm, bit_xor hk (by omega) hx]
  congr 1
  have h1 : (BitVec.allOnes k.bits ^^^ BitVec.ofNat k.bits x).toNat = (~~~ (BitVec.ofNat k.bits x)).toNat := by rw [BitVec.allOnes_xor]
  rw [BitVec.toNat_xor, BitVec.toNat_allOnes, BitVec.toNat_not, BitVec.toNat_ofNat, Nat.mod_eq_of_lt hx] at h1
  exact h1

section
variable {P : Program} {ops : Array Oper} {Q : Exit → Act → World → Prop} {kds : List Nat} {nds : List Bool} {sc : List Sp} {rc : List Fa} {n : Fr} {w0 : World} {i : Nat} {l : List Nat} {e : Nat → Value} {sps : List Sp} {rs : List Fa}
  {d : Nat} {ty : TypeId} {pos : String} {af : Array Edge} {g : Option (Nat × Bool)} {x y : Operand} {t u : TypeId} {k k' : IntKind} {p q : Nat}
theorem n_xor (ho : ops[i]? = some ⟨some d, .binOp .xor t x y u, ty, pos, af, g⟩) (hw : guardOf ops g e = true) (hn : Nat.blt d n.n = true) (hk : pureK kds nds i = true) (hx : ev e x = .int k (p : Int)) (hy : ev e y = .int k (q : Int)) (hs : k.signed = false) (hp : p < 2 ^ k.bits) (hq : q < 2 ^ k.bits)
    (h : Can P ops Q kds nds sc rc n w0 l (upd e d (.int k ((p ^^^ q : Nat) : Int))) sps rs) : Can P ops Q kds nds sc rc n w0 (i :: l) e sps rs := c_bit ho hw hn hk hx hy (by simp) (bit_xor hs hp hq) h
theorem n_or (ho : ops[i]? = some ⟨some d, .binOp .or t x y u, ty, pos, af, g⟩) (hw : guardOf ops g e = true) (hn : Nat.blt d n.n = true) (hk : pureK kds nds i = true) (hx : ev e x = .int k (p : Int)) (hy : ev e y = .int k (q : Int)) (hs : k.signed = false) (hp : p < 2 ^ k.bits) (hq : q < 2 ^ k.bits)
    (h : Can P ops Q kds nds sc rc n w0 l (upd e d (.int k ((p ||| q : Nat) : Int))) sps rs) : Can P ops Q kds nds sc rc n w0 (i :: l) e sps rs := c_bit ho hw hn hk hx hy (by simp) (bit_or hs hp hq) h
theorem n_and (ho : ops[i]? = some ⟨some d, .binOp .and t x y u, ty, pos, af, g⟩) (hw : guardOf ops g e = true) (hn : Nat.blt d n.n = true) (hk : pureK kds nds i = true) (hx : ev e x = .int k (p : Int)) (hy : ev e y = .int k (q : Int)) (hs : k.signed = false) (hp : p < 2 ^ k.bits) (hq : q < 2 ^ k.bits)
    (h : Can P ops Q kds nds sc rc n w0 l (upd e d (.int k ((p &&& q : Nat) : Int))) sps rs) : Can P ops Q kds nds sc rc n w0 (i :: l) e sps rs := c_bit ho hw hn hk hx hy (by simp) (bit_and hs hp hq) h
theorem n_compl (ho : ops[i]? = some ⟨some d, .unOp .xor t x, ty, pos, af, g⟩) (hw : guardOf ops g e = true) (hn : Nat.blt d n.n = true) (hk : pureK kds nds i = true) (hx : ev e x = .int k (p : Int)) (hs : k.signed = false) (hp : p < 2 ^ k.bits)
    (h : Can P ops Q kds nds sc rc n w0 l (upd e d (.int k ((2 ^ k.bits - 1 - p : Nat) : Int))) sps rs) : Can P ops Q kds nds sc rc n w0 (i :: l) e sps rs := c_compl ho hw hn hk hx (by rw [compl_nat hs hp]; exact h)
theorem n_add (ho : ops[i]? = some ⟨some d, .binOp .add t x y u, ty, pos, af, g⟩) (hw : guardOf ops g e = true) (hn : Nat.blt d n.n = true) (hk : pureK kds nds i = true) (hx : ev e x = .int k (p : Int)) (hy : ev e y = .int k (q : Int)) (hs : k.signed = false)
    (h : Can P ops Q kds nds sc rc n w0 l (upd e d (.int k (((p + q) % 2 ^ k.bits : Nat) : Int))) sps rs) : Can P ops Q kds nds sc rc n w0 (i :: l) e sps rs := c_add ho hw hn hk hx hy (by rw [add_nat hs]; exact h)
theorem n_mul (ho : ops[i]? = some ⟨some d, .binOp .mul t x y u, ty, pos, af, g⟩) (hw : guardOf ops g e = true) (hn : Nat.blt d n.n = true) (hk : pureK kds nds i = true) (hx : ev e x = .int k (p : Int)) (hy : ev e y = .int k (q : Int)) (hs : k.signed = false)
    (h : Can P ops Q kds nds sc rc n w0 l (upd e d (.int k (((p * q) % 2 ^ k.bits : Nat) : Int))) sps rs) : Can P ops Q kds nds sc rc n w0 (i :: l) e sps rs := c_mul ho hw hn hk hx hy (by rw [mul_nat hs]; exact h)
theorem n_shr {m : Int} {b : Nat} (ho : ops[i]? = some ⟨some d, .binOp .shr t x y u, ty, pos, af, g⟩) (hw : guardOf ops g e = true) (hn : Nat.blt d n.n = true) (hk : pureK kds nds i = true) (hx : ev e x = .int k (p : Int)) (hy : ev e y = .int k' m) (hm : m = (b : Int)) (hb : b ≤ k.bits)
    (h : Can P ops Q kds nds sc rc n w0 l (upd e d (.int k ((p / 2 ^ b : Nat) : Int))) sps rs) : Can P ops Q kds nds sc rc n w0 (i :: l) e sps rs := by
  subst hm
  refine c_shr ho hw hn hk hx hy (by omega) ?_
  rw [Int.toNat_natCast, Nat.min_eq_left hb, fdiv_nat]; exact h
theorem n_shl {m : Int} {b : Nat} (ho : ops[i]? = some ⟨some d, .binOp .shl t x y u, ty, pos, af, g⟩) (hw : guardOf ops g e = true) (hn : Nat.blt d n.n = true) (hk : pureK kds nds i = true) (hx : ev e x = .int k (p : Int)) (hy : ev e y = .int k' m) (hm : m = (b : Int)) (hb : b ≤ k.bits) (hs : k.signed = false)
    (h : Can P ops Q kds nds sc rc n w0 l (upd e d (.int k ((p * 2 ^ b % 2 ^ k.bits : Nat) : Int))) sps rs) : Can P ops Q kds nds sc rc n w0 (i :: l) e sps rs := by
  subst hm
  refine c_shl ho hw hn hk hx hy (by omega) ?_
  rw [Int.toNat_natCast, Nat.min_eq_left hb, shl_nat hs]; exact h
theorem n_conv {s : TypeId} {ds : TypeDesc} (ho : ops[i]? = some ⟨some d, .convert s t x, ty, pos, af, g⟩) (hw : guardOf ops g e = true) (hn : Nat.blt d n.n = true) (hk : pureK kds nds i = true) (hs : P.underlying s = some ds) (ht : P.underlying t = some (.int k)) (hx : ev e x = .int k' (p : Int)) (hu : k.signed = false)
    (h : Can P ops Q kds nds sc rc n w0 l (upd e d (.int k ((p % 2 ^ k.bits : Nat) : Int))) sps rs) : Can P ops Q kds nds sc rc n w0 (i :: l) e sps rs := c_conv ho hw hn hk hs ht hx (by rw [wrap_u hu]; exact h)
end
end Go.Proofs.YtmodmjekhlnjpaaGreatDoor
namespace Go.Proofs.YtmodmjekhlnjpaaGreatDoor
open Go.RowKit
section
variable {P : Program} {n : Fr} {Q : Exit → Act → World → Prop} {w0 : World} {e : Nat → Value} {sps : List Sp} {rs : List Fa} {fn : Func} {R : Value → List Sp → List Fa → Prop} {x : Exit} {v v1 v2 v3 v4 : Value} {r1 r2 r3 r4 : ResultVar}
def resOne (r : ResultVar) (tmps : Array Value) : Sem Value :=
  match r with
  | .tmp t => pure (tmps.getD t undef)
  | .cell a t => do loadVar t (← asAddr (tmps.getD a undef))
def ResOk (P : Program) (n : Fr) (w0 : World) (e : Nat → Value) (sps : List Sp) (rs : List Fa) (r : ResultVar) (v : Value) : Prop := ∀ a W, Env n e a → St w0 W sps rs → (resOne r a.tmps).run P W = .ok v W
theorem res_tmp {t : Tmp} (h : ev e (.tmp t) = v) : ResOk P n w0 e sps rs (.tmp t) v := fun a W he _ => by
  simp only [resOne, he.at_, Sem.run_pure, ← h]; rfl
theorem res_cellN {a : Tmp} {t : TypeId} {g sz : Nat} {cs : List Value} {t' : TypeId} (hA : ∀ w, (isAgg t).run P w = .ok true w) (hS : ∀ w, (sizeOf t).run P w = .ok sz w) (hx : ev e (.tmp a) = .pointer (some ⟨g, 0, none⟩)) (hm : Bk g cs t' ∈ sps) (hl : cs.length = sz) :
    ResOk P n w0 e sps rs (.cell a t) (.agg cs.toArray) := fun b W he hs => by
  have hr : W.rangeAt g 0 cs := fun j u hu => by rw [cell_of_row W g _ _ t' _ (hs.bk hm)]; simpa using hu
  have h1 := run_loadN (P := P) hA hS hl W hr
  have hx' : e a = .pointer (some ⟨g, 0, none⟩) := hx
  simpa [resOne, he.at_, hx', asAddr, Instr.loadAt, Instr.sureAddr] using h1
theorem res_cell1 {a : Tmp} {t : TypeId} {g : Nat} {t' : TypeId} (hA : ∀ w, (isAgg t).run P w = .ok false w) (hx : ev e (.tmp a) = .pointer (some ⟨g, 0, none⟩)) (hm : Bk g [v] t' ∈ sps) :
    ResOk P n w0 e sps rs (.cell a t) v := fun b W he hs => by
  have hr : W.rangeAt g 0 [v] := fun j u hu => by rw [cell_of_row W g _ _ t' _ (hs.bk hm)]; simpa using hu
  have h1 := run_load1 (P := P) hA W hr
  have hx' : e a = .pointer (some ⟨g, 0, none⟩) := hx
  simpa [resOne, he.at_, hx', asAddr, Instr.loadAt, Instr.sureAddr] using h1
theorem results_eq (fn : Func) (tmps : Array Value) : results fn tmps = (do let vs ← fn.results.mapM (fun r => resOne r tmps); pure (if h : vs.size = 1 then vs[0] else .tuple vs)) := by
  unfold results
  refine congrArg (fun f : ResultVar → Sem Value => do let vs ← fn.results.mapM f; pure (if h : vs.size = 1 then vs[0] else .tuple vs)) ?_
  funext r
  cases r <;> rfl
theorem ps_res1 (hx : isEndF n x = true) (hr : fn.results = #[r1]) (h1 : ResOk P n w0 e sps rs r1 v1) {s : List Sp} {r : List Fa} (h : R v1 s r) (hE : Ext s r sps rs) : PS n (bodyPost P fn (Post w0 R)) x w0 e sps rs :=
  ps_end hx (fun a W he hs => by
    have q1 := h1 a W he hs
    rw [results_eq, hr]; simp [q1]) h hE
theorem ps_res2 (hx : isEndF n x = true) (hr : fn.results = #[r1, r2]) (h1 : ResOk P n w0 e sps rs r1 v1) (h2 : ResOk P n w0 e sps rs r2 v2) {s : List Sp} {r : List Fa} (h : R (.tuple #[v1, v2]) s r) (hE : Ext s r sps rs) : PS n (bodyPost P fn (Post w0 R)) x w0 e sps rs :=
  ps_end hx (fun a W he hs => by
    have q1 := h1 a W he hs
    have q2 := h2 a W he hs
    rw [results_eq, hr]; simp [q1, q2]) h hE
end

/- A loop, round by round. -/
section
variable {P : Program} {n : Fr} {m : Nat} {Q : Exit → Act → World → Prop} {w0 : World} {e : Nat → Value} {sps : List Sp} {rs : List Fa} {c : Code}
def RS (P : Program) (n : Fr) (c : Code) (Q : Exit → Act → World → Prop) (w0 : World) (m : Nat) (e : Nat → Value) (sps : List Sp) (rs : List Fa) : Prop := ∀ a W, Env n e a → St w0 W sps rs → Code.rounds P c Q m a W
theorem cs_rounds (m : Nat) (h : RS P n c Q w0 m e sps rs) : CS P n (.loop c) Q w0 e sps rs := fun a W he hs => wp_loop_rounds m (h a W he hs)
theorem rs_succ (h : CS P n c (Exit.then (Code.rounds P c Q m) Q) w0 e sps rs) : RS P n c Q w0 (m + 1) e sps rs := fun a W he hs => by
  rw [rounds_succ]; exact h a W he hs
theorem ps_rs (h : RS P n c Q w0 m e sps rs) : PS n (Exit.then (Code.rounds P c Q m) Q) .normal w0 e sps rs := h
end
/- Parts laid over cells. -/
def putL : List Value → Nat → List Value → List Value
  | [], _, _ => []
  | x :: z, 0, [] => x :: z
  | _ :: z, 0, c :: cs => c :: putL z 0 cs
  | x :: z, n + 1, cs => x :: putL z n cs
theorem putL_nil : ∀ (z : List Value) (n : Nat), putL z n [] = z
  | [], _ => by simp [putL]
  | x :: z, 0 => rfl
  | x :: z, n + 1 => by simp [putL, putL_nil z n]
theorem putL_cons : ∀ (z : List Value) (n : Nat) (c : Value) (cs : List Value), n < z.length → putL z n (c :: cs) = putL (z.set n c) (n + 1) cs
  | [], _, _, _, h => by simp at h
  | x :: z, 0, c, cs, _ => by simp [putL]
  | x :: z, n + 1, c, cs, h => by
    simp only [putL, List.set_cons_succ]
    rw [putL_cons z n c cs (by simpa using h)]
theorem foldl_lay (off : Nat) : ∀ (cs : List Value) (k : Nat) (z : List Value), off + k + cs.length ≤ z.length → (cs.zipIdx k).foldl (fun (a : Array Value) (p : Value × Nat) => a.setIfInBounds (off + p.2) p.1) z.toArray = (putL z (off + k) cs).toArray
  | [], k, z, _ => by simp [putL_nil]
  | c :: cs, k, z, h => by
    have h' : off + k < z.length := by simp at h; omega
    simp only [List.zipIdx_cons, List.foldl_cons, List.setIfInBounds_toArray]
    rw [foldl_lay off cs (k + 1) (z.set (off + k) c) (by simp at h ⊢; omega), putL_cons z _ c cs h', Nat.add_assoc]
def cellsL : Value → List Value
  | .agg cs => cs.toList
  | .int k n => [.int k n]
  | .bool b => [.bool b]
  | .string s => [.string s]
  | .slice a l c => [.slice a l c]
  | .pointer a => [.pointer a]
  | .func f a b => [.func f a b]
  | v => [v]
theorem cellsL_eq (v : Value) : cellsL v = v.cells.toList := by cases v <;> rfl
def layE (e : Nat → Value) (place : Nat → Option (Nat × Nat)) : List (Nat × Operand) → List Value → Option (List Value)
  | [], z => some z
  | p :: ps, z => match place p.1 with
    | none => none
    | some (off, size) => match Nat.beq (cellsL (ev e p.2)).length size && Nat.ble (off + (cellsL (ev e p.2)).length) z.length with
      | true => layE e place ps (putL z off (cellsL (ev e p.2)))
      | false => none
theorem fill_layE (e : Nat → Value) (place : Nat → Option (Nat × Nat)) : ∀ (ps : List (Nat × Operand)) (z cs : List Value), layE e place ps z = some cs → Instr.fill place z.toArray (ps.map fun p => (p.1, ev e p.2)) = some cs.toArray
  | [], z, cs, h => by cases h; rfl
  | p :: ps, z, cs, h => by
    simp only [layE] at h
    split at h
    · cases h
    · rename_i off size hp
      split at h
      · rename_i hb
        simp only [Bool.and_eq_true] at hb
        have h1 := Nat.eq_of_beq_eq_true hb.1
        have h2 := Nat.le_of_ble_eq_true hb.2
        simp only [cellsL_eq, Array.length_toList] at h1 h2
        simp only [List.map_cons, Instr.fill, hp, h1, ne_eq, not_true_eq_false, decide_false, Bool.false_or, List.size_toArray]
        rw [if_neg (by simp; omega), ← fill_layE e place ps _ cs h]
        congr 1
        have := foldl_lay off (cellsL (ev e p.2)) 0 z (by simp [cellsL_eq]; omega)
        rw [Nat.add_zero] at this
        rw [← this, ← Array.foldl_toList, Array.toList_zipIdx, cellsL_eq]
      · cases h

/- Structs and arrays by value. -/
section
variable {P : Program} {ops : Array Oper} {Q : Exit → Act → World → Prop} {kds : List Nat} {nds : List Bool} {sc : List Sp} {rc : List Fa} {n : Fr} {w0 : World} {i : Nat} {l : List Nat} {e : Nat → Value} {sps : List Sp} {rs : List Fa}
  {d : Nat} {ty : TypeId} {pos : String} {af : Array Edge} {g : Option (Nat × Bool)} {x y : Operand} {t el : TypeId} {zv : Value} {sz m : Nat} {ps : Array (Nat × Operand)} {cs zl zz : List Value}
theorem c_buildA (ho : ops[i]? = some ⟨some d, .build t ps, ty, pos, af, g⟩) (hw : guardOf ops g e = true) (hn : Nat.blt d n.n = true) (hk : pureK kds nds i = true) (hu : P.underlying t = some (.array m el)) (hz : ∀ w, (zeroValue t).run P w = .ok zv w) (hS : ∀ w, (sizeOf el).run P w = .ok sz w)
    (hzc : zv.cells.toList = zl) (hx : layE e (fun i => some (i * sz, sz)) ps.toList zl = some cs)
    (h : Can P ops Q kds nds sc rc n w0 l (upd e d (.agg cs.toArray)) sps rs) : Can P ops Q kds nds sc rc n w0 (i :: l) e sps rs :=
  can_val ho hw rfl hn hk (fun W => by
    have hf := fill_layE e _ ps.toList zl cs hx
    have hzc' : zv.cells = zl.toArray := by rw [← hzc]
    have hps : (ps.map (fun (i, x) => (i, ev e x))).toList = ps.toList.map fun p => (p.1, ev e p.2) := by simp
    simp only [execOp, Instr.build, Sem.run_bind, hz, run_underlying hu, Result.andThen_ok, hS, hzc', hps, hf]
    rfl) h
theorem c_buildS {fs : Array Field} {places : Array (Nat × Nat)} (ho : ops[i]? = some ⟨some d, .build t ps, ty, pos, af, g⟩) (hw : guardOf ops g e = true) (hn : Nat.blt d n.n = true) (hk : pureK kds nds i = true) (hu : P.underlying t = some (.struct fs)) (hz : ∀ w, (zeroValue t).run P w = .ok zv w)
    (hp : ∀ w, (fs.mapM (fun f => (do pure (f.offset, ← sizeOf f.type) : Sem (Nat × Nat)))).run P w = .ok places w) (hzc : zv.cells.toList = zl) (hx : layE e (places[·]?) ps.toList zl = some cs)
    (h : Can P ops Q kds nds sc rc n w0 l (upd e d (.agg cs.toArray)) sps rs) : Can P ops Q kds nds sc rc n w0 (i :: l) e sps rs :=
  can_val ho hw rfl hn hk (fun W => by
    have hf := fill_layE e _ ps.toList zl cs hx
    have hzc' : zv.cells = zl.toArray := by rw [← hzc]
    have hps : (ps.map (fun (i, x) => (i, ev e x))).toList = ps.toList.map fun p => (p.1, ev e p.2) := by simp
    simp only [execOp, Instr.build, Sem.run_bind, hz, run_underlying hu, Result.andThen_ok, hp, hzc', hps, hf]
    rfl) h
theorem c_lit (ho : ops[i]? = some ⟨some d, .buildSlice t m ps, ty, pos, af, g⟩) (hw : guardOf ops g e = true) (hn : Nat.blt d n.n = true) (hk : loudK kds i = true) (hu : P.underlying t = some (.slice el)) (hS : ∀ w, (sizeOf el).run P w = .ok sz w) (hz : ∀ w, (zeroValue el).run P w = .ok zv w)
    (hm : Nat.ble (m * sz) (2 ^ 24) = true) (hzc : zv.cells.toList = zl) (hzl : (List.replicate m zl).flatten = zz) (hlz : Nat.beq zl.length sz = true) (hx : layE e (fun i => some (i * sz, sz)) ps.toList zz = some cs) (hxt : ∀ gg, nds.getD i false = false ∨ Ext sc rc (Bk gg cs el :: sps) rs)
    (h : ∀ gg, Can P ops Q kds nds sc rc n w0 l (upd e d (.slice (some ⟨gg, 0, none⟩) m m)) (Bk gg cs el :: sps) rs) : Can P ops Q kds nds sc rc n w0 (i :: l) e sps rs := by
  refine c_buildSlice ho hw hn hk hu hS hz hm ?_ hxt h
  have hf := fill_layE e _ ps.toList zz cs hx
  have hps : (ps.map (fun (i, x) => (i, ev e x))).toList = ps.toList.map fun p => (p.1, ev e p.2) := by simp
  have hl := Nat.eq_of_beq_eq_true hlz
  have hzc' : zv.cells = zl.toArray := by rw [← hzc]
  have e1 : (Array.range (m * sz)).map (zv.cells[· % zv.cells.size]!) = zz.toArray := by
    rw [← hzl, hzc']
    apply Array.ext'
    simp only [Array.toList_map, Array.toList_range, List.size_toArray, hl]
    clear hx hf hzl ho hm h hps hxt
    induction m with
    | zero => simp
    | succ m ih =>
      rw [Nat.succ_mul, List.range_add, List.map_append, ih, List.replicate_succ', List.flatten_append]
      congr 1
      apply List.ext_getElem
      · simp [hl]
      · intro k h1 h2
        simp at h1
        have hk : k < zl.length := by omega
        have hms : (m * sz + k) % sz = k := by rw [Nat.mul_comm, Nat.mul_add_mod]; exact Nat.mod_eq_of_lt h1
        simp [hms, hk]
  rw [e1, hps]
  exact hf
/-- A row that is made without elements, with room. -/
theorem c_makeRow {α : Type} {dr : Rep α} {bytes c : Nat} (ho : ops[i]? = some ⟨some d, .makeSlice t x y, ty, pos, af, g⟩) (hw : guardOf ops g e = true) (hn : Nat.blt d n.n = true) (hk : loudK kds i = true)
    (hu : P.underlying t = some (.slice el)) (hi : (P.info? el).map (fun i => (i.zero, i.size, i.bytes)) = some (some zv, dr.sz, bytes)) (hzs : zv.cells.size = dr.sz) (hx : ev e x = .int .i64 0) (hy : ev e y = .int .i64 (c : Int)) (hb : bytes * c ≤ 140737488355328) (hb0 : 0 < bytes)
    (hxt : ∀ v, nds.getD i false = false ∨ Ext sc rc (Row dr el v [] :: sps) rs) (h : ∀ v, Can P ops Q kds nds sc rc n w0 l (upd e d v) (Row dr el v [] :: sps) rs) : Can P ops Q kds nds sc rc n w0 (i :: l) e sps rs := by
  refine can_act (R := fun v s r => s = Row dr el v [] :: sps ∧ r = rs) ho hw rfl hn hk (fun W hs => ?_) (by rintro v s r ⟨rfl, rfl⟩; exact hxt v) (by rintro v s r ⟨rfl, rfl⟩; exact h v)
  obtain ⟨inf, hi1, hi2, hi3, hi4⟩ := info_parts hi
  have hc : c ≤ 140737488355328 := Nat.le_trans (Nat.le_mul_of_pos_left c hb0) hb
  have hbc : (inf.bytes : Int) * (c : Int) ≤ 281474976710656 := by
    rw [hi4]
    have h : ((bytes * c : Nat) : Int) ≤ 281474976710656 := by omega
    rwa [Int.natCast_mul] at h
  have hr := run_make (P := P) W t el inf zv hu hi1 hi2 .i64 .i64 0 c (Int.le_refl _) (by omega) hbc (by omega)
  simp only [Int.toNat_zero, Int.toNat_natCast, hi3] at hr
  obtain ⟨hbl, o, h1, h2, h3, h4⟩ := hs.alloc (madeCells zv.cells (c * dr.sz)).toList el
  obtain ⟨o1, o2, rfl, h0, h1⟩ := h1
  cases h0
  simp only [Array.toArray_toList] at h1 h2 h3 h4 hbl
  refine ⟨.slice (some ⟨W.heap.size, 0, none⟩) 0 c, W.alloc (.cells (madeCells zv.cells (c * dr.sz)) el), Row dr el (.slice (some ⟨W.heap.size, 0, none⟩) 0 c) [] :: sps, rs, by simp [execOp, hx, hy, hr], ⟨hbl, [(W.heap.size, .cells (madeCells zv.cells (c * dr.sz)) el)] ++ o2, ⟨_, o2, rfl, .inr ⟨W.heap.size, c, _, [], rfl, rfl, Reps.nil _ _, Nat.zero_le _, by simp only [maxLen]; omega, by simp [size_madeCells], by simp⟩, h1⟩, h2, h3, h4⟩, rfl, rfl⟩
end
end Go.Proofs.YtmodmjekhlnjpaaGreatDoor
namespace Go.Proofs.YtmodmjekhlnjpaaGreatDoor
open Go.RowKit
/-- A byte. -/
def b8 : Rep Nat := Rep.scalar (fun n => .int .u8 (n : Int)) (fun _ => rfl) (fun n => n < 256)
/-- Words in cells. -/
def ne (k : IntKind) (xs : List Nat) : List Value := xs.map fun (x : Nat) => .int k (x : Int)
theorem ne_length (k : IntKind) (xs : List Nat) : (ne k xs).length = xs.length := by simp [ne]
theorem ne_get {k : IntKind} {xs : List Nat} {i : Nat} (h : i < xs.length) : (ne k xs)[i]? = some (.int k ((xs.getD i 0 : Nat) : Int)) := by
  simp [ne, List.getD_eq_getElem?_getD, List.getElem?_eq_getElem h]
theorem ne_set (k : IntKind) (xs : List Nat) (i x : Nat) : (ne k xs).set i (.int k (x : Int)) = ne k (xs.set i x) := by simp [ne]
theorem ne_one (k : IntKind) (xs : List Nat) : ((ne k xs).all fun u => u.oneCell') = true := by
  simp only [ne, List.all_map, List.all_eq_true]; intro x _; rfl
theorem mid_get {α : Type} {A B : List α} {x y : α} {t : Nat} (h : A.length = t) : (A ++ x :: B).getD t y = x := by subst h; simp [List.getD_eq_getElem?_getD]
theorem mid_set {α : Type} {A B : List α} {x y : α} {t : Nat} (h : A.length = t) : (A ++ x :: B).set t y = A ++ y :: B := by subst h; simp
theorem left_get {α : Type} {A B : List α} {y : α} {i : Nat} (h : i < A.length) : (A ++ B).getD i y = A.getD i y := by
  simp [List.getD_eq_getElem?_getD, List.getElem?_append_left h]
theorem b8_reps {hh : Hp} {xs : List Nat} (h : ∀ x ∈ xs, x < 256) : Reps b8 hh xs (ne .u8 xs) := by
  refine ⟨by simp [ne, b8, Rep.scalar], fun j x hx => ?_⟩
  have hlt := (List.getElem?_eq_some_iff.1 hx).1
  refine ⟨?_, h x (List.mem_of_getElem? hx)⟩
  have : (ne .u8 xs)[j]? = some (.int .u8 (x : Int)) := by simp [ne, hx]
  simp only [b8, Rep.scalar, Nat.mul_one]
  apply List.ext_getElem?
  intro i
  rw [List.getElem?_take]
  cases i with
  | zero => simpa using this
  | succ i => simp
section
variable {w0 : World} {sps : List Sp} {rs : List Fa}
theorem en_openB {v : Value} {xs : List Nat} (j : Nat) (hj : j < xs.length) (hm : Rd b8 v xs ∈ rs) : En w0 sps rs fun s r => ∃ gg off c, v = .slice (some ⟨gg, off, none⟩) xs.length c ∧ xs.getD j 0 < 256 ∧ sps = s ∧ r = Cl gg (off + j) [.int .u8 ((xs.getD j 0 : Nat) : Int)] :: rs := fun W hs => by
  obtain ⟨s, r, h1, gg, off, c, cs, h2, h3, rfl, rfl⟩ := en_open (w0 := w0) j hj hm W hs
  have hK := h1.fact (r := Kf b8 xs[j] cs) (List.mem_cons_of_mem _ List.mem_cons_self)
  obtain ⟨rfl, hwf⟩ := hK
  have e1 : xs.getD j 0 = xs[j] := by simp [List.getD_eq_getElem?_getD, List.getElem?_eq_getElem hj]
  exact ⟨_, _, h1.facts (rs' := Cl gg (off + j * b8.sz) [.int .u8 ((xs[j] : Nat) : Int)] :: rs) (by intro q hq; (rcases List.mem_cons.1 hq with rfl | hq) <;> first | exact List.mem_cons_self | exact List.mem_cons_of_mem _ (List.mem_cons_of_mem _ hq)), gg, off, c, h2, by rw [e1]; exact hwf, rfl, by rw [e1]; simp [b8, Rep.scalar]⟩
/-- What reads as bytes is below 256. -/
theorem en_bytes {v : Value} {xs : List Nat} (hm : Rd b8 v xs ∈ rs) : En w0 sps rs fun s r => sps = s ∧ rs = r ∧ ∀ x ∈ xs, x < 256 := fun W hs => by
  refine ⟨_, _, hs, rfl, rfl, fun x hx => ?_⟩
  obtain ⟨A, c, _, _, _, hS⟩ := hs.fact hm
  obtain ⟨i, hi, rfl⟩ := List.mem_iff_getElem.1 hx
  obtain ⟨g, off, cells, e, fz, cs, _, _, hr, _⟩ := hS.2 (by intro e; rw [e] at hi; simp at hi)
  exact (hr.2 i _ (List.getElem?_eq_getElem hi)).2
end
/-- A word put behind. -/
theorem shl_or {b a c : Nat} (h : a * 256 + c < 2 ^ b) (hc : c < 256) : a * 2 ^ 8 % 2 ^ b ||| c = a * 256 + c := by
  have h8 : (2 : Nat) ^ 8 = 256 := rfl
  have h1 := Nat.shiftLeft_add_eq_or_of_lt (i := 8) (b := c) (by rw [h8]; exact hc) a
  rw [Nat.shiftLeft_eq, h8] at h1
  rw [h8, Nat.mod_eq_of_lt (Nat.lt_of_le_of_lt (Nat.le_add_right _ _) h), ← h1]
theorem mod_lt' (x b : Nat) : x % 2 ^ b < 2 ^ b := Nat.mod_lt _ (Nat.two_pow_pos b)
end Go.Proofs.YtmodmjekhlnjpaaGreatDoor
namespace Go.Proofs.YtmodmjekhlnjpaaGreatDoor

/-- A digest's shape: the words' digits and bytes, its rounds, by how much words are turned. -/
structure Shp where
  b : Nat
  sz : Nat
  rounds : Nat
  s0 : Nat × Nat × Nat
  s1 : Nat × Nat × Nat
  g0 : Nat × Nat × Nat
  g1 : Nat × Nat × Nat
def sh32 : Shp := ⟨32, 4, 64, (7, 18, 3), (17, 19, 10), (2, 13, 22), (6, 11, 25)⟩
def sh64 : Shp := ⟨64, 8, 80, (1, 8, 7), (19, 61, 6), (28, 34, 39), (14, 18, 41)⟩
def sturn (b x n : Nat) : Nat := x / 2 ^ n ||| x * 2 ^ (b - n) % 2 ^ b
def ssm (b : Nat) (r : Nat × Nat × Nat) (x : Nat) : Nat := sturn b x r.1 ^^^ sturn b x r.2.1 ^^^ x / 2 ^ r.2.2
def sbg (b : Nat) (r : Nat × Nat × Nat) (x : Nat) : Nat := sturn b x r.1 ^^^ sturn b x r.2.1 ^^^ sturn b x r.2.2
theorem div_lt {b x : Nat} (n : Nat) (h : x < 2 ^ b) : x / 2 ^ n < 2 ^ b := Nat.lt_of_le_of_lt (Nat.div_le_self _ _) h
theorem sturn_lt {b x : Nat} (n : Nat) (h : x < 2 ^ b) : sturn b x n < 2 ^ b := Nat.or_lt_two_pow (div_lt n h) (Nat.mod_lt _ (Nat.two_pow_pos b))
/-- A number's bytes, the greatest first. -/
def beN (l : List Nat) : Nat := l.foldl (fun a c => a * 256 + c) 0
def wnext (p : Shp) (blk : List Nat) (l : List Nat) : Nat :=
  let t := l.length
  if t < 16 then beN ((blk.drop (t * p.sz)).take p.sz)
  else (((l.getD (t - 16) 0 + ssm p.b p.s0 (l.getD (t - 15) 0)) % 2 ^ p.b + l.getD (t - 7) 0) % 2 ^ p.b + ssm p.b p.s1 (l.getD (t - 2) 0)) % 2 ^ p.b
/-- A block's first words. -/
def wlist (p : Shp) (blk : List Nat) : Nat → List Nat
  | 0 => []
  | t + 1 => wlist p blk t ++ [wnext p blk (wlist p blk t)]
theorem wlist_length (p : Shp) (blk : List Nat) (t : Nat) : (wlist p blk t).length = t := by
  induction t with
  | zero => rfl
  | succ t ih => simp [wlist, ih]
structure V8 where
  (a b c d e f g h : Nat)
def rnd (p : Shp) (v : V8) (k x : Nat) : V8 :=
  let t1 := (((((v.h + sbg p.b p.g1 v.e) % 2 ^ p.b + ((v.e &&& v.f) ^^^ ((2 ^ p.b - 1 - v.e) &&& v.g))) % 2 ^ p.b + k) % 2 ^ p.b) + x) % 2 ^ p.b
  let t2 := (sbg p.b p.g0 v.a + ((v.a &&& v.b) ^^^ (v.a &&& v.c) ^^^ (v.b &&& v.c))) % 2 ^ p.b
  ⟨(t1 + t2) % 2 ^ p.b, v.a, v.b, v.c, (v.d + t1) % 2 ^ p.b, v.e, v.f, v.g⟩
def constN : List Nat := [4794697086780616226, 8158064640168781261, 13096744586834688815, 16840607885511220156, 4131703408338449720, 6480981068601479193, 10538285296894168987, 12329834152419229976, 15566598209576043074, 1334009975649890238, 2608012711638119052, 6128411473006802146, 8268148722764581231, 9286055187155687089, 11230858885718282805, 13951009754708518548, 16472876342353939154, 17275323862435702243, 1135362057144423861, 2597628984639134821, 3308224258029322869, 5365058923640841347, 6679025012923562964, 8573033837759648693, 10970295158949994411, 12119686244451234320, 12683024718118986047, 13788192230050041572, 14330467153632333762, 15395433587784984357, 489312712824947311, 1452737877330783856, 2861767655752347644, 3322285676063803686, 5560940570517711597, 5996557281743188959, 7280758554555802590, 8532644243296465576, 9350256976987008742, 10552545826968843579, 11727347734174303076, 12113106623233404929, 14000437183269869457, 14369950271660146224, 15101387698204529176, 15463397548674623760, 17586052441742319658, 1182934255886127544, 1847814050463011016, 2177327727835720531, 2830643537854262169, 3796741975233480872, 4115178125766777443, 5681478168544905931, 6601373596472566643, 7507060721942968483, 8399075790359081724, 8693463985226723168, 9568029438360202098, 10144078919501101548, 10430055236837252648, 11840083180663258601, 13761210420658862357, 14299343276471374635, 14566680578165727644, 15097957966210449927, 16922976911328602910, 17689382322260857208, 500013540394364858, 748580250866718886, 1242879168328830382, 1977374033974150939, 2944078676154940804, 3659926193048069267, 4368137639120453308, 4836135668995329356, 5532061633213252278, 6448918945643986474, 6902733635092675308, 7801388544844847127]
def startN : List Nat := [7640891576956012808, 13503953896175478587, 4354685564936845355, 11912009170470909681, 5840696475078001361, 11170449401992604703, 2270897969802886507, 6620516959819538809]
def kn32 (t : Nat) : Nat := constN.getD t 0 / 2 ^ 32 % 2 ^ 32
def kn64 (t : Nat) : Nat := constN.getD t 0 / 2 ^ 0
def rnds (p : Shp) (kn : Nat → Nat) (w : List Nat) (v : V8) : Nat → V8
  | 0 => v
  | t + 1 => rnd p (rnds p kn w v t) (kn t) (w.getD t 0)
def vadd (b : Nat) (h v : V8) : V8 := ⟨(h.a + v.a) % 2 ^ b, (h.b + v.b) % 2 ^ b, (h.c + v.c) % 2 ^ b, (h.d + v.d) % 2 ^ b, (h.e + v.e) % 2 ^ b, (h.f + v.f) % 2 ^ b, (h.g + v.g) % 2 ^ b, (h.h + v.h) % 2 ^ b⟩
/-- A block put to the eight words. -/
def mixS (p : Shp) (kn : Nat → Nat) (h : V8) (blk : List Nat) : V8 := vadd p.b h (rnds p kn (wlist p blk p.rounds) h p.rounds)
structure V8lt (n : Nat) (v : V8) : Prop where
  a : v.a < 2 ^ n
  b : v.b < 2 ^ n
  c : v.c < 2 ^ n
  d : v.d < 2 ^ n
  e : v.e < 2 ^ n
  f : v.f < 2 ^ n
  g : v.g < 2 ^ n
  h : v.h < 2 ^ n
theorem rnd_lt {p : Shp} {v : V8} (k x : Nat) (h : V8lt p.b v) : V8lt p.b (rnd p v k x) :=
  ⟨Nat.mod_lt _ (Nat.two_pow_pos _), h.a, h.b, h.c, Nat.mod_lt _ (Nat.two_pow_pos _), h.e, h.f, h.g⟩
theorem rnds_lt {p : Shp} {v : V8} (kn : Nat → Nat) (w : List Nat) (h : V8lt p.b v) : ∀ t, V8lt p.b (rnds p kn w v t)
  | 0 => h
  | t + 1 => rnd_lt _ _ (rnds_lt kn w h t)
theorem vadd_lt (b : Nat) (h v : V8) : V8lt b (vadd b h v) :=
  ⟨Nat.mod_lt _ (Nat.two_pow_pos _), Nat.mod_lt _ (Nat.two_pow_pos _), Nat.mod_lt _ (Nat.two_pow_pos _), Nat.mod_lt _ (Nat.two_pow_pos _), Nat.mod_lt _ (Nat.two_pow_pos _), Nat.mod_lt _ (Nat.two_pow_pos _), Nat.mod_lt _ (Nat.two_pow_pos _), Nat.mod_lt _ (Nat.two_pow_pos _)⟩
end Go.Proofs.YtmodmjekhlnjpaaGreatDoor
namespace Go.Proofs.YtmodmjekhlnjpaaGreatDoor
open Go.RowKit

theorem beN_snoc (l : List Nat) (c : Nat) : beN (l ++ [c]) = beN l * 256 + c := by simp [beN]
theorem beN_lt' : ∀ (l : List Nat) (a : Nat), (∀ x ∈ l, x < 256) → l.foldl (fun a c => a * 256 + c) a < (a + 1) * 256 ^ l.length
  | [], a, _ => by simp
  | c :: l, a, h => by
    have h1 := beN_lt' l (a * 256 + c) fun x hx => h x (List.mem_cons_of_mem _ hx)
    have h2 := h c List.mem_cons_self
    rw [List.foldl_cons, List.length_cons, Nat.pow_succ, Nat.mul_comm (256 ^ l.length) 256, ← Nat.mul_assoc]
    exact Nat.lt_of_lt_of_le h1 (Nat.mul_le_mul_right _ (by omega))
theorem beN_lt (l : List Nat) (h : ∀ x ∈ l, x < 256) : beN l < 256 ^ l.length := by
  have := beN_lt' l 0 h
  simpa [beN] using this
theorem getD_lt {xs : List Nat} {m : Nat} (hm : 0 < m) (h : ∀ x ∈ xs, x < m) (i : Nat) : xs.getD i 0 < m := by
  rw [List.getD_eq_getElem?_getD]
  cases hi : xs[i]? with
  | none => exact hm
  | some x => exact h x (List.mem_of_getElem? hi)
/-- The part of a block that makes word t. -/
def wpart (p : Shp) (blk : List Nat) (t : Nat) : List Nat := (blk.drop (t * p.sz)).take p.sz
theorem wnext_lo (p : Shp) (blk l : List Nat) (h : l.length < 16) : wnext p blk l = beN (wpart p blk l.length) := by
  simp only [wnext, if_pos h, wpart]
theorem wnext_hi (p : Shp) (blk l : List Nat) (h : 16 ≤ l.length) : wnext p blk l = (((l.getD (l.length - 16) 0 + ssm p.b p.s0 (l.getD (l.length - 15) 0)) % 2 ^ p.b + l.getD (l.length - 7) 0) % 2 ^ p.b + ssm p.b p.s1 (l.getD (l.length - 2) 0)) % 2 ^ p.b := by
  simp only [wnext, if_neg (show ¬ l.length < 16 by omega)]
theorem wlist_lt (p : Shp) (blk : List Nat) (hb : ∀ x ∈ blk, x < 256) (hp : 256 ^ p.sz ≤ 2 ^ p.b) : ∀ t, ∀ x ∈ wlist p blk t, x < 2 ^ p.b := by
  intro t
  induction t with
  | zero => intro x hx; cases hx
  | succ t ih =>
    intro x hx
    simp only [wlist, List.mem_append, List.mem_singleton] at hx
    rcases hx with hx | rfl
    · exact ih x hx
    · rcases Nat.lt_or_ge (wlist p blk t).length 16 with h | h
      · rw [wnext_lo p blk _ h]
        have h1 := beN_lt (wpart p blk (wlist p blk t).length) fun x hx => hb x (List.mem_of_mem_drop (List.mem_of_mem_take hx))
        have h2 : (wpart p blk (wlist p blk t).length).length ≤ p.sz := by simp [wpart]; omega
        exact Nat.lt_of_lt_of_le h1 (Nat.le_trans (Nat.pow_le_pow_right (by decide) h2) hp)
      · rw [wnext_hi p blk _ h]; exact Nat.mod_lt _ (Nat.two_pow_pos _)
theorem row_old (p : Shp) (blk : List Nat) (t i : Nat) (l : List Nat) (h : i < t) : ((wlist p blk t) ++ l).getD i 0 = (wlist p blk t).getD i 0 := left_get (by rw [wlist_length]; exact h)
theorem row_ld (K : IntKind) (p : Shp) (blk : List Nat) (t : Nat) (l : List Nat) (off i : Nat) (h : off = i) (hi : i < t) : (ne K (wlist p blk t ++ l))[off]? = some (.int K (((wlist p blk t).getD i 0 : Nat) : Int)) := by
  subst h
  rw [ne_get (by rw [List.length_append, wlist_length]; omega), row_old p blk t off l hi]
theorem row_cur (K : IntKind) (p : Shp) (blk : List Nat) (t x : Nat) (l : List Nat) (off : Nat) (h : off = t) : (ne K (wlist p blk t ++ x :: l))[off]? = some (.int K ((x : Nat) : Int)) := by
  subst h
  rw [ne_get (by simp [wlist_length]), mid_get (wlist_length p blk off)]
theorem row_put (K : IntKind) (p : Shp) (blk : List Nat) (t x y : Nat) (l : List Nat) (off : Nat) (h : off = t) : (ne K (wlist p blk t ++ x :: l)).set off (.int K ((y : Nat) : Int)) = ne K (wlist p blk t ++ y :: l) := by
  subst h
  rw [ne_set, mid_set (wlist_length p blk off)]
theorem wpart_length (p : Shp) (blk : List Nat) (t : Nat) (h : (t + 1) * p.sz ≤ blk.length) : (wpart p blk t).length = p.sz := by
  rw [Nat.add_mul, Nat.one_mul] at h
  simp [wpart]; omega
theorem wpart_eq (p : Shp) (blk : List Nat) (t : Nat) : (blk.take ((t + 1) * p.sz)).drop (t * p.sz) = wpart p blk t := by
  rw [List.drop_take, wpart]
  congr 1
  rw [Nat.add_mul]; omega
theorem take_beN (l : List Nat) (k : Nat) (h : k < l.length) : beN (l.take (k + 1)) = beN (l.take k) * 256 + l.getD k 0 := by
  rw [List.take_succ_eq_append_getElem h, beN_snoc]
  simp [List.getD_eq_getElem?_getD, List.getElem?_eq_getElem h]
theorem rep_succ (n : Nat) (h : 0 < n) : List.replicate n 0 = 0 :: List.replicate (n - 1) (0 : Nat) := by
  cases n with
  | zero => omega
  | succ n => rfl
def v8c (K : IntKind) (v : V8) : List Value := [.int K (v.a : Int), .int K (v.b : Int), .int K (v.c : Int), .int K (v.d : Int), .int K (v.e : Int), .int K (v.f : Int), .int K (v.g : Int), .int K (v.h : Int)]
def constsV : List Value := ne .u64 constN
theorem const_ld (t : Nat) (h : t < 80) : constsV[((t : Nat) : Int).toNat]? = some (.int .u64 ((constN.getD t 0 : Nat) : Int)) := by
  rw [Int.toNat_natCast]; exact ne_get h
theorem compl_lt (b x : Nat) : 2 ^ b - 1 - x < 2 ^ b := by have := Nat.two_pow_pos b; omega
end Go.Proofs.YtmodmjekhlnjpaaGreatDoor
namespace Go.Proofs.YtmodmjekhlnjpaaGreatDoor
open Go.RowKit
section
variable {P : Program} {ops : Array Oper} {Q : Exit → Act → World → Prop} {kds : List Nat} {nds : List Bool} {sc : List Sp} {rc : List Fa} {n : Fr} {w0 : World} {i : Nat} {l : List Nat} {e : Nat → Value} {sps : List Sp} {rs : List Fa}
  {o : Oper} {d : Nat} {ty : TypeId} {pos : String} {af : Array Edge} {g : Option (Nat × Bool)} {v : Value} {x y z : Operand}
theorem c_index1 {t el : TypeId} {m : Nat} {k : IntKind} {p : Int} {cs : List Value} (ho : ops[i]? = some ⟨some d, .index t x y, ty, pos, af, g⟩) (hw : guardOf ops g e = true) (hn : Nat.blt d n.n = true) (hk : pureK kds nds i = true) (hu : P.underlying t = some (.array m el)) (hA : ∀ w, (isAgg el).run P w = .ok false w) (hS : ∀ w, (sizeOf el).run P w = .ok 1 w) (hx : ev e x = .agg cs.toArray) (hy : ev e y = .int k p) (hp : 0 ≤ p ∧ p < m) (hv : cs[p.toNat]? = some v)
    (h : Can P ops Q kds nds sc rc n w0 l (upd e d v) sps rs) : Can P ops Q kds nds sc rc n w0 (i :: l) e sps rs :=
  can_val ho hw rfl hn hk (fun W => by simp [execOp, hx, hy, Instr.index, run_underlying hu, asIntOf, hp, asAgg, part, hA, hS, hv]) h
theorem c_remE {t u : TypeId} {k : IntKind} {p q : Int} (ho : ops[i]? = some ⟨some d, .binOp .rem t x y u, ty, pos, af, g⟩) (hw : guardOf ops g e = true) (hn : Nat.blt d n.n = true) (hk : pureK kds nds i = true) (hx : ev e x = .int k p) (hy : ev e y = .int k q) (hp : 0 ≤ p) (hq : 0 < q)
    (h : Can P ops Q kds nds sc rc n w0 l (upd e d (.int k (p % q))) sps rs) : Can P ops Q kds nds sc rc n w0 (i :: l) e sps rs := c_rem ho hw hn hk hx hy (by omega) (by rw [Int.tmod_eq_emod_of_nonneg hp]; exact h)
theorem c_min {t u : TypeId} {k k' : IntKind} {p q : Int} (ho : ops[i]? = some ⟨some d, .call ⟨.builtin .min, #[x, y], #[t, u]⟩, ty, pos, af, g⟩) (hw : guardOf ops g e = true) (hn : Nat.blt d n.n = true) (hk : pureK kds nds i = true) (hx : ev e x = .int k p) (hy : ev e y = .int k' q)
    (h : Can P ops Q kds nds sc rc n w0 l (upd e d (.int k (min p q))) sps rs) : Can P ops Q kds nds sc rc n w0 (i :: l) e sps rs :=
  can_val ho hw rfl hn hk (fun W => by
    have : (if q < p then q else p) = min p q := by omega
    simp [execOp, resolve, invoke, builtin, hx, hy, Go.run_min_int2, this]) h
theorem c_max {t u : TypeId} {k k' : IntKind} {p q : Int} (ho : ops[i]? = some ⟨some d, .call ⟨.builtin .max, #[x, y], #[t, u]⟩, ty, pos, af, g⟩) (hw : guardOf ops g e = true) (hn : Nat.blt d n.n = true) (hk : pureK kds nds i = true) (hx : ev e x = .int k p) (hy : ev e y = .int k' q)
    (h : Can P ops Q kds nds sc rc n w0 l (upd e d (.int k (max p q))) sps rs) : Can P ops Q kds nds sc rc n w0 (i :: l) e sps rs :=
  can_val ho hw rfl hn hk (fun W => by
    have : (if q > p then q else p) = max p q := by omega
    simp only [gt_iff_lt] at this
    simp [execOp, resolve, invoke, builtin, hx, hy, Go.run_max_int2, this]) h
theorem c_quoN {t u : TypeId} {k : IntKind} {p q : Int} (a b : Nat) (ho : ops[i]? = some ⟨some d, .binOp .quo t x y u, ty, pos, af, g⟩) (hw : guardOf ops g e = true) (hn : Nat.blt d n.n = true) (hk : pureK kds nds i = true) (hx : ev e x = .int k p) (hy : ev e y = .int k q) (hp : p = (a : Int)) (hq : q = (b : Int)) (hb : 0 < b) (hwr : k.wrap ((a / b : Nat) : Int) = ((a / b : Nat) : Int))
    (h : Can P ops Q kds nds sc rc n w0 l (upd e d (.int k ((a / b : Nat) : Int))) sps rs) : Can P ops Q kds nds sc rc n w0 (i :: l) e sps rs := by
  subst hp hq
  exact c_quo ho hw hn hk hx hy (by omega) (by rw [Int.tdiv_eq_ediv_of_nonneg (by omega), ← Int.natCast_ediv, hwr]; exact h)
/-- A slot holds this. -/
theorem can_is (t : Nat) (v : Value) (hb : e t = v) (h : Can P ops Q kds nds sc rc n w0 l (upd e t v) sps rs) : Can P ops Q kds nds sc rc n w0 l e sps rs := by rwa [← upd1 e hb] at h
theorem made_bytes (m : Nat) : (madeCells (Value.int .u8 0).cells (m * 1)).toList = ne .u8 (List.replicate m 0) := by
  apply List.ext_getElem?
  intro i
  simp [madeCells, ne, List.getElem?_replicate, Value.cells]
  by_cases h : i < m <;> simp [h, Nat.mod_one]
theorem c_makeBytes {t el : TypeId} {m : Nat} {p : Int} (ho : ops[i]? = some ⟨some d, .makeSlice t x y, ty, pos, af, g⟩) (hw : guardOf ops g e = true) (hn : Nat.blt d n.n = true) (hk : loudK kds i = true)
    (hu : P.underlying t = some (.slice el)) (hi : (P.info? el).map (fun i => (i.zero, i.size, i.bytes)) = some (some (.int .u8 0), 1, 1)) (hx : ev e x = .int .i64 p) (hy : ev e y = .int .i64 p) (hp : p = (m : Int)) (hb : m ≤ 281474976710656)
    (hxt : ∀ gg, nds.getD i false = false ∨ Ext sc rc (Bk gg (ne .u8 (List.replicate m 0)) el :: sps) rs)
    (h : ∀ gg, Can P ops Q kds nds sc rc n w0 l (upd e d (.slice (some ⟨gg, 0, none⟩) m m)) (Bk gg (ne .u8 (List.replicate m 0)) el :: sps) rs) : Can P ops Q kds nds sc rc n w0 (i :: l) e sps rs := by
  subst hp
  rw [← made_bytes] at hxt h
  exact c_makeSlice (k := .i64) (k' := .i64) ho hw hn hk hu hi hx hy (by omega) (by omega) hxt h
/-- Only some facts are kept. -/
theorem en_keep (rs' : List Fa) (h : ∀ r ∈ rs', r ∈ rs) : En w0 sps rs fun s r => sps = s ∧ rs' = r := fun W hs => ⟨_, _, hs.facts h, rfl, rfl⟩
/-- Parts in another order, some left out. -/
inductive Arr : List Sp → List Sp → Prop
  | refl {l : List Sp} : Arr l l
  | sub {l l' : List Sp} (h : l'.Sublist l) : Arr l l'
  | cons {s : Sp} {l l1 l2 : List Sp} (h : Rem s l l1) (h2 : Arr l1 l2) : Arr l (s :: l2)
theorem Arr.st {W : World} {l l' : List Sp} (h : Arr l l') (hs : St w0 W l rs) : St w0 W l' rs := by
  suffices ∀ pre : List Sp, St w0 W (pre ++ l) rs → St w0 W (pre ++ l') rs from this [] hs
  clear hs
  induction h with
  | refl => exact fun _ h => h
  | sub h => exact fun pre hs => hs.sub (List.Sublist.append_left h pre)
  | cons hr _ ih =>
    rename_i s l l1 l2 _
    intro pre hs
    have h1 := hs.perm ((hr.perm).append_left pre)
    have h2 := ih (pre ++ [s]) (by rw [List.append_assoc]; exact h1)
    rw [List.append_assoc] at h2; exact h2
theorem en_arr {sps' : List Sp} (h : Arr sps sps') : En w0 sps rs fun s r => sps' = s ∧ rs = r := fun W hs => ⟨_, _, h.st hs, rfl, rfl⟩
/-- An own block is owned no more: it stands. -/
theorem en_giveBk {gg : Nat} {cs : List Value} {t : TypeId} {sps' : List Sp} (hr : Rem (Bk gg cs t) sps sps') : En w0 sps rs fun s r => sps' = s ∧ Cl gg 0 cs :: rs = r := fun W hs => by
  refine ⟨_, _, (hs.perm hr.perm).give fun hh o ho => ?_, rfl, rfl⟩
  have ho' : o = [(gg, .cells cs.toArray t (0, 0))] := ho
  subst ho'
  exact ⟨_, _, _, .inr (List.mem_singleton.2 rfl), fun j u hu => by simpa using hu⟩
/-- A fact twice. -/
theorem en_dup {r : Fa} (h : r ∈ rs) : En w0 sps rs fun s r' => sps = s ∧ r' = r :: rs := en_fact fun _ hh => hh r h
theorem b8_inner {hh : Hp} {xs : List Nat} {cs : List Value} (h : Reps b8 hh xs cs) : cs = ne .u8 xs ∧ ∀ x ∈ xs, x < 256 := by
  obtain ⟨hl, hk⟩ := h
  have hl' : cs.length = xs.length := by simpa [b8, Rep.scalar] using hl
  refine ⟨?_, fun x hx => ?_⟩
  · apply List.ext_getElem?
    intro j
    cases hj : xs[j]? with
    | none =>
      rw [List.getElem?_eq_none (by rw [hl']; exact List.getElem?_eq_none_iff.1 hj)]
      simp [ne, hj]
    | some x =>
      have := (hk j x hj).1
      have h0 := congrArg (fun l : List Value => l[0]?) this
      have h1 : b8.sz = 1 := rfl
      rw [h1] at h0
      simp only [Nat.mul_one, List.getElem?_take, Nat.zero_lt_one, if_true, List.getElem?_drop, Nat.add_zero] at h0
      rw [h0]; simp [ne, hj]
  · obtain ⟨j, hj⟩ := List.mem_iff_getElem?.1 hx
    exact (hk j x hj).2
/-- An own row of bytes as a block. -/
theorem en_rowBk {el : TypeId} {v : Value} {xs : List Nat} {sps' : List Sp} (hr : Rem (Row b8 el v xs) sps sps') (h0 : 0 < xs.length) : En w0 sps rs fun s r => ∃ gg tl, v = .slice (some ⟨gg, 0, none⟩) xs.length (xs.length + tl.length) ∧ (∀ x ∈ xs, x < 256) ∧ xs.length + tl.length ≤ maxLen ∧ Bk gg (ne .u8 xs ++ tl) el :: sps' = s ∧ rs = r := fun W hs => by
  obtain ⟨hb, o, ⟨o1, o2, rfl, h1, h2⟩, h3, h4, h5⟩ := hs.perm hr.perm
  rcases h1 with ⟨_, rfl, _⟩ | ⟨gg, cap, cur, inner, rfl, rfl, h6, h7, h8, h9, h10⟩
  · simp at h0
  · obtain ⟨rfl, hlt⟩ := b8_inner h6
    have hsz : b8.sz = 1 := rfl
    rw [hsz, Nat.mul_one] at h9 h10
    have hcur : cur.toList = ne .u8 xs ++ cur.toList.drop xs.length := by rw [← h10, List.take_append_drop]
    have hdl : xs.length + (cur.toList.drop xs.length).length = cap := by simp; omega
    have hst : St w0 W (Bk gg (ne .u8 xs ++ cur.toList.drop xs.length) el :: sps') rs := ⟨hb, _, ⟨_, o2, rfl, show _ = _ by rw [← hcur], h2⟩, h3, h4, h5⟩
    exact ⟨_, _, hst, gg, cur.toList.drop xs.length, by rw [hdl], hlt, by rw [hdl]; exact h8, rfl, rfl⟩
theorem en_bkRow {el : TypeId} {gg : Nat} {xs : List Nat} {tl : List Value} {sps' : List Sp} (hr : Rem (Bk gg (ne .u8 xs ++ tl) el) sps sps') (hlt : ∀ x ∈ xs, x < 256) (hm : xs.length + tl.length ≤ maxLen) : En w0 sps rs fun s r => Row b8 el (.slice (some ⟨gg, 0, none⟩) xs.length (xs.length + tl.length)) xs :: sps' = s ∧ rs = r := fun W hs => by
  obtain ⟨hb, o, ⟨o1, o2, rfl, h1, h2⟩, h3, h4, h5⟩ := hs.perm hr.perm
  cases h1
  have hst : St w0 W (Row b8 el (.slice (some ⟨gg, 0, none⟩) xs.length (xs.length + tl.length)) xs :: sps') rs := ⟨hb, _, ⟨_, o2, rfl, .inr ⟨gg, xs.length + tl.length, _, ne .u8 xs, rfl, rfl, b8_reps hlt, by omega, hm, by simp [ne_length, b8, Rep.scalar], by simp [b8, Rep.scalar, ne_length]⟩, h2⟩, h3, h4, h5⟩
  exact ⟨_, _, hst, rfl, rfl⟩
theorem ne_app_get {k : IntKind} {xs : List Nat} {tl : List Value} {i off : Nat} (ho : off = i) (h : i < xs.length) : (ne k xs ++ tl)[off]? = some (.int k ((xs.getD i 0 : Nat) : Int)) := by
  subst ho
  rw [List.getElem?_append_left (by rw [ne_length]; exact h), ne_get h]
theorem ne_app_set {k : IntKind} {xs : List Nat} {tl : List Value} {i off x : Nat} (ho : off = i) (h : i < xs.length) : (ne k xs ++ tl).set off (.int k (x : Int)) = ne k (xs.set i x) ++ tl := by
  subst ho
  rw [List.set_append_left _ _ (by rw [ne_length]; exact h), ne_set]
/-- Rows of bytes. -/
abbrev bb : Rep (List Nat) := Rep.slice b8
theorem reps2 {α : Type} {dr : Rep α} {hh : Hp} {a b : α} {cs ds : List Value} (h1 : dr.K hh a cs) (h2 : dr.K hh b ds) : Reps dr hh [a, b] (cs ++ ds) := (Reps.one1 h1).snoc h2
end
end Go.Proofs.YtmodmjekhlnjpaaGreatDoor
namespace Go.Proofs.YtmodmjekhlnjpaaGreatDoor
open Go.RowKit
namespace Lf
variable {α β : Type}
def getO (xs : List α) (p : Int) : Option α := if 0 ≤ p then xs[p.toNat]? else none
def setO (xs : List α) (p : Int) (y : α) : Option (List α) := if 0 ≤ p ∧ p < xs.length then some (xs.set p.toNat y) else none
def subO (xs : List α) (p q : Int) : Option (List α) := if 0 ≤ p ∧ p ≤ q ∧ q ≤ xs.length then some ((xs.take q.toNat).drop p.toNat) else none
def appO (xs ys : List α) : Option (List α) := if xs.length + ys.length ≤ 1099511627776 then some (xs ++ ys) else none
def lett (t : α) (f : α → Option β) : Option β := f t
def chk (b : Bool) (x : Option β) : Option β := bif b then x else none
def usub (k : IntKind) (p q : Nat) : Nat := (k.wrap ((p : Int) - (q : Int))).toNat
def toU (k : IntKind) (p : Int) : Nat := (k.wrap p).toNat
def andN (b p q : Nat) : Nat := (p % 2 ^ b) &&& (q % 2 ^ b)
def orN (b p q : Nat) : Nat := (p % 2 ^ b) ||| (q % 2 ^ b)
def xorN (b p q : Nat) : Nat := (p % 2 ^ b) ^^^ (q % 2 ^ b)
def notN (b p : Nat) : Nat := 2 ^ b - 1 - p % 2 ^ b
theorem bnd {x : Option α} {f : α → Option β} {r : β} (h : x.bind f = some r) : ∃ y, x = some y ∧ f y = some r := by
  cases x with
  | none => cases h
  | some y => exact ⟨y, rfl, h⟩
def un2 {γ : Type} (s : α × β) (f : α → β → γ) : γ := f s.1 s.2
def kR {ρ σ τ : Type} (o : ρ ⊕ σ) (w : ρ → τ) (f : σ → Option τ) : Option τ := match o with
  | .inl r => some (w r)
  | .inr s => f s
def bindR {ρ σ τ : Type} (x : Option (ρ ⊕ σ)) (w : ρ → τ) (f : σ → Option τ) : Option τ := x.bind fun o => kR o w f
theorem bndR {ρ σ τ : Type} {x : Option (ρ ⊕ σ)} {w : ρ → τ} {f : σ → Option τ} {r : τ} (h : bindR x w f = some r) : ∃ o, x = some o ∧ kR o w f = some r := bnd h
theorem kR_r {ρ σ τ : Type} {a : σ} {w : ρ → τ} {f : σ → Option τ} {r : τ} (h : kR (.inr a) w f = some r) : f a = some r := h
theorem un2_ {γ : Type} {a : α} {b : β} {f : α → β → γ} {r : γ} (h : un2 (a, b) f = r) : f a b = r := h
/-- A value by a new name. -/
theorem nm {a : α} : ∃ z, a = z := ⟨_, rfl⟩
theorem let_ {t : α} {f : α → Option β} {r : β} (h : lett t f = some r) : ∃ y, t = y ∧ f y = some r := ⟨t, rfl, h⟩
theorem chk_ {b : Bool} {x : Option β} {r : β} (h : chk b x = some r) : b = true ∧ x = some r := by
  cases b with
  | false => cases h
  | true => exact ⟨rfl, h⟩
theorem getO_lt {xs : List α} {p : Int} {y : α} (h : getO xs p = some y) : 0 ≤ p ∧ p < xs.length ∧ xs[p.toNat]? = some y := by
  unfold getO at h
  split at h
  · have := (List.getElem?_eq_some_iff.1 h).1
    exact ⟨by assumption, by omega, h⟩
  · cases h
theorem setO_eq {xs ys : List α} {p : Int} {y : α} (h : setO xs p y = some ys) : 0 ≤ p ∧ p < xs.length ∧ ys = xs.set p.toNat y := by
  unfold setO at h
  split at h
  · rename_i hh; cases h; exact ⟨hh.1, hh.2, rfl⟩
  · cases h
theorem subO_eq {xs ys : List α} {p q : Int} (h : subO xs p q = some ys) : 0 ≤ p ∧ p ≤ q ∧ q ≤ xs.length ∧ ys = (xs.take q.toNat).drop p.toNat := by
  unfold subO at h
  split at h
  · rename_i hh; cases h; exact ⟨hh.1, hh.2.1, hh.2.2, rfl⟩
  · cases h
theorem appO_eq {xs ys zs : List α} (h : appO xs ys = some zs) : xs.length + ys.length ≤ 1099511627776 ∧ zs = xs ++ ys := by
  unfold appO at h
  split at h
  · cases h; exact ⟨by assumption, rfl⟩
  · cases h
theorem wrapU_cast {k : IntKind} (hk : k.signed = false) (p : Int) : (((k.wrap p).toNat : Nat) : Int) = k.wrap p := by
  cases k <;> simp [IntKind.signed] at hk <;> simp [IntKind.wrap, IntKind.bits, IntKind.signed] <;> omega
theorem ofNat_mod (b p : Nat) : BitVec.ofNat b p = BitVec.ofNat b (p % 2 ^ b) := by
  apply BitVec.eq_of_toNat_eq
  simp
theorem bitAnd {k : IntKind} (hk : k.signed = false) (x y : Nat) : bitI .and k (x : Int) (y : Int) = ((andN k.bits x y : Nat) : Int) := by
  have h := bit_and hk (Nat.mod_lt x (Nat.two_pow_pos k.bits)) (Nat.mod_lt y (Nat.two_pow_pos k.bits))
  simp only [bitI, ofInt_nat, ← ofNat_mod] at h ⊢
  exact h
theorem bitOr {k : IntKind} (hk : k.signed = false) (x y : Nat) : bitI .or k (x : Int) (y : Int) = ((orN k.bits x y : Nat) : Int) := by
  have h := bit_or hk (Nat.mod_lt x (Nat.two_pow_pos k.bits)) (Nat.mod_lt y (Nat.two_pow_pos k.bits))
  simp only [bitI, ofInt_nat, ← ofNat_mod] at h ⊢
  exact h
theorem bitXor {k : IntKind} (hk : k.signed = false) (x y : Nat) : bitI .xor k (x : Int) (y : Int) = ((xorN k.bits x y : Nat) : Int) := by
  have h := bit_xor hk (Nat.mod_lt x (Nat.two_pow_pos k.bits)) (Nat.mod_lt y (Nat.two_pow_pos k.bits))
  simp only [bitI, ofInt_nat, ← ofNat_mod] at h ⊢
  exact h
theorem bitNot {k : IntKind} (hk : k.signed = false) (x : Nat) : bitI .xor k (if k.signed = true then -1 else k.max) (x : Int) = ((notN k.bits x : Nat) : Int) := by
  have h := compl_nat hk (Nat.mod_lt x (Nat.two_pow_pos k.bits))
  simp only [bitI, ofInt_nat, ← ofNat_mod] at h ⊢
  exact h
/-- Reps without bounds. -/
def un (k : IntKind) : Rep Nat := Rep.scalar (fun n => .int k (n : Int)) (fun _ => rfl) (fun _ => True)
def sn (k : IntKind) : Rep Int := Rep.scalar (fun n => .int k n) (fun _ => rfl) (fun _ => True)
/-- Elements whose cells hang on nothing. -/
def Plain (d : Rep α) (f : α → List Value) : Prop := (∀ h x cs, d.K h x cs → cs = f x) ∧ ∀ h x, d.K h x (f x)
theorem plain_un (k : IntKind) : Plain (un k) fun n => [.int k (n : Int)] := ⟨fun _ _ _ h => h.1, fun _ _ => ⟨rfl, trivial⟩⟩
theorem plain_sn (k : IntKind) : Plain (sn k) fun n => [.int k n] := ⟨fun _ _ _ h => h.1, fun _ _ => ⟨rfl, trivial⟩⟩
end Lf
open Lf
section
variable {P : Program} {ops : Array Oper} {Q : Exit → Act → World → Prop} {kds : List Nat} {nds : List Bool} {sc : List Sp} {rc : List Fa} {n : Fr} {w0 : World} {i : Nat} {l : List Nat} {e : Nat → Value} {sps : List Sp} {rs : List Fa}
  {o : Oper} {d : Nat} {ty : TypeId} {pos : String} {af : Array Edge} {g : Option (Nat × Bool)} {v : Value} {x y z : Operand} {ρ : Type}
theorem cs_condL {c : Operand} {x y : Code} {b : Bool} {X Y : Option ρ} {r : ρ} (hc : ev e c = .bool b) (h : (bif b then X else Y) = some r) (h1 : b = true → X = some r → CS P n x Q w0 e sps rs) (h2 : b = false → Y = some r → CS P n y Q w0 e sps rs) : CS P n (.cond c x y) Q w0 e sps rs := by
  refine cs_cond hc (fun hb => h1 hb ?_) (fun hb => h2 hb ?_)
  · subst hb; exact h
  · subst hb; exact h
theorem can_splitL (t : Nat) {b : Bool} {X Y : Option ρ} {r : ρ} (hb : e t = .bool b) (h : (bif b then X else Y) = some r) (h1 : b = true → X = some r → Can P ops Q kds nds sc rc n w0 l (upd e t (.bool true)) sps rs) (h2 : b = false → Y = some r → Can P ops Q kds nds sc rc n w0 l (upd e t (.bool false)) sps rs) :
    Can P ops Q kds nds sc rc n w0 l e sps rs := by
  refine can_split t hb (fun hb => h1 hb ?_) (fun hb => h2 hb ?_)
  · subst hb; exact h
  · subst hb; exact h
section
variable {t u : TypeId} {k k' : IntKind} {p q : Nat}
theorem l_sub (ho : ops[i]? = some ⟨some d, .binOp .sub t x y u, ty, pos, af, g⟩) (hw : guardOf ops g e = true) (hn : Nat.blt d n.n = true) (hk : pureK kds nds i = true) (hx : ev e x = .int k (p : Int)) (hy : ev e y = .int k (q : Int)) (hs : k.signed = false)
    (h : Can P ops Q kds nds sc rc n w0 l (upd e d (.int k ((usub k p q : Nat) : Int))) sps rs) : Can P ops Q kds nds sc rc n w0 (i :: l) e sps rs := c_sub ho hw hn hk hx hy (by rw [← wrapU_cast hs]; exact h)
theorem l_and (ho : ops[i]? = some ⟨some d, .binOp .and t x y u, ty, pos, af, g⟩) (hw : guardOf ops g e = true) (hn : Nat.blt d n.n = true) (hk : pureK kds nds i = true) (hx : ev e x = .int k (p : Int)) (hy : ev e y = .int k (q : Int)) (hs : k.signed = false)
    (h : Can P ops Q kds nds sc rc n w0 l (upd e d (.int k ((andN k.bits p q : Nat) : Int))) sps rs) : Can P ops Q kds nds sc rc n w0 (i :: l) e sps rs := c_bit ho hw hn hk hx hy (by simp) (bitAnd hs p q) h
theorem l_or (ho : ops[i]? = some ⟨some d, .binOp .or t x y u, ty, pos, af, g⟩) (hw : guardOf ops g e = true) (hn : Nat.blt d n.n = true) (hk : pureK kds nds i = true) (hx : ev e x = .int k (p : Int)) (hy : ev e y = .int k (q : Int)) (hs : k.signed = false)
    (h : Can P ops Q kds nds sc rc n w0 l (upd e d (.int k ((orN k.bits p q : Nat) : Int))) sps rs) : Can P ops Q kds nds sc rc n w0 (i :: l) e sps rs := c_bit ho hw hn hk hx hy (by simp) (bitOr hs p q) h
theorem l_xor (ho : ops[i]? = some ⟨some d, .binOp .xor t x y u, ty, pos, af, g⟩) (hw : guardOf ops g e = true) (hn : Nat.blt d n.n = true) (hk : pureK kds nds i = true) (hx : ev e x = .int k (p : Int)) (hy : ev e y = .int k (q : Int)) (hs : k.signed = false)
    (h : Can P ops Q kds nds sc rc n w0 l (upd e d (.int k ((xorN k.bits p q : Nat) : Int))) sps rs) : Can P ops Q kds nds sc rc n w0 (i :: l) e sps rs := c_bit ho hw hn hk hx hy (by simp) (bitXor hs p q) h
theorem l_compl (ho : ops[i]? = some ⟨some d, .unOp .xor t x, ty, pos, af, g⟩) (hw : guardOf ops g e = true) (hn : Nat.blt d n.n = true) (hk : pureK kds nds i = true) (hx : ev e x = .int k (p : Int)) (hs : k.signed = false)
    (h : Can P ops Q kds nds sc rc n w0 l (upd e d (.int k ((notN k.bits p : Nat) : Int))) sps rs) : Can P ops Q kds nds sc rc n w0 (i :: l) e sps rs := c_compl ho hw hn hk hx (by rw [bitNot hs]; exact h)
theorem l_shr {b : Nat} (ho : ops[i]? = some ⟨some d, .binOp .shr t x y u, ty, pos, af, g⟩) (hw : guardOf ops g e = true) (hn : Nat.blt d n.n = true) (hk : pureK kds nds i = true) (hx : ev e x = .int k (p : Int)) {m : Int} (hy : ev e y = .int k' m) (hm : m = (b : Int))
    (h : Can P ops Q kds nds sc rc n w0 l (upd e d (.int k ((p / 2 ^ min b k.bits : Nat) : Int))) sps rs) : Can P ops Q kds nds sc rc n w0 (i :: l) e sps rs := by
  subst hm
  refine c_shr ho hw hn hk hx hy (by omega) ?_
  rw [Int.toNat_natCast, fdiv_nat]; exact h
theorem l_shl {b : Nat} (ho : ops[i]? = some ⟨some d, .binOp .shl t x y u, ty, pos, af, g⟩) (hw : guardOf ops g e = true) (hn : Nat.blt d n.n = true) (hk : pureK kds nds i = true) (hx : ev e x = .int k (p : Int)) {m : Int} (hy : ev e y = .int k' m) (hm : m = (b : Int)) (hs : k.signed = false)
    (h : Can P ops Q kds nds sc rc n w0 l (upd e d (.int k ((p * 2 ^ min b k.bits % 2 ^ k.bits : Nat) : Int))) sps rs) : Can P ops Q kds nds sc rc n w0 (i :: l) e sps rs := by
  subst hm
  refine c_shl ho hw hn hk hx hy (by omega) ?_
  rw [Int.toNat_natCast, shl_nat hs]; exact h
theorem l_quo (ho : ops[i]? = some ⟨some d, .binOp .quo t x y u, ty, pos, af, g⟩) (hw : guardOf ops g e = true) (hn : Nat.blt d n.n = true) (hk : pureK kds nds i = true) (hx : ev e x = .int k (p : Int)) (hy : ev e y = .int k (q : Int)) (hs : k.signed = false) (hq : Nat.beq q 0 = false)
    (h : Can P ops Q kds nds sc rc n w0 l (upd e d (.int k ((p / q % 2 ^ k.bits : Nat) : Int))) sps rs) : Can P ops Q kds nds sc rc n w0 (i :: l) e sps rs := by
  have hq' : q ≠ 0 := Nat.ne_of_beq_eq_false hq
  refine c_quo ho hw hn hk hx hy (by omega) ?_
  rw [Int.tdiv_eq_ediv_of_nonneg (by omega), ← Int.natCast_ediv, wrap_u hs]; exact h
theorem l_rem (ho : ops[i]? = some ⟨some d, .binOp .rem t x y u, ty, pos, af, g⟩) (hw : guardOf ops g e = true) (hn : Nat.blt d n.n = true) (hk : pureK kds nds i = true) (hx : ev e x = .int k (p : Int)) (hy : ev e y = .int k (q : Int)) (hq : Nat.beq q 0 = false)
    (h : Can P ops Q kds nds sc rc n w0 l (upd e d (.int k ((p % q : Nat) : Int))) sps rs) : Can P ops Q kds nds sc rc n w0 (i :: l) e sps rs := by
  have hq' : q ≠ 0 := Nat.ne_of_beq_eq_false hq
  refine c_rem ho hw hn hk hx hy (by omega) ?_
  rw [Int.tmod_eq_emod_of_nonneg (by omega), ← Int.natCast_emod]; exact h
theorem l_lss (ho : ops[i]? = some ⟨some d, .binOp .lss t x y u, ty, pos, af, g⟩) (hw : guardOf ops g e = true) (hn : Nat.blt d n.n = true) (hk : pureK kds nds i = true) (hx : ev e x = .int k (p : Int)) (hy : ev e y = .int k (q : Int))
    (h : Can P ops Q kds nds sc rc n w0 l (upd e d (.bool (decide (p < q)))) sps rs) : Can P ops Q kds nds sc rc n w0 (i :: l) e sps rs := c_lss ho hw hn hk hx hy (by rw [show decide ((p : Int) < (q : Int)) = decide (p < q) from decide_eq_decide.2 (by omega)]; exact h)
theorem l_gtr (ho : ops[i]? = some ⟨some d, .binOp .gtr t x y u, ty, pos, af, g⟩) (hw : guardOf ops g e = true) (hn : Nat.blt d n.n = true) (hk : pureK kds nds i = true) (hx : ev e x = .int k (p : Int)) (hy : ev e y = .int k (q : Int))
    (h : Can P ops Q kds nds sc rc n w0 l (upd e d (.bool (decide (q < p)))) sps rs) : Can P ops Q kds nds sc rc n w0 (i :: l) e sps rs := c_gtr ho hw hn hk hx hy (by rw [show decide ((p : Int) > (q : Int)) = decide (q < p) from decide_eq_decide.2 (by omega)]; exact h)
theorem l_eql (ho : ops[i]? = some ⟨some d, .binOp .eql t x y u, ty, pos, af, g⟩) (hw : guardOf ops g e = true) (hn : Nat.blt d n.n = true) (hk : pureK kds nds i = true) (hx : ev e x = .int k (p : Int)) (hy : ev e y = .int k (q : Int))
    (h : Can P ops Q kds nds sc rc n w0 l (upd e d (.bool (decide (p = q)))) sps rs) : Can P ops Q kds nds sc rc n w0 (i :: l) e sps rs := c_eql ho hw hn hk hx hy (by rw [show ((p : Int) == (q : Int)) = decide (p = q) from by rw [Bool.eq_iff_iff]; simp; omega]; exact h)
theorem l_neq (ho : ops[i]? = some ⟨some d, .binOp .neq t x y u, ty, pos, af, g⟩) (hw : guardOf ops g e = true) (hn : Nat.blt d n.n = true) (hk : pureK kds nds i = true) (hx : ev e x = .int k (p : Int)) (hy : ev e y = .int k (q : Int))
    (h : Can P ops Q kds nds sc rc n w0 l (upd e d (.bool (decide (p ≠ q)))) sps rs) : Can P ops Q kds nds sc rc n w0 (i :: l) e sps rs := c_neq ho hw hn hk hx hy (by rw [show ((p : Int) != (q : Int)) = decide (p ≠ q) from by rw [Bool.eq_iff_iff]; simp; omega]; exact h)
theorem l_convU {s : TypeId} {ds : TypeDesc} {p : Int} (ho : ops[i]? = some ⟨some d, .convert s t x, ty, pos, af, g⟩) (hw : guardOf ops g e = true) (hn : Nat.blt d n.n = true) (hk : pureK kds nds i = true) (hs : P.underlying s = some ds) (ht : P.underlying t = some (.int k)) (hx : ev e x = .int k' p) (hu : k.signed = false)
    (h : Can P ops Q kds nds sc rc n w0 l (upd e d (.int k ((toU k p : Nat) : Int))) sps rs) : Can P ops Q kds nds sc rc n w0 (i :: l) e sps rs := c_conv ho hw hn hk hs ht hx (by rw [← wrapU_cast hu]; exact h)
end
/-- Signed comparisons, as propositions. -/
theorem l_eqlI {t u : TypeId} {k : IntKind} {p q : Int} (ho : ops[i]? = some ⟨some d, .binOp .eql t x y u, ty, pos, af, g⟩) (hw : guardOf ops g e = true) (hn : Nat.blt d n.n = true) (hk : pureK kds nds i = true) (hx : ev e x = .int k p) (hy : ev e y = .int k q)
    (h : Can P ops Q kds nds sc rc n w0 l (upd e d (.bool (decide (p = q)))) sps rs) : Can P ops Q kds nds sc rc n w0 (i :: l) e sps rs := c_eql ho hw hn hk hx hy (by rw [show (p == q) = decide (p = q) from by rw [Bool.eq_iff_iff]; simp]; exact h)
theorem l_neqI {t u : TypeId} {k : IntKind} {p q : Int} (ho : ops[i]? = some ⟨some d, .binOp .neq t x y u, ty, pos, af, g⟩) (hw : guardOf ops g e = true) (hn : Nat.blt d n.n = true) (hk : pureK kds nds i = true) (hx : ev e x = .int k p) (hy : ev e y = .int k q)
    (h : Can P ops Q kds nds sc rc n w0 l (upd e d (.bool (decide (p ≠ q)))) sps rs) : Can P ops Q kds nds sc rc n w0 (i :: l) e sps rs := c_neq ho hw hn hk hx hy (by rw [show (p != q) = decide (p ≠ q) from by rw [Bool.eq_iff_iff]; simp]; exact h)
section
variable {α : Type} {dr : Rep α} {xs ys : List α} {A : Option Addr} {m c : Nat} {t el : TypeId}
theorem l_len (ho : ops[i]? = some ⟨some d, .call ⟨.builtin .len, #[x], #[t]⟩, ty, pos, af, g⟩) (hw : guardOf ops g e = true) (hn : Nat.blt d n.n = true) (hk : pureK kds nds i = true) (hu : P.underlying t = some (.slice el)) (hx : ev e x = .slice A m c)
    (h : Can P ops Q kds nds sc rc n w0 l (upd e d (.int .i64 (m : Int))) sps rs) : Can P ops Q kds nds sc rc n w0 (i :: l) e sps rs := c_len ho hw hn hk hu hx h
/-- Where a row that is not empty begins. -/
theorem en_ptr (hm : Rd dr (.slice A m c) xs ∈ rs) (h0 : 0 < xs.length) : En w0 sps rs fun s r => sps = s ∧ rs = r ∧ ∃ gg off, A = some ⟨gg, off, none⟩ := fun W hs => by
  obtain ⟨A', c', hv, hc, hA, hS⟩ := hs.fact hm
  injection hv with e1 e2 e3
  subst e1
  obtain ⟨gg, off, cells, el, fz, cs, rfl, _⟩ := hS.2 (by intro e; rw [e] at h0; simp at h0)
  exact ⟨_, _, hs, rfl, rfl, gg, off, rfl⟩
theorem en_rowPtr {v : Value} {el : TypeId} (hm : Row dr el (.slice A m c) xs ∈ sps) (h0 : 0 < xs.length) : En w0 sps rs fun s r => sps = s ∧ rs = r ∧ ∃ gg, A = some ⟨gg, 0, none⟩ := fun W hs => by
  obtain ⟨hb, o, h1, h2, h3, h4⟩ := hs
  have key : ∀ (ss : List Sp) (h : Hp) (o : Blocks), Row dr el (.slice A m c) xs ∈ ss → Sps ss h o → ∃ gg, A = some ⟨gg, 0, none⟩ := by
    intro ss
    induction ss with
    | nil => intro h o hm; cases hm
    | cons s ss ih =>
      rintro h o hm ⟨o1, o2, rfl, g1, g2⟩
      rcases List.mem_cons.1 hm with rfl | hm
      · rcases g1 with ⟨hv, hx, _⟩ | ⟨gg, cap, cur, inner, hv, _⟩
        · rw [hx] at h0; simp at h0
        · injection hv with e1 e2 e3; exact ⟨gg, e1⟩
      · exact ih h o2 hm g2
  obtain ⟨gg, rfl⟩ := key _ _ _ hm h1
  exact ⟨_, _, ⟨hb, o, h1, h2, h3, h4⟩, rfl, rfl, gg, rfl⟩
/-- What an element's cells hold, in what reads. -/
theorem rd_cells {f : α → List Value} (hp : Plain dr f) {gg off : Nat} {p : Int} {y : α} {W : World} {sps : List Sp} {rs : List Fa} (hs : St w0 W sps rs) (hm : Rd dr (.slice (some ⟨gg, off, none⟩) m c) xs ∈ rs) (hy : getO xs p = some y) : W.rangeAt gg (off + p.toNat * dr.sz) (f y) := by
  obtain ⟨h1, h2, h3⟩ := getO_lt hy
  obtain ⟨A', c', hv, hc, hA, hS⟩ := hs.fact hm
  injection hv with e1 e2 e3
  subst e1
  obtain ⟨g', off', cells, el, fz, cs, heq, hg, hr, hcell⟩ := hS.2 (by intro e; rw [e] at h3; simp at h3)
  injection heq with heq
  injection heq with q1 q2
  subst q1 q2
  have hK := hr.2 p.toNat y h3
  have := hp.1 _ _ _ hK
  intro j u hu
  rw [← this, List.getElem?_take] at hu
  split at hu
  · rw [List.getElem?_drop] at hu
    have h5 := hcell _ u hu
    have hc' : W.cell? ⟨gg, off + p.toNat * dr.sz + j, none⟩ = cells[off + p.toNat * dr.sz + j]? := by
      have hg' := hg.2
      obtain ⟨f1, f2⟩ := fz
      simp [World.cell?, World.cells?, hg']
    rw [hc', Nat.add_assoc]; exact h5
  · cases hu
theorem ldR {f : α → List Value} {gg off : Nat} {p : Int} {y : α} (hk : loudK kds i = true) (hnd : nds.getD i false = false) (hp : Plain dr f) (hm : Rd dr (.slice (some ⟨gg, off, none⟩) m c) xs ∈ rs) (hy : getO xs p = some y) : ldOk P kds nds sc rc w0 i sps rs gg (off + p.toNat * dr.sz) (f y) :=
  .inl ⟨hk, hnd, fun W hs => rd_cells hp hs hm hy⟩
theorem ldRD {f : α → List Value} {gg off : Nat} {p : Int} {y : α} (hk : Nat.beq (kds.getD i 2) 1 = true) (hnd : nds.getD i false = false) (hx : Ext sc rc sps rs) (hp : Plain dr f) (hm : Rd dr (.slice (some ⟨gg, off, none⟩) m c) xs ∈ rc) (hy : getO xs p = some y) : ldOk P kds nds sc rc w0 i sps rs gg (off + p.toNat * dr.sz) (f y) :=
  .inr ⟨hnd, ⟨hk, hx⟩, fun W hs => rd_cells hp hs hm hy⟩
end
end
end Go.Proofs.YtmodmjekhlnjpaaGreatDoor
namespace Go.Proofs.YtmodmjekhlnjpaaGreatDoor
open Go.RowKit
namespace Lf
def strB (xs : List Nat) : ByteArray := strOfNums (xs.map fun (n : Nat) => (n : Int))
end Lf
open Lf
section
variable {P : Program} {ops : Array Oper} {Q : Exit → Act → World → Prop} {kds : List Nat} {nds : List Bool} {sc : List Sp} {rc : List Fa} {n : Fr} {w0 : World} {i : Nat} {l : List Nat} {e : Nat → Value} {sps : List Sp} {rs : List Fa}
  {o : Oper} {d : Nat} {ty : TypeId} {pos : String} {af : Array Edge} {g : Option (Nat × Bool)} {v : Value} {x y z : Operand} {ρ : Type}
/-- What only reads: here, or in whatever world of the region. -/
def rdOk (P : Program) (kds : List Nat) (nds : List Bool) (sc : List Sp) (rc : List Fa) (i : Nat) (sps : List Sp) (rs : List Fa) (r : Fa) : Prop :=
  (loudK kds i = true ∧ nds.getD i false = false ∧ r ∈ rs) ∨ (nds.getD i false = false ∧ (Nat.beq (kds.getD i 2) 1 = true ∧ Ext sc rc sps rs) ∧ r ∈ rc)
theorem can_rdv {r : Fa} (ho : ops[i]? = some o) (hw : guardOf ops o.guard e = true) (hd : o.dst = some d) (hn : Nat.blt d n.n = true) (hl : rdOk P kds nds sc rc i sps rs r)
    (hv : ∀ W, r.P (all W) → (execOp (ev e) o).run P W = .ok (.value v) W) (h : Can P ops Q kds nds sc rc n w0 l (upd e d v) sps rs) : Can P ops Q kds nds sc rc n w0 (i :: l) e sps rs := by
  intro a W he hs
  refine ⟨o, ho, ?_⟩
  have hwd : Region.wanted o (yielded ops a.tmps) = true := (wanted_of he ops o).trans hw
  have hrest := h (a.put o.dst v) W (by rw [hd]; exact he.put hn v) hs
  split
  · rename_i hk2
    have hr : r.P (all W) := by
      rcases hl with hl | hl
      · exact hs.fact hl.2.2
      · exact (hl.2.1.2.st hs).fact hl.2.2
    simp only [wpOp, ho, hwd, if_true, Oper.wp, he.eval, hv W hr, Oper.upon]
    refine .inl ⟨fun hnd => ?_, hrest⟩
    rcases hl with hl | hl
    · rw [hl.2.1] at hnd; cases hnd
    · rw [hl.1] at hnd; cases hnd
  · rename_i hk2
    rcases hl with hl | hl
    · exact absurd (Nat.eq_of_beq_eq_true hl.1) hk2
    · refine ⟨v, ?_, fun _ => hl.2.1.2.st hs, hrest⟩
      split
      · exact .inl ⟨hwd, fun w hw' => by rw [he.eval]; exact hv w (hw'.fact hl.2.2)⟩
      · rename_i h1
        exact absurd (Nat.eq_of_beq_eq_true hl.2.1.1) h1
theorem un_inner {k : IntKind} {hh : Hp} {xs : List Nat} {cs : List Value} (h : Reps (un k) hh xs cs) : cs = ne k xs := by
  obtain ⟨hl, hk⟩ := h
  have hl' : cs.length = xs.length := by simpa [un, Rep.scalar] using hl
  apply List.ext_getElem?
  intro j
  cases hj : xs[j]? with
  | none =>
    rw [List.getElem?_eq_none (by rw [hl']; exact List.getElem?_eq_none_iff.1 hj)]
    simp [ne, hj]
  | some x =>
    have := (hk j x hj).1
    have h0 := congrArg (fun l : List Value => l[0]?) this
    have h1 : (un k).sz = 1 := rfl
    rw [h1] at h0
    simp only [Nat.mul_one, List.getElem?_take, Nat.zero_lt_one, if_true, List.getElem?_drop, Nat.add_zero] at h0
    rw [h0]; simp [ne, hj]
theorem un_reps {k : IntKind} {hh : Hp} (xs : List Nat) : Reps (un k) hh xs (ne k xs) := by
  refine ⟨by simp [ne, un, Rep.scalar], fun j x hx => ?_⟩
  refine ⟨?_, trivial⟩
  have : (ne k xs)[j]? = some (.int k (x : Int)) := by simp [ne, hx]
  simp only [un, Rep.scalar, Nat.mul_one]
  apply List.ext_getElem?
  intro i
  rw [List.getElem?_take]
  cases i with
  | zero => simpa using this
  | succ i => simp
theorem run_str {t t' el : TypeId} {v : Value} {xs : List Nat} (W : World) (ht : P.underlying t = some (.slice el)) (he : P.underlying el = some (.int .u8)) (ht' : P.underlying t' = some .string) (h : SV (un .u8) (all W) v xs) : (convert t t' v).run P W = .ok (.string (strB xs)) W := by
  obtain ⟨A, c, rfl, h1, h2, h3⟩ := h
  by_cases hx : xs = []
  · subst hx
    cases A with
    | none => exact run_convert_bytes_nil W t el ht he _ _ t' ht'
    | some ad =>
      rw [run_convert_bytes_string W t t' el _ _ c ht he ht']
      simp [Conv.bytesToString, loadCells, loadCellsFrom, strB, strOfNums]
      rfl
  · obtain ⟨gg, off, cells, e', fz, cs, rfl, hg, hr, hcell⟩ := h3.2 hx
    obtain rfl := un_inner hr
    refine run_convert_bytes_arg W t el ht he gg off _ c _ (by simp) (fun i hi => ?_) t' ht'
    have h5 := hcell i (.int .u8 ((xs.map fun (n : Nat) => (n : Int)).getD i 0)) (by simp [ne, List.getD_eq_getElem?_getD, hi])
    have hg' := hg.2
    obtain ⟨f1, f2⟩ := fz
    simp [World.cell?, World.cells?, hg', h5]
theorem l_str {t t' el : TypeId} {xs : List Nat} (ho : ops[i]? = some ⟨some d, .convert t t' x, ty, pos, af, g⟩) (hw : guardOf ops g e = true) (hn : Nat.blt d n.n = true) (hx : ev e x = v) (ht : P.underlying t = some (.slice el)) (he : P.underlying el = some (.int .u8)) (ht' : P.underlying t' = some .string)
    (hl : rdOk P kds nds sc rc i sps rs (Rd (un .u8) v xs)) (h : Can P ops Q kds nds sc rc n w0 l (upd e d (.string (strB xs))) sps rs) : Can P ops Q kds nds sc rc n w0 (i :: l) e sps rs :=
  can_rdv ho hw rfl hn hl (fun W hr => by simp only [execOp, hx, Sem.run_bind, run_str W ht he ht' hr]; rfl) h
theorem kR_i {ρ σ : Type} {a : ρ} {f : σ → Option ρ} {r : ρ} (h : kR (.inl a) id f = some r) : some a = some r := h
/-- What stands in a row's value is its length. -/
theorem en_len {α : Type} {dr : Rep α} {xs : List α} {A : Option Addr} {m c : Nat} (hm : Rd dr (.slice A m c) xs ∈ rs) : En w0 sps rs fun s r => sps = s ∧ rs = r ∧ xs.length = m := fun W hs => by
  obtain ⟨A', c', hv, _⟩ := hs.fact hm
  injection hv with e1 e2 e3
  exact ⟨_, _, hs, rfl, rfl, e2.symm⟩
theorem en_rowLen {α : Type} {dr : Rep α} {xs : List α} {A : Option Addr} {m c : Nat} {el : TypeId} (hm : Row dr el (.slice A m c) xs ∈ sps) : En w0 sps rs fun s r => sps = s ∧ rs = r ∧ xs.length = m := fun W hs => by
  obtain ⟨s, r, h1, rfl, rfl, A', c', hv, _⟩ := en_rowShape (w0 := w0) (rs := rs) hm W hs
  injection hv with e1 e2 e3
  exact ⟨_, _, h1, rfl, rfl, e2.symm⟩
/-- What an element's cells hold, in an own row. -/
theorem row_cells {α : Type} {dr : Rep α} {f : α → List Value} {xs : List α} {el : TypeId} (hp : Plain dr f) {gg m c : Nat} {p : Int} {y : α} {W : World} {sps : List Sp} {rs : List Fa} (hs : St w0 W sps rs) (hm : Row dr el (.slice (some ⟨gg, 0, none⟩) m c) xs ∈ sps) (hy : getO xs p = some y) : W.rangeAt gg (0 + p.toNat * dr.sz) (f y) := by
  obtain ⟨h1, h2, h3⟩ := getO_lt hy
  obtain ⟨hb, o, hS, g2, g3, g4⟩ := hs
  have key : ∀ (ss : List Sp) (h : Hp) (o : Blocks), Row dr el (.slice (some ⟨gg, 0, none⟩) m c) xs ∈ ss → Sps ss h o → ∃ cap cur inner, (gg, Obj.cells cur el (0, 0)) ∈ o ∧ Reps dr h xs inner ∧ xs.length ≤ cap ∧ cur.toList.take (xs.length * dr.sz) = inner := by
    intro ss
    induction ss with
    | nil => intro h o hm; cases hm
    | cons s ss ih =>
      rintro h o hm ⟨o1, o2, rfl, q1, q2⟩
      rcases List.mem_cons.1 hm with rfl | hm
      · rcases q1 with ⟨hv, _⟩ | ⟨g', cap, cur, inner, hv, rfl, hr, k1, k2, k3, k4⟩
        · cases hv
        · injection hv with e1 e2 e3
          injection e1 with e1
          injection e1 with e1
          subst e1
          exact ⟨cap, cur, inner, by simp, hr, k1, k4⟩
      · obtain ⟨cap, cur, inner, k1, k2⟩ := ih h o2 hm q2
        exact ⟨cap, cur, inner, List.mem_append_right _ k1, k2⟩
  obtain ⟨cap, cur, inner, k1, k2, k3, k4⟩ := key _ _ _ hm hS
  have hblk := (g2 _ k1).1
  have hK := hp.1 _ _ _ (k2.2 p.toNat y h3)
  intro j u hu
  rw [← hK, List.getElem?_take] at hu
  split at hu
  · rw [List.getElem?_drop, ← k4, List.getElem?_take] at hu
    split at hu
    · rw [cell_of_row W gg _ _ el _ hblk, Nat.zero_add, ← Array.getElem?_toList]; exact hu
    · cases hu
  · cases hu
theorem ldW {α : Type} {dr : Rep α} {f : α → List Value} {xs : List α} {el : TypeId} {gg m c : Nat} {p : Int} {y : α} (hk : loudK kds i = true) (hnd : nds.getD i false = false) (hp : Plain dr f) (hm : Row dr el (.slice (some ⟨gg, 0, none⟩) m c) xs ∈ sps) (hy : getO xs p = some y) : ldOk P kds nds sc rc w0 i sps rs gg (0 + p.toNat * dr.sz) (f y) :=
  .inl ⟨hk, hnd, fun W hs => row_cells hp hs hm hy⟩
theorem ldWD {α : Type} {dr : Rep α} {f : α → List Value} {xs : List α} {el : TypeId} {gg m c : Nat} {p : Int} {y : α} (hk : Nat.beq (kds.getD i 2) 1 = true) (hnd : nds.getD i false = false) (hx : Ext sc rc sps rs) (hp : Plain dr f) (hm : Row dr el (.slice (some ⟨gg, 0, none⟩) m c) xs ∈ sc) (hy : getO xs p = some y) : ldOk P kds nds sc rc w0 i sps rs gg (0 + p.toNat * dr.sz) (f y) :=
  .inr ⟨hnd, ⟨hk, hx⟩, fun W hs => row_cells hp hs hm hy⟩
/-- A literal, as an own row. -/
theorem en_litRow {α : Type} {dr : Rep α} {xs : List α} {t : TypeId} {gg m : Nat} {bs : List Value} {sps' : List Sp} (hr : Rem (Bk gg bs t) sps sps') (hk : ∀ hh : Hp, (∀ r ∈ rs, r.P hh) → Reps dr hh xs bs) (hl : Nat.beq xs.length m = true) (hm : Nat.ble m 9223372036854775807 = true) :
    En w0 sps rs fun s r => Row dr t (.slice (some ⟨gg, 0, none⟩) m m) xs :: sps' = s ∧ rs = r := fun W hs =>
  ⟨_, _, (hs.perm hr.perm).asRow hk m (Nat.eq_of_beq_eq_true hl) (Nat.le_of_ble_eq_true hm), rfl, rfl⟩
section
variable {α : Type} {dr : Rep α} {xs ys zs : List α} {A : Option Addr} {m c : Nat} {t el : TypeId}
theorem l_slice {p q : Int} {ol oh : Option Operand} {vl vh : Option Value} {k k' : IntKind} (ho : ops[i]? = some ⟨some d, .slice t x ol oh none, ty, pos, af, g⟩) (hw : guardOf ops g e = true) (hn : Nat.blt d n.n = true) (hk : pureK kds nds i = true) (hu : P.underlying t = some (.slice el)) (hS : ∀ w, (sizeOf el).run P w = .ok dr.sz w)
    (hx : ev e x = .slice A m c) (hm : Rd dr (.slice A m c) xs ∈ rs) (hvl : ol.map (ev e) = vl) (hvh : oh.map (ev e) = vh) (hl : (vl = none ∧ p = 0) ∨ vl = some (.int k p)) (hh : (vh = none ∧ q = m) ∨ vh = some (.int k' q)) (hy : subO xs p q = some ys)
    (h : ∀ A' c', Can P ops Q kds nds sc rc n w0 l (upd e d (.slice A' ys.length c')) sps (Rd dr (.slice A' ys.length c') ys :: rs)) : Can P ops Q kds nds sc rc n w0 (i :: l) e sps rs := by
  obtain ⟨h1, h2, h3, rfl⟩ := subO_eq hy
  obtain ⟨lo, rfl⟩ := Int.eq_ofNat_of_zero_le h1
  obtain ⟨hi, rfl⟩ := Int.eq_ofNat_of_zero_le (Int.le_trans h1 h2)
  simp only [Int.toNat_natCast] at h ⊢
  refine c_slice (k := k) (k' := k') (lo := lo) (hi := hi) ho hw hn hk hu hS hx hm hvl hvh ?_ ?_ (by omega) (by omega) fun A' => ?_
  · rcases hl with ⟨h4, h5⟩ | h4
    · exact .inl ⟨h4, by omega⟩
    · exact .inr h4
  · rcases hh with ⟨h4, h5⟩ | h4
    · exact .inl ⟨h4, by omega⟩
    · exact .inr h4
  · have e1 : hi - lo = ((xs.take hi).drop lo).length := by simp; omega
    rw [e1]; exact h _ _
theorem l_append {bytes : Nat} {yv : Value} {pre post : List Sp} (ho : ops[i]? = some ⟨some d, .call ⟨.builtin .append, #[x, y], #[t, t]⟩, ty, pos, af, g⟩) (hw : guardOf ops g e = true) (hn : Nat.blt d n.n = true) (hk : loudK kds i = true)
    (hT : STy P t el dr.sz bytes) (hbt : Nat.ble bytes 128 = true) (hx : ev e x = v) (hy : ev e y = yv) (hf : Foc (Row dr el v xs) sps pre post) (hm : Rd dr yv ys ∈ rs) (hz : appO xs ys = some zs) (hxt : ∀ v', nds.getD i false = false ∨ Ext sc rc (pre ++ Row dr el v' zs :: post) rs)
    (h : ∀ v', Can P ops Q kds nds sc rc n w0 l (upd e d v') (pre ++ Row dr el v' zs :: post) rs) : Can P ops Q kds nds sc rc n w0 (i :: l) e sps rs := by
  obtain ⟨h1, rfl⟩ := appO_eq hz
  have hb := Nat.le_of_ble_eq_true hbt
  exact c_append ho hw hn hk hT hx hy hf hm (Nat.le_trans (Nat.mul_le_mul h1 hb) (by decide)) hxt h
theorem l_append1 {bytes gg : Nat} {bs : List Value} {el' : TypeId} {sps1 pre post : List Sp} (ho : ops[i]? = some ⟨some d, .call ⟨.builtin .append, #[x, y], #[t, t]⟩, ty, pos, af, g⟩) (hw : guardOf ops g e = true) (hn : Nat.blt d n.n = true) (hk : loudK kds i = true)
    (hT : STy P t el dr.sz bytes) (hbt : Nat.ble bytes 128 = true) (hx : ev e x = v) (hy : ev e y = .slice (some ⟨gg, 0, none⟩) m m) (hr : Rem (Bk gg bs el') sps sps1) (hf : Foc (Row dr el v xs) sps1 pre post) (hm : ys.length = m) (hks : ∀ hh : Hp, (∀ r ∈ rs, r.P hh) → Reps dr hh ys bs) (hz : appO xs ys = some zs) (hxt : ∀ v', nds.getD i false = false ∨ Ext sc rc (pre ++ Row dr el v' zs :: post) rs)
    (h : ∀ v', Can P ops Q kds nds sc rc n w0 l (upd e d v') (pre ++ Row dr el v' zs :: post) rs) : Can P ops Q kds nds sc rc n w0 (i :: l) e sps rs := by
  obtain ⟨h1, rfl⟩ := appO_eq hz
  have hb := Nat.le_of_ble_eq_true hbt
  subst hm
  exact c_append1 ho hw hn hk hT hx hy hr hf rfl hks (Nat.le_trans (Nat.mul_le_mul h1 hb) (by decide)) hxt h
/-- A store to an own row. -/
theorem rowSet {hh : Hp} {inner cs : List Value} {p : Nat} {z : α} (hr : Reps dr hh xs inner) (hp : p < xs.length) (hK : dr.K hh z cs) : Reps dr hh (xs.set p z) (spl inner (p * dr.sz) cs) := by
  have hc := dr.len hK
  have hin := hr.1
  have hb : p * dr.sz + dr.sz ≤ inner.length := by rw [hin, ← Nat.succ_mul]; exact Nat.mul_le_mul_right _ hp
  refine ⟨by rw [List.length_set, ← hin]; simp only [spl, List.length_append, List.length_take, List.length_drop, hc]; omega, fun j y hj => ?_⟩
  rw [List.getElem?_set] at hj
  have hsl : ∀ a, (spl inner (p * dr.sz) cs)[a]? = if p * dr.sz ≤ a ∧ a < p * dr.sz + dr.sz then cs[a - p * dr.sz]? else inner[a]? := by
    intro a
    simp only [spl, List.getElem?_append, List.length_take, List.length_append, List.getElem?_take, List.getElem?_drop, hc]
    by_cases h1 : a < p * dr.sz
    · simp only [show a < min (p * dr.sz) inner.length + dr.sz by omega, if_true, show a < min (p * dr.sz) inner.length by omega, h1, if_neg (show ¬ (p * dr.sz ≤ a ∧ a < p * dr.sz + dr.sz) by omega)]
    · by_cases h2 : a < p * dr.sz + dr.sz
      · simp only [show a < min (p * dr.sz) inner.length + dr.sz by omega, if_true, show ¬ a < min (p * dr.sz) inner.length by omega, if_false, if_pos (show p * dr.sz ≤ a ∧ a < p * dr.sz + dr.sz by omega), show a - min (p * dr.sz) inner.length = a - p * dr.sz by omega]
      · simp only [show ¬ a < min (p * dr.sz) inner.length + dr.sz by omega, if_false, if_neg (show ¬ (p * dr.sz ≤ a ∧ a < p * dr.sz + dr.sz) by omega)]
        congr 1; omega
  by_cases hjp : p = j
  · subst hjp
    rw [if_pos rfl, if_pos hp] at hj
    cases hj
    have : ((spl inner (p * dr.sz) cs).drop (p * dr.sz)).take dr.sz = cs := by
      apply List.ext_getElem?
      intro a
      rw [List.getElem?_take]
      split
      · rw [List.getElem?_drop, hsl, if_pos (by omega)]
        congr 1; omega
      · rw [List.getElem?_eq_none (by omega)]
    rw [this]; exact hK
  · rw [if_neg hjp] at hj
    have h2 := hr.2 j y hj
    have : ((spl inner (p * dr.sz) cs).drop (j * dr.sz)).take dr.sz = (inner.drop (j * dr.sz)).take dr.sz := by
      apply List.ext_getElem?
      intro a
      rw [List.getElem?_take, List.getElem?_take]
      split
      · rename_i ha
        rw [List.getElem?_drop, List.getElem?_drop, hsl, if_neg]
        rintro ⟨h3, h4⟩
        rcases Nat.lt_or_gt_of_ne hjp with h5 | h5
        · have : (p + 1) * dr.sz ≤ j * dr.sz := Nat.mul_le_mul_right _ h5
          rw [Nat.succ_mul] at this; omega
        · have : (j + 1) * dr.sz ≤ p * dr.sz := Nat.mul_le_mul_right _ h5
          rw [Nat.succ_mul] at this; omega
      · rfl
    rw [this]; exact h2
theorem l_store {gg off : Nat} {p : Int} {cs : List Value} {zx : α} {pre post : List Sp} {t' : TypeId} (ho : ops[i]? = some ⟨none, .store t' x y, ty, pos, af, g⟩) (hw : guardOf ops g e = true) (hk : loudK kds i = true) (hS : ∀ w, (sizeOf t').run P w = .ok dr.sz w) (hx : ev e x = .pointer (some ⟨gg, off, none⟩)) (hoff : off = p.toNat * dr.sz) (hy : (ev e y).cells = cs.toArray)
    (hf : Foc (Row dr el (.slice (some ⟨gg, 0, none⟩) m c) xs) sps pre post) (hK : ∀ hh : Hp, (∀ r ∈ rs, r.P hh) → dr.K hh zx cs) (hz : setO xs p zx = some zs) (hxt : nds.getD i false = false ∨ Ext sc rc (pre ++ Row dr el (.slice (some ⟨gg, 0, none⟩) m c) zs :: post) rs)
    (h : Can P ops Q kds nds sc rc n w0 l e (pre ++ Row dr el (.slice (some ⟨gg, 0, none⟩) m c) zs :: post) rs) : Can P ops Q kds nds sc rc n w0 (i :: l) e sps rs := by
  obtain ⟨h1, h2, rfl⟩ := setO_eq hz
  obtain rfl := hf.eq
  subst hoff
  refine can_act0 (R := fun s r => s = pre ++ Row dr el (.slice (some ⟨gg, 0, none⟩) m c) (xs.set p.toNat zx) :: post ∧ r = rs) ho hw rfl hk (fun W hs => ?_) (by rintro s r ⟨rfl, rfl⟩; exact hxt) (by rintro s r ⟨rfl, rfl⟩; exact h)
  have hs' := hs.perm (List.perm_middle (l₁ := pre))
  obtain ⟨hb, o, ⟨o1, o2, rfl, g0, g1⟩, g2, g3, g4⟩ := hs'
  have hKK := hK _ g4
  have hcl := dr.len hKK
  rcases g0 with ⟨hv, hx0, _⟩ | ⟨g', cap, cur, inner, hv, rfl, hr, k1, k2, k3, k4⟩
  · cases hv
  · injection hv with e1 e2 e3
    injection e1 with e1
    injection e1 with e1
    subst e1
    have hblk : W.heap[gg]? = some (.cells cur el (0, 0)) := (g2 _ List.mem_cons_self).1
    have hle : p.toNat * dr.sz + cs.length ≤ cur.size := by
      rw [hcl, k3, ← Nat.succ_mul]
      exact Nat.mul_le_mul_right _ (by omega)
    have hst := run_storeCells_at P gg (p.toNat * dr.sz) el cs 0 cur W hblk (by simpa using hle) (fun u hu => dr.one hKK u hu)
    simp only [Nat.add_zero] at hst
    have hcz : cs.toArray.size = dr.sz := by simpa using hcl
    refine ⟨W.setRow gg (spl cur.toList (p.toNat * dr.sz) cs).toArray, _, _, ?_, ?_, rfl, rfl⟩
    · simp only [execOp, Instr.storeAt, hx, hy, Instr.sureAddr, Sem.run_bind, Sem.run_pure, Result.andThen_ok, storeVar, hS, hcz, ne_eq, not_true_eq_false, if_false, hst, spl]
    · refine St.perm ?_ (List.perm_middle (l₁ := pre)).symm
      let s1 : Sp := ⟨fun h o => o = [(gg, .cells cur el (0, 0))] ∧ Reps dr h xs inner ∧ dr.K h zx cs, fun hh h => ⟨h.1, h.2.1.mono hh, dr.mono hh h.2.2⟩⟩
      have hst0 : St w0 W (s1 :: (pre ++ post)) rs := ⟨hb, _, ⟨_, o2, rfl, ⟨rfl, hr, hKK⟩, g1⟩, g2, g3, g4⟩
      have hbase : w0.heap.size ≤ gg := (g2 _ List.mem_cons_self).2
      have hlt := lt_heap hblk
      have hset : ∀ k, k ≠ gg → (W.setRow gg (spl cur.toList (p.toNat * dr.sz) cs).toArray).heap[k]? = W.heap[k]? := fun k hk => by
        simp only [World.setRow, Array.getElem?_modify]
        rw [if_neg (fun e => hk e.symm)]
      refine hst0.turn (g := gg) (ob := .cells cur el (0, 0)) (ob' := .cells (spl cur.toList (p.toNat * dr.sz) cs).toArray el (0, 0)) (fun _ _ h => h.1) (fun hh h => .inr ⟨gg, cap, _, spl inner (p.toNat * dr.sz) cs, ?_, rfl, rowSet h.2.1 (by omega) h.2.2, ?_, k2, ?_, ?_⟩) ?_ ?_ ?_
      · rw [List.length_set, e2, e3]
      · rw [List.length_set]; exact k1
      · simp only [spl, List.size_toArray, List.length_append, List.length_take, List.length_drop, Array.length_toList]; omega
      · have hil : inner.length = xs.length * dr.sz := hr.1
        have h5 : p.toNat * dr.sz + dr.sz ≤ xs.length * dr.sz := by rw [← Nat.succ_mul]; exact Nat.mul_le_mul_right _ (by omega)
        rw [List.length_set, ← k4, List.toList_toArray]
        simp only [spl, hcl]
        apply List.ext_getElem?
        intro a
        simp only [List.getElem?_take, List.getElem?_append, List.length_take, List.length_append, List.getElem?_drop, hcl, Array.length_toList]
        by_cases q0 : a < xs.length * dr.sz
        · simp only [q0, if_true]
          by_cases q1 : a < p.toNat * dr.sz
          · simp only [q1, if_true, show a < min (p.toNat * dr.sz) cur.size + dr.sz by omega, show a < min (p.toNat * dr.sz) cur.size by omega, show a < min (p.toNat * dr.sz) (min (xs.length * dr.sz) cur.size) + dr.sz by omega, show a < min (p.toNat * dr.sz) (min (xs.length * dr.sz) cur.size) by omega]
          · by_cases q2 : a < p.toNat * dr.sz + dr.sz
            · simp only [show a < min (p.toNat * dr.sz) cur.size + dr.sz by omega, show ¬ a < min (p.toNat * dr.sz) cur.size by omega, if_true, if_false, show a < min (p.toNat * dr.sz) (min (xs.length * dr.sz) cur.size) + dr.sz by omega, show ¬ a < min (p.toNat * dr.sz) (min (xs.length * dr.sz) cur.size) by omega]
              congr 1; omega
            · simp only [show ¬ a < min (p.toNat * dr.sz) cur.size + dr.sz by omega, if_false, show ¬ a < min (p.toNat * dr.sz) (min (xs.length * dr.sz) cur.size) + dr.sz by omega]
              rw [if_pos (by omega)]
              congr 1; omega
        · rw [if_neg q0]
          symm
          rw [if_neg (by omega), if_neg (by omega)]
      · exact ⟨rfl, rfl, rfl, by simp, fun k hk => hset k (by omega)⟩
      · simp only [World.setRow, Array.getElem?_modify, if_true, hblk, Option.map_some]
      · intro k b hne hk; rw [hset k hne]; exact hk
end
end
end Go.Proofs.YtmodmjekhlnjpaaGreatDoor
namespace Go.Proofs.YtmodmjekhlnjpaaGreatDoor
open Go.RowKit Lf
theorem Lf.prod2 {α β : Type} {a c : α} {b d : β} (h : (a, b) = (c, d)) : a = c ∧ b = d := by cases h; exact ⟨rfl, rfl⟩
theorem rd_elem {α : Type} {dr : Rep α} {hh : Hp} {gg off m c : Nat} {p : Int} {xs : List α} {y : α} (h : (Rd dr (.slice (some ⟨gg, off, none⟩) m c) xs).P hh) (hy : getO xs p = some y) : ∃ cs, (Cl gg (off + p.toNat * dr.sz) cs).P hh ∧ dr.K hh y cs := by
  obtain ⟨h1, h2, h3⟩ := getO_lt hy
  obtain ⟨A', c', hv, hc, hA, hS⟩ := h
  injection hv with e1 e2 e3
  subst e1
  obtain ⟨g', off', cells, el, fz, cs, heq, hg, hr, hcell⟩ := hS.2 (by intro e; rw [e] at h3; simp at h3)
  injection heq with heq
  injection heq with q1 q2
  subst q1 q2
  refine ⟨_, ⟨cells, el, fz, hg, fun k u hu => ?_⟩, hr.2 _ _ h3⟩
  rw [List.getElem?_take] at hu
  split at hu
  · rw [List.getElem?_drop] at hu
    rw [Nat.add_assoc]; exact hcell _ u hu
  · cases hu
/-- A value, whatever stands in it. -/
inductive GNode where
  | mk (kind : Int) (num : Nat) (bytes : List Nat) (list : List GNode)
namespace GNode
def kind : GNode → Int | mk k _ _ _ => k
def num : GNode → Nat | mk _ n _ _ => n
def bytes : GNode → List Nat | mk _ _ b _ => b
def list : GNode → List GNode | mk _ _ _ l => l
end GNode
def gR (dr : Rep GNode) : Rep GNode where
  sz := 4
  K := fun h x cs => ∃ a b, cs = [.int .i64 x.kind, .int .u64 (x.num : Int), a, b] ∧ SV (un .u8) h a x.bytes ∧ SV dr h b x.list
  len := by rintro h x cs ⟨a, b, rfl, _⟩; rfl
  one := by
    rintro h x cs ⟨a, b, rfl, ⟨A, c, rfl, _⟩, ⟨B, c', rfl, _⟩⟩ u hu
    simp only [List.mem_cons, List.not_mem_nil, or_false] at hu
    rcases hu with rfl | rfl | rfl | rfl <;> rfl
  mono := by rintro h h' x cs hh ⟨a, b, e, h1, h2⟩; exact ⟨a, b, e, h1.mono hh, h2.mono hh⟩
def gR0 : Rep GNode where
  sz := 4
  K := fun _ _ _ => False
  len := fun h => h.elim
  one := fun h => h.elim
  mono := fun _ h => h
def gD : Nat → Rep GNode
  | 0 => gR0
  | d + 1 => gR (gD d)
theorem gD_sz (d : Nat) : (gD d).sz = 4 := by cases d <;> rfl
/-- What reads by one rep reads by another one that says less. -/
theorem SV.weak {α : Type} {d d' : Rep α} {h : Hp} {v : Value} {xs : List α} (hs : d.sz = d'.sz) (hk : ∀ x ∈ xs, ∀ cs, d.K h x cs → d'.K h x cs) (s : SV d h v xs) : SV d' h v xs := by
  obtain ⟨A, c, h1, h2, h3, h4, h5⟩ := s
  refine ⟨A, c, h1, h2, h3, h4, fun hx => ?_⟩
  obtain ⟨g, off, cells, e, fz, cs, q1, q2, q3, q4⟩ := h5 hx
  refine ⟨g, off, cells, e, fz, cs, q1, q2, ⟨by rw [q3.1, hs], fun j x hj => ?_⟩, q4⟩
  rw [← hs]
  exact hk x (List.mem_of_getElem? hj) _ (q3.2 j x hj)
theorem gD_succ (h : Hp) : ∀ (d : Nat) (x : GNode) (cs : List Value), (gD d).K h x cs → (gD (d + 1)).K h x cs
  | 0, _, _, hk => hk.elim
  | d + 1, x, cs, ⟨a, b, e, h1, h2⟩ => ⟨a, b, e, h1, h2.weak (by rw [gD_sz]; rfl) fun y _ cs hk => gD_succ h d y cs hk⟩
theorem gD_le (h : Hp) {d d' : Nat} (hd : d ≤ d') (x : GNode) (cs : List Value) (hk : (gD d).K h x cs) : (gD d').K h x cs := by
  induction hd with
  | refl => exact hk
  | step _ ih => exact gD_succ h _ x cs ih
def gN : Rep GNode where
  sz := 4
  K := fun h x cs => ∃ d, (gD d).K h x cs
  len := by rintro h x cs ⟨d, hk⟩; exact ((gD d).len hk).trans (gD_sz d)
  one := by rintro h x cs ⟨d, hk⟩; exact (gD d).one hk
  mono := by rintro h h' x cs hh ⟨d, hk⟩; exact ⟨d, (gD d).mono hh hk⟩
theorem gN_join {h : Hp} {v : Value} {xs : List GNode} (s : SV gN h v xs) : ∃ d, SV (gD d) h v xs := by
  obtain ⟨A, c, h1, h2, h3, h4, h5⟩ := s
  by_cases hx : xs = []
  · subst hx; exact ⟨0, A, c, h1, h2, h3, h4, fun h => absurd rfl h⟩
  · obtain ⟨g, off, cells, e, fz, cs, q1, q2, q3, q4⟩ := h5 hx
    have key : ∀ (n : Nat), ∃ d, ∀ j x, j < n → xs[j]? = some x → (gD d).K h x ((cs.drop (j * 4)).take 4) := by
      intro n
      induction n with
      | zero => exact ⟨0, fun j x hj => by omega⟩
      | succ n ih =>
        obtain ⟨d, hd⟩ := ih
        cases hn : xs[n]? with
        | none =>
          refine ⟨d, fun j x hj hx => ?_⟩
          rcases Nat.lt_or_ge j n with hjn | hjn
          · exact hd j x hjn hx
          · obtain rfl : j = n := by omega
            rw [hn] at hx; cases hx
        | some y =>
          obtain ⟨d', hd'⟩ := q3.2 n y hn
          refine ⟨max d d', fun j x hj hx => ?_⟩
          rcases Nat.lt_or_ge j n with hjn | hjn
          · exact gD_le h (Nat.le_max_left _ _) _ _ (hd j x hjn hx)
          · obtain rfl : j = n := by omega
            rw [hn] at hx; cases hx
            exact gD_le h (Nat.le_max_right _ _) _ _ hd'
    obtain ⟨d, hd⟩ := key xs.length
    refine ⟨d, A, c, h1, h2, h3, h4, fun _ => ⟨g, off, cells, e, fz, cs, q1, q2, ⟨?_, fun j x hj => ?_⟩, q4⟩⟩
    · rw [gD_sz]; exact q3.1
    · rw [gD_sz]; exact hd j x (List.getElem?_eq_some_iff.1 hj).1 hj
theorem gN_iff {h : Hp} {x : GNode} {cs : List Value} : gN.K h x cs ↔ ∃ a b, cs = [.int .i64 x.kind, .int .u64 (x.num : Int), a, b] ∧ SV (un .u8) h a x.bytes ∧ SV gN h b x.list := by
  constructor
  · rintro ⟨d, hk⟩
    cases d with
    | zero => exact hk.elim
    | succ d =>
      obtain ⟨a, b, e, h1, h2⟩ := hk
      exact ⟨a, b, e, h1, h2.weak (gD_sz d) fun y _ cs hk => ⟨d, hk⟩⟩
  · rintro ⟨a, b, e, h1, h2⟩
    obtain ⟨d, h3⟩ := gN_join h2
    exact ⟨d + 1, a, b, e, h1, h3⟩
theorem gN_mk {h : Hp} {k : Int} {n : Nat} {bs : List Nat} {l : List GNode} {a b : Value} (h1 : SV (un .u8) h a bs) (h2 : SV gN h b l) : gN.K h (GNode.mk k n bs l) [.int .i64 k, .int .u64 (n : Int), a, b] := gN_iff.2 ⟨a, b, rfl, h1, h2⟩
namespace Lf
end Lf
end Go.Proofs.YtmodmjekhlnjpaaGreatDoor
namespace Go.Proofs.YtmodmjekhlnjpaaGreatDoor
open Go.RowKit Lf

/-- What is trodden of a type reads as d. -/
def Opn {α : Type} (P : Program) (W : World) (t : TypeId) (d : Rep α) (φ : α → Prop) : Prop :=
  d.sz = P.cellsOf t ∧ ∀ {H : Type} (enc : TypeId × Value → H) (held : Bool) (fuel : Nat) (cs : List Value) (x : DataW H × List MemPlace),
    DataW.trod enc P W 0 (fun _ => true) held fuel t cs = some x → (∀ n ∈ x.1.weights P t, n ≤ 140737488355328) → ∃ y, d.K (all W) y cs ∧ φ y

theorem list_of {α : Type} {Q : Nat → α → Prop} : ∀ (n : Nat), (∀ i, i < n → ∃ y, Q i y) → ∃ ys : List α, ys.length = n ∧ ∀ i y, ys[i]? = some y → Q i y
  | 0, _ => ⟨[], rfl, fun i y h => by simp at h⟩
  | n + 1, h => by
    obtain ⟨ys, h1, h2⟩ := list_of n fun i hi => h i (by omega)
    obtain ⟨y, hy⟩ := h n (by omega)
    refine ⟨ys ++ [y], by simp [h1], fun i z hz => ?_⟩
    rcases Nat.lt_or_ge i n with hi | hi
    · exact h2 i z (by rw [← hz, List.getElem?_append_left (by omega)])
    · rw [List.getElem?_append_right (by omega), h1] at hz
      obtain rfl : i = n := by
        have := (List.getElem?_eq_some_iff.1 hz).1
        simp at this; omega
      simp at hz; subst hz; exact hy
theorem weights_all_mem {H : Type} {P : Program} {e : TypeId} : ∀ {l : List (DataW H)} {d : DataW H}, d ∈ l → ∀ n ∈ d.weights P e, n ∈ DataW.weightsAll P e l
  | y :: l, d, hd, n, hn => by
    simp only [DataW.weightsAll, List.mem_append]
    rcases List.mem_cons.1 hd with rfl | hd
    · exact .inl hn
    · exact .inr (weights_all_mem hd n hn)
section
variable {P : Program} {W : World} {t e : TypeId}
theorem opn_un (k : IntKind) (ht : P.underlying t = some (.int k)) (hc : P.cellsOf t = 1) (hs : k.signed = false) : Opn P W t (un k) fun n => n < 2 ^ k.bits := by
  refine ⟨hc.symm, fun enc held fuel cs x h _ => ?_⟩
  obtain ⟨n, rfl, -, hw⟩ := DataW.trod_int ht h
  refine ⟨n.toNat, ⟨?_, trivial⟩, ?_⟩
  · have : 0 ≤ n := by
      cases k <;> simp [IntKind.signed] at hs <;> simp [Lit.wf, IntKind.min, IntKind.max, IntKind.bits, IntKind.signed] at hw <;> omega
    show [Value.int k n] = [Value.int k ((n.toNat : Nat) : Int)]
    rw [Int.toNat_of_nonneg this]
  · cases k <;> simp [IntKind.signed] at hs <;> simp [Lit.wf, IntKind.min, IntKind.max, IntKind.bits, IntKind.signed] at hw <;> simp [IntKind.bits] <;> omega
theorem opn_sn (k : IntKind) (ht : P.underlying t = some (.int k)) (hc : P.cellsOf t = 1) : Opn P W t (sn k) fun n => (Lit.int k n).wf = true := by
  refine ⟨hc.symm, fun enc held fuel cs x h _ => ?_⟩
  obtain ⟨n, rfl, -, hw⟩ := DataW.trod_int ht h
  exact ⟨n, ⟨rfl, trivial⟩, hw⟩
theorem cell_block {a : Addr} {w : World} {u : Value} (h : w.cell? a = some u) : ∃ c t fr, w.heap[a.block]? = some (.cells c t fr) ∧ a.spot = none ∧ c[a.off]? = some u := by
  unfold World.cell? at h
  split at h
  · rename_i c t fr hq
    split at h
    · cases h
    · rename_i hs
      refine ⟨c, t, fr, hq, by simpa using hs, h⟩
  · cases h
theorem add_block (a : Addr) (n : Nat) : (a.add n).block = a.block := by unfold Addr.add; split <;> rfl
theorem add_off (a : Addr) (n : Nat) : (a.add n).off = a.off + n := by
  unfold Addr.add; split
  · rename_i h; rw [h]; rfl
  · rfl
theorem add_zero (a : Addr) : a.add 0 = a := by unfold Addr.add; simp
theorem opn_slice {α : Type} {d : Rep α} {φ : α → Prop} (ht : P.underlying t = some (.slice e)) (hc : P.cellsOf t = 1) (hb : Nat.ble 1 (P.bytesOf e) = true) (h0 : Nat.ble 1 d.sz = true) (he : Opn P W e d φ) :
    Opn P W t (Rep.slice d) fun xs => xs.length ≤ 140737488355328 ∧ ∀ x ∈ xs, φ x := by
  refine ⟨hc.symm, fun {H} enc held fuel cs x h hw => ?_⟩
  have h0 : 1 ≤ d.sz := Nat.le_of_ble_eq_true h0
  have hb : 1 ≤ P.bytesOf e := Nat.le_of_ble_eq_true hb
  rcases DataW.trod_slice ht h with ⟨rfl, rfl⟩ | ⟨a, len, cap, elems, rest, n, rfl, rfl, rfl, -, hlc, hcm, hlen, hel, -, -⟩
  · exact ⟨[], ⟨_, rfl, SV.nil _ _⟩, by simp, by simp⟩
  have hW : (elems.length + rest.length) * P.bytesOf e ≤ 140737488355328 := by
    have := hw ((elems.length + rest.length) * P.bytesOf e) (by simp [DataW.weights, ht])
    exact this
  have hl47 : elems.length ≤ 140737488355328 := by
    have : elems.length * 1 ≤ (elems.length + rest.length) * P.bytesOf e := Nat.mul_le_mul (by omega) hb
    omega
  have hk : ∀ i, i < len → ∃ y, (∃ ci, (W.cells? 0 (a.add (i * P.cellsOf e)) (P.cellsOf e)) = some ci ∧ d.K (all W) y ci) ∧ φ y := by
    intro i hi
    have h1 := hel i hi
    rw [List.getElem?_eq_getElem (by omega), Option.bind_eq_some_iff] at h1
    obtain ⟨ci, h2, h3⟩ := h1
    obtain ⟨y, hy, hp⟩ := he.2 enc held n ci _ h3 (fun m hm => hw m (by
      simp only [DataW.weights, ht, List.mem_cons, List.mem_append]
      exact .inr (.inl (weights_all_mem (List.mem_map_of_mem (List.getElem_mem _)) m hm))))
    exact ⟨y, ⟨ci, h2, hy⟩, hp⟩
  obtain ⟨ys, hyl, hys⟩ := list_of len hk
  refine ⟨ys, ⟨_, rfl, some a, cap, by rw [hyl], by omega, (fun h => by cases h), by omega, fun hne => ?_⟩, by omega, fun y hy => ?_⟩
  · have hpos : 0 < ys.length := by cases ys with | nil => exact absurd rfl hne | cons _ _ => simp
    rw [← he.1] at hys
    have hcells : ∀ j y, ys[j]? = some y → ∃ ci, d.K (all W) y ci ∧ ci.length = d.sz ∧ ∀ i, i < d.sz → W.cell? (a.add (j * d.sz + i)) = ci[i]? := by
      intro j y hj
      obtain ⟨ci, h1, h2⟩ := (hys j y hj).1
      obtain ⟨-, h3, h4⟩ := World.cells?_some h1
      exact ⟨ci, h2, h3, fun i hi => by rw [← h4 i hi, Addr.add_add]⟩
    obtain ⟨c, tt, fr, hblk, hsp⟩ : ∃ c tt fr, W.heap[a.block]? = some (.cells c tt fr) ∧ a.spot = none := by
      obtain ⟨ci, -, h2, h3⟩ := hcells 0 ys[0] (List.getElem?_eq_getElem hpos)
      have h4 := h3 0 (by omega)
      rw [Nat.zero_mul, Nat.zero_add, add_zero, List.getElem?_eq_getElem (by omega)] at h4
      obtain ⟨c, tt, fr, h5, h6, -⟩ := cell_block h4
      exact ⟨c, tt, fr, h5, h6⟩
    have hall : ∀ j y, ys[j]? = some y → ∃ ci, d.K (all W) y ci ∧ ci.length = d.sz ∧ ∀ i, i < d.sz → c.toList[a.off + (j * d.sz + i)]? = ci[i]? := by
      intro j y hj
      obtain ⟨ci, h1, h2, h3⟩ := hcells j y hj
      refine ⟨ci, h1, h2, fun i hi => ?_⟩
      have h4 := h3 i hi
      rw [List.getElem?_eq_getElem (l := ci) (by omega)] at h4 ⊢
      obtain ⟨c', tt', fr', h5, -, h7⟩ := cell_block h4
      rw [add_block, hblk] at h5
      rw [add_off] at h7
      cases h5
      rw [Array.getElem?_toList]; exact h7
    have hsize : a.off + ys.length * d.sz ≤ c.toList.length := by
      obtain ⟨ci, -, h2, h3⟩ := hall (ys.length - 1) (ys[ys.length - 1]'(by omega)) (List.getElem?_eq_getElem (by omega))
      have h4 := h3 (d.sz - 1) (by omega)
      rw [List.getElem?_eq_getElem (l := ci) (by omega)] at h4
      have h5 := (List.getElem?_eq_some_iff.1 h4).1
      have h6 : ys.length * d.sz = (ys.length - 1) * d.sz + d.sz := by rw [← Nat.succ_mul]; congr 1; omega
      omega
    obtain ⟨ab, ao, asp⟩ := a
    obtain rfl : asp = none := hsp
    refine ⟨ab, ao, c, tt, fr, (c.toList.drop ao).take (ys.length * d.sz), rfl, ⟨trivial, hblk⟩, ⟨by rw [List.length_take, List.length_drop]; show min _ (c.toList.length - ao) = _; have : ao + ys.length * d.sz ≤ c.toList.length := hsize; omega, fun j y hj => ?_⟩, fun i u hu => ?_⟩
    · obtain ⟨ci, h1, h2, h3⟩ := hall j y hj
      have hjl := (List.getElem?_eq_some_iff.1 hj).1
      have hjm : j * d.sz + d.sz ≤ ys.length * d.sz := by rw [← Nat.succ_mul]; exact Nat.mul_le_mul_right _ hjl
      have : ((((c.toList.drop ao).take (ys.length * d.sz)).drop (j * d.sz)).take d.sz) = ci := by
        apply List.ext_getElem?
        intro i
        rw [List.getElem?_take]
        split
        · rename_i hi
          rw [List.getElem?_drop, List.getElem?_take, if_pos (by omega), List.getElem?_drop]
          exact h3 i hi
        · rw [List.getElem?_eq_none (by omega)]
      rw [this]; exact h1
    · rw [List.getElem?_take] at hu
      split at hu
      · rw [List.getElem?_drop, Array.getElem?_toList] at hu; exact hu
      · cases hu
  · obtain ⟨i, hi⟩ := List.mem_iff_getElem?.1 hy
    exact (hys i y hi).2
end
end Go.Proofs.YtmodmjekhlnjpaaGreatDoor
namespace Go.Proofs.YtmodmjekhlnjpaaGreatDoor
open Go.RowKit
theorem turn32_ok (x n : Nat) (w0 : World) (sps : List Sp) (rs : List Fa) (hx : x < 2 ^ 32) (hn : n ≤ 32) :
    FnOk Tryz.prog 331 #[.int .u32 (x : Int), .int .i64 (n : Int), .int .i64 32] w0 sps rs fun r s q => r = .int .u32 (sturn 32 x n : Nat) ∧ sps = s ∧ rs = q := by
  have h1 := div_lt (b := 32) n hx
  have h2 : x * 2 ^ (32 - n) % 2 ^ 32 < 2 ^ 32 := Nat.mod_lt _ (Nat.two_pow_pos _)
  refine fn_enter Tryz.func331 rfl Tryz.ntmps331 rfl ?_
  refine cs_seq ?_
  refine cs_seq_region [0] rfl ?_
  refine c_assign rfl rfl rfl rfl (by conv => lhs; whnf) ?_
  refine can_nil ?_
  refine ps_then ?_
  refine cs_seq ?_
  refine cs_draw_region [0, 0, 0, 0, 0, 0, 0, 0, 0, 0] [false, false, false, false, false, false, false, false, false, false] [0, 1, 2, 3, 4, 5, 6, 7, 8, 9] (by kernel_rfl) (by kernel_rfl) (by kernel_rfl) (by kernel_rfl) xQ ?_
  refine can_forget rfl ?_
  refine c_move rfl rfl rfl rfl (by conv => lhs; whnf) ?_
  refine c_move rfl rfl rfl rfl (by conv => lhs; whnf) ?_
  refine n_shr rfl rfl rfl rfl rfl rfl rfl hn ?_
  refine c_move rfl rfl rfl rfl (by conv => lhs; whnf) ?_
  refine c_move rfl rfl rfl rfl (by conv => lhs; whnf) ?_
  refine c_move rfl rfl rfl rfl (by conv => lhs; whnf) ?_
  first | refine c_subI rfl rfl rfl rfl rfl rfl xW ?_ | refine c_sub rfl rfl rfl rfl rfl rfl ?_
  refine n_shl (b := 32 - n) rfl rfl rfl rfl rfl rfl (by omega) (Nat.sub_le _ _) rfl ?_
  refine n_or rfl rfl rfl rfl rfl rfl rfl h1 h2 ?_
  refine c_assign rfl rfl rfl rfl (by conv => lhs; whnf) ?_
  refine can_nil ?_
  refine ps_then ?_
  refine cs_ret ?_
  apply ps_end1 rfl Tryz.results331 (by conv => lhs; whnf)
  · exact ⟨rfl, rfl, rfl⟩
  · exact (.mk xS xS)

theorem small32_ok (x n1 n2 n3 : Nat) (w0 : World) (sps : List Sp) (rs : List Fa) (hx : x < 2 ^ 32) (h1 : n1 ≤ 32) (h2 : n2 ≤ 32) (h3 : n3 ≤ 32) :
    FnOk Tryz.prog 330 #[.int .u32 (x : Int), .agg #[.int .i64 (n1 : Int), .int .i64 (n2 : Int), .int .i64 (n3 : Int)], .int .i64 32] w0 sps rs fun r s q => r = .int .u32 (ssm 32 (n1, n2, n3) x : Nat) ∧ sps = s ∧ rs = q := by
  have t1 := sturn_lt (b := 32) n1 hx
  have t2 := sturn_lt (b := 32) n2 hx
  have t3 := div_lt (b := 32) n3 hx
  have t4 := Nat.xor_lt_two_pow t1 t2
  refine fn_enter Tryz.func330 rfl Tryz.ntmps330 rfl ?_
  refine cs_seq ?_
  refine cs_seq_region [0, 1] rfl ?_
  refine c_box rfl rfl rfl rfl rfl (fun _ => Or.inl rfl) (fun g4 => ?_)
  refine c_assign rfl rfl rfl rfl (by conv => lhs; whnf) ?_
  refine can_nil ?_
  refine ps_then ?_
  refine cs_seq ?_
  refine cs_draw_region [0, 0, 1, 0, 2, 0, 0, 1, 0, 2, 0, 0, 0, 1, 0, 0, 0] [false, false, false, false, true, false, false, false, false, true, false, false, false, false, false, false, false] [0, 1, 2, 3, 5, 6, 7, 8, 11, 12, 13, 14, 4, 9, 10, 15, 16] (by kernel_rfl) (by kernel_rfl) (by kernel_rfl) (by kernel_rfl) xQ ?_
  refine c_move rfl rfl rfl rfl (by conv => lhs; whnf) ?_
  refine c_indexAddrA1 rfl rfl rfl rfl Tryz.underlying289 Tryz.sizeOf3 rfl rfl xD ?_
  first | refine c_load1 rfl rfl rfl Tryz.isAgg3 rfl (ldD rfl rfl xE xM (sub1 (by exact rfl))) ?_ | refine c_load1 rfl rfl rfl Tryz.isAgg3 rfl (ldDC (k := 0) rfl rfl xE xM (sub1 (by exact rfl))) ?_ | refine c_load1 rfl rfl rfl Tryz.isAgg3 rfl (ldDC rfl rfl xE xM (sub1 (by exact rfl))) ?_
  refine c_move rfl rfl rfl rfl (by conv => lhs; whnf) ?_
  refine c_move rfl rfl rfl rfl (by conv => lhs; whnf) ?_
  refine c_indexAddrA1 rfl rfl rfl rfl Tryz.underlying289 Tryz.sizeOf3 rfl rfl xD ?_
  first | refine c_load1 rfl rfl rfl Tryz.isAgg3 rfl (ldD rfl rfl xE xM (sub1 (by exact rfl))) ?_ | refine c_load1 rfl rfl rfl Tryz.isAgg3 rfl (ldDC (k := 0) rfl rfl xE xM (sub1 (by exact rfl))) ?_ | refine c_load1 rfl rfl rfl Tryz.isAgg3 rfl (ldDC rfl rfl xE xM (sub1 (by exact rfl))) ?_
  refine c_move rfl rfl rfl rfl (by conv => lhs; whnf) ?_
  refine c_move rfl rfl rfl rfl (by conv => lhs; whnf) ?_
  refine c_indexAddrA1 rfl rfl rfl rfl Tryz.underlying289 Tryz.sizeOf3 rfl rfl xD ?_
  first | refine c_load1 rfl rfl rfl Tryz.isAgg3 rfl (ldD rfl rfl xE xM (sub1 (by exact rfl))) ?_ | refine c_load1 rfl rfl rfl Tryz.isAgg3 rfl (ldDC (k := 0) rfl rfl xE xM (sub1 (by exact rfl))) ?_ | refine c_load1 rfl rfl rfl Tryz.isAgg3 rfl (ldDC rfl rfl xE xM (sub1 (by exact rfl))) ?_
  refine n_shr rfl rfl rfl rfl rfl rfl rfl h3 ?_
  refine c_call rfl rfl rfl rfl Tryz.call331 (turn32_ok x n1 w0 _ _ hx h1) (by exact rfl) (by rintro v s r ⟨rfl, rfl, rfl⟩; exact Or.inr xE) ?_
  rintro _ _ _ ⟨rfl, rfl, rfl⟩
  refine c_call rfl rfl rfl rfl Tryz.call331 (turn32_ok x n2 w0 _ _ hx h2) (by exact rfl) (by rintro v s r ⟨rfl, rfl, rfl⟩; exact Or.inr xE) ?_
  rintro _ _ _ ⟨rfl, rfl, rfl⟩
  refine can_forget rfl ?_
  refine n_xor rfl rfl rfl rfl rfl rfl rfl t1 t2 ?_
  refine n_xor rfl rfl rfl rfl rfl rfl rfl t4 t3 ?_
  refine c_assign rfl rfl rfl rfl (by conv => lhs; whnf) ?_
  refine can_nil ?_
  refine ps_then ?_
  refine cs_ret ?_
  apply ps_end1 rfl Tryz.results330 (by conv => lhs; whnf)
  · exact ⟨rfl, rfl, rfl⟩
  · exact (.mk xS xS)

theorem big32_ok (x n1 n2 n3 : Nat) (w0 : World) (sps : List Sp) (rs : List Fa) (hx : x < 2 ^ 32) (h1 : n1 ≤ 32) (h2 : n2 ≤ 32) (h3 : n3 ≤ 32) :
    FnOk Tryz.prog 315 #[.int .u32 (x : Int), .agg #[.int .i64 (n1 : Int), .int .i64 (n2 : Int), .int .i64 (n3 : Int)], .int .i64 32] w0 sps rs fun r s q => r = .int .u32 (sbg 32 (n1, n2, n3) x : Nat) ∧ sps = s ∧ rs = q := by
  have t1 := sturn_lt (b := 32) n1 hx
  have t2 := sturn_lt (b := 32) n2 hx
  have t3 := sturn_lt (b := 32) n3 hx
  have t4 := Nat.xor_lt_two_pow t1 t2
  refine fn_enter Tryz.func315 rfl Tryz.ntmps315 rfl ?_
  refine cs_seq ?_
  refine cs_seq_region [0, 1] rfl ?_
  refine c_box rfl rfl rfl rfl rfl (fun _ => Or.inl rfl) (fun g4 => ?_)
  refine c_assign rfl rfl rfl rfl (by conv => lhs; whnf) ?_
  refine can_nil ?_
  refine ps_then ?_
  refine cs_seq ?_
  refine cs_draw_region [0, 0, 1, 0, 2, 0, 0, 1, 0, 2, 0, 0, 0, 1, 0, 2, 0, 0] [false, false, false, false, true, false, false, false, false, true, false, false, false, false, false, true, false, false] [0, 1, 2, 3, 5, 6, 7, 8, 11, 12, 13, 14, 4, 9, 10, 15, 16, 17] (by kernel_rfl) (by kernel_rfl) (by kernel_rfl) (by kernel_rfl) xQ ?_
  refine c_move rfl rfl rfl rfl (by conv => lhs; whnf) ?_
  refine c_indexAddrA1 rfl rfl rfl rfl Tryz.underlying289 Tryz.sizeOf3 rfl rfl xD ?_
  first | refine c_load1 rfl rfl rfl Tryz.isAgg3 rfl (ldD rfl rfl xE xM (sub1 (by exact rfl))) ?_ | refine c_load1 rfl rfl rfl Tryz.isAgg3 rfl (ldDC (k := 0) rfl rfl xE xM (sub1 (by exact rfl))) ?_ | refine c_load1 rfl rfl rfl Tryz.isAgg3 rfl (ldDC rfl rfl xE xM (sub1 (by exact rfl))) ?_
  refine c_move rfl rfl rfl rfl (by conv => lhs; whnf) ?_
  refine c_move rfl rfl rfl rfl (by conv => lhs; whnf) ?_
  refine c_indexAddrA1 rfl rfl rfl rfl Tryz.underlying289 Tryz.sizeOf3 rfl rfl xD ?_
  first | refine c_load1 rfl rfl rfl Tryz.isAgg3 rfl (ldD rfl rfl xE xM (sub1 (by exact rfl))) ?_ | refine c_load1 rfl rfl rfl Tryz.isAgg3 rfl (ldDC (k := 0) rfl rfl xE xM (sub1 (by exact rfl))) ?_ | refine c_load1 rfl rfl rfl Tryz.isAgg3 rfl (ldDC rfl rfl xE xM (sub1 (by exact rfl))) ?_
  refine c_move rfl rfl rfl rfl (by conv => lhs; whnf) ?_
  refine c_move rfl rfl rfl rfl (by conv => lhs; whnf) ?_
  refine c_indexAddrA1 rfl rfl rfl rfl Tryz.underlying289 Tryz.sizeOf3 rfl rfl xD ?_
  first | refine c_load1 rfl rfl rfl Tryz.isAgg3 rfl (ldD rfl rfl xE xM (sub1 (by exact rfl))) ?_ | refine c_load1 rfl rfl rfl Tryz.isAgg3 rfl (ldDC (k := 0) rfl rfl xE xM (sub1 (by exact rfl))) ?_ | refine c_load1 rfl rfl rfl Tryz.isAgg3 rfl (ldDC rfl rfl xE xM (sub1 (by exact rfl))) ?_
  refine c_move rfl rfl rfl rfl (by conv => lhs; whnf) ?_
  refine c_call rfl rfl rfl rfl Tryz.call331 (turn32_ok x n1 w0 _ _ hx h1) (by exact rfl) (by rintro v s r ⟨rfl, rfl, rfl⟩; exact Or.inr xE) ?_
  rintro _ _ _ ⟨rfl, rfl, rfl⟩
  refine c_call rfl rfl rfl rfl Tryz.call331 (turn32_ok x n2 w0 _ _ hx h2) (by exact rfl) (by rintro v s r ⟨rfl, rfl, rfl⟩; exact Or.inr xE) ?_
  rintro _ _ _ ⟨rfl, rfl, rfl⟩
  refine n_xor rfl rfl rfl rfl rfl rfl rfl t1 t2 ?_
  refine c_call rfl rfl rfl rfl Tryz.call331 (turn32_ok x n3 w0 _ _ hx h3) (by exact rfl) (by rintro v s r ⟨rfl, rfl, rfl⟩; exact Or.inr xE) ?_
  rintro _ _ _ ⟨rfl, rfl, rfl⟩
  refine can_forget rfl ?_
  refine n_xor rfl rfl rfl rfl rfl rfl rfl t4 t3 ?_
  refine c_assign rfl rfl rfl rfl (by conv => lhs; whnf) ?_
  refine can_nil ?_
  refine ps_then ?_
  refine cs_ret ?_
  apply ps_end1 rfl Tryz.results315 (by conv => lhs; whnf)
  · exact ⟨rfl, rfl, rfl⟩
  · exact (.mk xS xS)

end Go.Proofs.YtmodmjekhlnjpaaGreatDoor
namespace Go.Proofs.YtmodmjekhlnjpaaGreatDoor
open Go.RowKit
def shv32 : List Value := [.int .i64 4, .int .i64 32, .int .i64 64, .int .i64 7, .int .i64 18, .int .i64 3, .int .i64 17, .int .i64 19, .int .i64 10, .int .i64 2, .int .i64 13, .int .i64 22, .int .i64 6, .int .i64 11, .int .i64 25]
def shv64 : List Value := [.int .i64 8, .int .i64 64, .int .i64 80, .int .i64 1, .int .i64 8, .int .i64 7, .int .i64 19, .int .i64 61, .int .i64 6, .int .i64 28, .int .i64 34, .int .i64 39, .int .i64 14, .int .i64 18, .int .i64 41]
theorem narrow_ok (w0 : World) (sps : List Sp) (rs : List Fa) : FnOk Tryz.prog 278 #[] w0 sps rs fun r s q => r = .agg shv32.toArray ∧ sps = s ∧ rs = q := by
  refine (?_ : FnOk Tryz.prog 278 [].toArray w0 sps rs _)
  refine fn_enter Tryz.func278 rfl Tryz.ntmps278 rfl ?_
  refine cs_seq ?_
  refine cs_seq_region [0] rfl ?_
  refine c_alloc rfl rfl rfl rfl Tryz.zeroValue291 rfl (fun _ => Or.inl rfl) (fun g0 => ?_)
  refine can_nil ?_
  refine ps_then ?_
  refine cs_seq ?_
  refine cs_seq_region [0, 1, 2, 3, 4, 5] rfl ?_
  refine c_buildA (cs := [_, _, _]) rfl rfl rfl rfl Tryz.underlying289 Tryz.zeroValue289 Tryz.sizeOf3 rfl rfl ?_
  refine c_buildA (cs := [_, _, _]) rfl rfl rfl rfl Tryz.underlying289 Tryz.zeroValue289 Tryz.sizeOf3 rfl rfl ?_
  refine c_buildA (cs := [_, _, _]) rfl rfl rfl rfl Tryz.underlying289 Tryz.zeroValue289 Tryz.sizeOf3 rfl rfl ?_
  refine c_buildA (cs := [_, _, _]) rfl rfl rfl rfl Tryz.underlying289 Tryz.zeroValue289 Tryz.sizeOf3 rfl rfl ?_
  refine c_buildS (cs := [_, _, _, _, _, _, _, _, _, _, _, _, _, _, _]) rfl rfl rfl rfl Tryz.underlying291 Tryz.zeroValue291 (by intro w; simp [Tryz.sizeOf3, Tryz.sizeOf289]; rfl) rfl rfl ?_
  refine c_storeB rfl rfl rfl Tryz.sizeOf291 rfl rfl xF (by first | (simp [ne_length, wlist_length]; done) | rfl) (by first | (simp [ne_length, wlist_length]; done) | rfl) (by first | exact ne_one _ _ | rfl | simp [Value.oneCell']) (by (try simp only [List.cons_append, List.nil_append]); exact rfl) (Or.inl rfl) ?_
  refine can_nil ?_
  refine ps_then ?_
  refine cs_ret ?_
  apply ps_res1 rfl Tryz.results278 (res_cellN Tryz.isAgg291 Tryz.sizeOf291 rfl xM (by first | (simp [ne_length, wlist_length]; done) | rfl))
  · exact ⟨rfl, rfl, rfl⟩
  · exact (.mk xS xS)

theorem wide_ok (w0 : World) (sps : List Sp) (rs : List Fa) : FnOk Tryz.prog 279 #[] w0 sps rs fun r s q => r = .agg shv64.toArray ∧ sps = s ∧ rs = q := by
  refine (?_ : FnOk Tryz.prog 279 [].toArray w0 sps rs _)
  refine fn_enter Tryz.func279 rfl Tryz.ntmps279 rfl ?_
  refine cs_seq ?_
  refine cs_seq_region [0] rfl ?_
  refine c_alloc rfl rfl rfl rfl Tryz.zeroValue291 rfl (fun _ => Or.inl rfl) (fun g0 => ?_)
  refine can_nil ?_
  refine ps_then ?_
  refine cs_seq ?_
  refine cs_seq_region [0, 1, 2, 3, 4, 5] rfl ?_
  refine c_buildA (cs := [_, _, _]) rfl rfl rfl rfl Tryz.underlying289 Tryz.zeroValue289 Tryz.sizeOf3 rfl rfl ?_
  refine c_buildA (cs := [_, _, _]) rfl rfl rfl rfl Tryz.underlying289 Tryz.zeroValue289 Tryz.sizeOf3 rfl rfl ?_
  refine c_buildA (cs := [_, _, _]) rfl rfl rfl rfl Tryz.underlying289 Tryz.zeroValue289 Tryz.sizeOf3 rfl rfl ?_
  refine c_buildA (cs := [_, _, _]) rfl rfl rfl rfl Tryz.underlying289 Tryz.zeroValue289 Tryz.sizeOf3 rfl rfl ?_
  refine c_buildS (cs := [_, _, _, _, _, _, _, _, _, _, _, _, _, _, _]) rfl rfl rfl rfl Tryz.underlying291 Tryz.zeroValue291 (by intro w; simp [Tryz.sizeOf3, Tryz.sizeOf289]; rfl) rfl rfl ?_
  refine c_storeB rfl rfl rfl Tryz.sizeOf291 rfl rfl xF (by first | (simp [ne_length, wlist_length]; done) | rfl) (by first | (simp [ne_length, wlist_length]; done) | rfl) (by first | exact ne_one _ _ | rfl | simp [Value.oneCell']) (by (try simp only [List.cons_append, List.nil_append]); exact rfl) (Or.inl rfl) ?_
  refine can_nil ?_
  refine ps_then ?_
  refine cs_ret ?_
  apply ps_res1 rfl Tryz.results279 (res_cellN Tryz.isAgg291 Tryz.sizeOf291 rfl xM (by first | (simp [ne_length, wlist_length]; done) | rfl))
  · exact ⟨rfl, rfl, rfl⟩
  · exact (.mk xS xS)

end Go.Proofs.YtmodmjekhlnjpaaGreatDoor
namespace Go.Proofs.YtmodmjekhlnjpaaGreatDoor
open Go.RowKit
set_option maxRecDepth 100000 in
set_option maxHeartbeats 1000000 in
theorem words32_ok (v : Value) (blk : List Nat) (w0 : World) (sps : List Sp) (rs : List Fa) (hv : Rd b8 v blk ∈ rs) (hl : blk.length = 16 * 4) (hB : ∀ x ∈ blk, x < 256) :
    FnOk Tryz.prog 314 #[.agg shv32.toArray, v] w0 sps rs fun r s q => r = .agg (ne .u32 (wlist sh32 blk 64 ++ List.replicate 16 0)).toArray ∧ sps = s ∧ rs = q := by
  refine fn_en (en_shape hv) ?_
  rintro _ _ ⟨rfl, rfl, A, c, rfl, hc, hA, -⟩
  have hlt := wlist_lt sh32 blk hB (by decide)
  refine fn_enter Tryz.func314 rfl Tryz.ntmps314 rfl ?_
  refine cs_seq ?_
  refine cs_seq_region [0, 1] rfl ?_
  refine c_box rfl rfl rfl rfl rfl (fun _ => Or.inl rfl) (fun g2 => ?_)
  refine c_alloc rfl rfl rfl rfl Tryz.zeroValue375 rfl (fun _ => Or.inl rfl) (fun g4 => ?_)
  refine can_nil ?_
  refine ps_then ?_
  refine cs_seq ?_
  refine cs_seq_region [0] rfl ?_
  refine c_alloc rfl rfl rfl rfl Tryz.zeroValue375 rfl (fun _ => Or.inl rfl) (fun g5 => ?_)
  refine can_nil ?_
  refine ps_then ?_
  refine cs_seq ?_
  refine cs_seq ?_
  refine cs_seq_region [0] rfl ?_
  refine c_move rfl rfl rfl rfl (by conv => lhs; whnf) ?_
  refine can_nil ?_
  refine ps_then ?_
  refine cs_block ?_
  refine cs_loopS [6, 8, 10, 11, 12, 13, 14, 15, 16, 17, 18, 19, 20, 21, 22, 23, 24, 25, 26, 27, 28, 29, 30, 31, 32, 33, 34, 35, 36, 37, 38, 39] (fun m L s r => ∃ t : Nat, t ≤ 16 ∧ m = 16 - t ∧ L = [(10, .int .i64 (t : Int))] ∧ s = Bk g5 (ne .u32 (wlist sh32 blk t ++ List.replicate (80 - t) 0)) 375 :: Bk g4 (List.replicate 80 (.int .u32 0)) 375 :: Bk g2 shv32 291 :: sps ∧ rs = r) [(10, .int .i64 (0 : Nat))] (⟨rfl, trivial⟩) (⟨0, by omega, rfl, rfl, rfl, rfl⟩) ?_
  rintro k0 f0 _ _ _ ⟨t, ht, rfl, rfl, rfl, rfl⟩
  refine cs_seq ?_
  refine cs_seq_region [0] rfl ?_
  refine c_lss rfl rfl rfl rfl rfl rfl ?_
  refine can_nil ?_
  refine ps_then ?_
  refine cs_seq ?_
  refine cs_cond rfl (fun hc1 => ?_) (fun hc1 => ?_)
  · simp at hc1
    refine cs_skip ?_
    refine ps_then ?_
    refine cs_seq ?_
    refine cs_block ?_
    refine cs_seq ?_
    refine cs_seq_region [0, 1] rfl ?_
    refine c_move rfl rfl rfl rfl (by conv => lhs; whnf) ?_
    refine c_assign rfl rfl rfl rfl (by conv => lhs; whnf) ?_
    refine can_nil ?_
    refine ps_then ?_
    refine cs_seq ?_
    refine cs_seq_region [0, 1, 2, 3, 4, 5, 6, 7, 8, 9, 10, 11, 12] rfl ?_
    refine c_move rfl rfl rfl rfl (by conv => lhs; whnf) ?_
    refine c_move rfl rfl rfl rfl (by conv => lhs; whnf) ?_
    refine c_fieldAddr rfl rfl rfl rfl Tryz.underlying291 rfl Tryz.sizeOf3 rfl rfl ?_
    first | refine c_load1 rfl rfl rfl Tryz.isAgg3 rfl (ldS rfl rfl xM (sub1 (by exact rfl))) ?_ | refine c_load1 rfl rfl rfl Tryz.isAgg3 rfl (ldSC (k := 0) rfl rfl xM (sub1 (by exact rfl))) ?_ | refine c_load1 rfl rfl rfl Tryz.isAgg3 rfl (ldSC rfl rfl xM (sub1 (by exact rfl))) ?_
    first | refine c_mulI rfl rfl rfl rfl rfl rfl xW ?_ | refine c_mul rfl rfl rfl rfl rfl rfl ?_
    refine c_move rfl rfl rfl rfl (by conv => lhs; whnf) ?_
    first | refine c_addI rfl rfl rfl rfl rfl rfl xW ?_ | refine c_add rfl rfl rfl rfl rfl rfl ?_
    refine c_fieldAddr rfl rfl rfl rfl Tryz.underlying291 rfl Tryz.sizeOf3 rfl rfl ?_
    first | refine c_load1 rfl rfl rfl Tryz.isAgg3 rfl (ldS rfl rfl xM (sub1 (by exact rfl))) ?_ | refine c_load1 rfl rfl rfl Tryz.isAgg3 rfl (ldSC (k := 0) rfl rfl xM (sub1 (by exact rfl))) ?_ | refine c_load1 rfl rfl rfl Tryz.isAgg3 rfl (ldSC rfl rfl xM (sub1 (by exact rfl))) ?_
    first | refine c_mulI rfl rfl rfl rfl rfl rfl xW ?_ | refine c_mul rfl rfl rfl rfl rfl rfl ?_
    refine c_slice (k := .i64) (k' := .i64) (lo := t * 4) (hi := (t + 1) * 4) rfl rfl rfl rfl Tryz.underlying22 Tryz.sizeOf5 rfl xM rfl rfl (.inr rfl) (.inr rfl) (by first | omega | (simp <;> omega)) (by first | omega | (simp <;> omega)) (fun A23 => ?_)
    rw [show (t + 1) * 4 - t * 4 = 4 by omega, show (blk.take ((t + 1) * 4)).drop (t * 4) = wpart sh32 blk t from wpart_eq sh32 blk t]
    refine c_len rfl rfl rfl rfl Tryz.underlying22 rfl ?_
    refine c_move rfl rfl rfl rfl (by conv => lhs; whnf) ?_
    refine can_nil ?_
    refine ps_then ?_
    refine cs_block ?_
    have hpl : (wpart sh32 blk t).length = 4 := wpart_length sh32 blk t (by rw [hl]; show (t + 1) * 4 ≤ 16 * 4; omega)
    have hpb : ∀ x ∈ wpart sh32 blk t, x < 256 := fun x hx => hB x (List.mem_of_mem_drop (List.mem_of_mem_take hx))
    rw [rep_succ (80 - t) (by omega), Nat.sub_sub]
    refine cs_loopS [8, 25, 26, 27, 28, 29, 30, 31, 32, 33, 34, 35, 36, 37, 38] (fun m L s r => ∃ k : Nat, k ≤ 4 ∧ m = 4 - k ∧ L = [(25, .int .i64 (k : Int))] ∧ s = Bk g5 (ne .u32 (wlist sh32 blk t ++ beN ((wpart sh32 blk t).take k) :: List.replicate (80 - (t + 1)) 0)) 375 :: Bk g4 (List.replicate 80 (.int .u32 0)) 375 :: Bk g2 shv32 291 :: sps ∧ r = Rd b8 (.slice A23 4 (c - t * 4)) (wpart sh32 blk t) :: rs) [(25, .int .i64 (0 : Nat))] (⟨rfl, trivial⟩) (⟨0, by omega, rfl, rfl, rfl, rfl⟩) ?_
    rintro k1 f1 _ _ _ ⟨k, hk, rfl, rfl, rfl, rfl⟩
    refine cs_seq ?_
    refine cs_seq_region [0] rfl ?_
    refine c_lss rfl rfl rfl rfl rfl rfl ?_
    refine can_nil ?_
    refine ps_then ?_
    refine cs_seq ?_
    refine cs_cond rfl (fun hc2 => ?_) (fun hc2 => ?_)
    · simp at hc2
      refine cs_skip ?_
      refine ps_then ?_
      refine cs_seq ?_
      refine cs_block ?_
      refine cs_seq ?_
      refine cs_en (en_openB (xs := wpart sh32 blk t) k (by omega) xM) ?_
      rintro _ _ ⟨gg, off, c', heq, hb, rfl, rfl⟩
      injection heq with e1 e2 e3
      subst e1
      refine cs_seq_region [0, 1, 2] rfl ?_
      refine c_indexAddrS1 rfl rfl rfl rfl Tryz.underlying22 Tryz.sizeOf5 rfl rfl xD ?_
      first | refine c_load1 rfl rfl rfl Tryz.isAgg5 rfl (ldS rfl rfl xM (sub1 (by exact rfl))) ?_ | refine c_load1 rfl rfl rfl Tryz.isAgg5 rfl (ldSC (k := 0) rfl rfl xM (sub1 (by exact rfl))) ?_ | refine c_load1 rfl rfl rfl Tryz.isAgg5 rfl (ldSC rfl rfl xM (sub1 (by exact rfl))) ?_
      refine c_assign rfl rfl rfl rfl (by conv => lhs; whnf) ?_
      refine can_nil ?_
      refine ps_then ?_
      refine cs_seq_region [0, 1, 2, 3, 4, 5, 6, 7, 8, 9] rfl ?_
      refine c_move rfl rfl rfl rfl (by conv => lhs; whnf) ?_
      refine c_move rfl rfl rfl rfl (by conv => lhs; whnf) ?_
      refine c_indexAddrA1 rfl rfl rfl rfl Tryz.underlying375 Tryz.sizeOf261 rfl rfl xD ?_
      refine c_load1 rfl rfl rfl Tryz.isAgg261 rfl (ldS rfl rfl xM (sub1 (row_cur _ _ _ t _ _ _ (by omega)))) ?_
      refine n_shl (b := 8) rfl rfl rfl rfl rfl rfl rfl (by decide) rfl ?_
      refine c_move rfl rfl rfl rfl (by conv => lhs; whnf) ?_
      refine n_conv rfl rfl rfl rfl Tryz.underlying5 Tryz.underlying261 rfl rfl ?_
      rw [Nat.mod_eq_of_lt (Nat.lt_of_lt_of_le hb (by decide))]
      have hbe : beN ((wpart sh32 blk t).take (k + 1)) < 2 ^ 32 := Nat.lt_of_lt_of_le (beN_lt _ fun x hx => hpb x (List.mem_of_mem_take hx)) (Nat.le_trans (Nat.pow_le_pow_right (by decide) (show _ ≤ 4 by simp; omega)) (by decide))
      rw [take_beN _ k (by omega)] at hbe
      refine n_or rfl rfl rfl rfl rfl rfl rfl (mod_lt' _ _) (Nat.lt_of_lt_of_le hb (by decide)) ?_
      rw [show ∀ z : Nat, z * 2 ^ 8 % 2 ^ IntKind.u32.bits ||| (wpart sh32 blk t).getD k 0 = z * 2 ^ 8 % 2 ^ 32 ||| (wpart sh32 blk t).getD k 0 from fun _ => rfl, shl_or hbe hb]
      refine c_indexAddrA1 rfl rfl rfl rfl Tryz.underlying375 Tryz.sizeOf261 rfl rfl xD ?_
      refine c_store1 rfl rfl rfl Tryz.sizeOf261 rfl rfl Foc.here rfl (by simp [ne_length, wlist_length] <;> omega) (row_put _ _ _ t _ _ _ _ (by omega)) rfl (Or.inl rfl) ?_
      refine can_nil ?_
      refine ps_block_normal ?_
      refine ps_then ?_
      refine cs_seq_region [0, 1] rfl ?_
      first | refine c_addI rfl rfl rfl rfl rfl rfl xW ?_ | refine c_add rfl rfl rfl rfl rfl rfl ?_
      refine c_move rfl rfl rfl rfl (by conv => lhs; whnf) ?_
      refine can_nil ?_
      refine ps_roundS [(25, .int .i64 ((k + 1 : Nat) : Int))] ⟨rfl, trivial⟩ (by repeat (first | exact Mix.base | refine Mix.upd rfl ?_ | refine Mix.upds rfl ?_ | refine Mix.mix rfl ?_ | exact Mix.refl)) (4 - (k + 1)) (by omega) (⟨k + 1, by omega, rfl, rfl, by rw [take_beN _ k (by omega)], rfl⟩) (.mk xS xS)
    · simp at hc2
      refine cs_exit ?_
      refine ps_then_exit ?_
      refine ps_then_exit ?_
      refine ps_block_here ?_
      refine ps_block_normal ?_
      refine ps_then ?_
      refine cs_seq_region [0, 1] rfl ?_
      first | refine c_addI rfl rfl rfl rfl rfl rfl xW ?_ | refine c_add rfl rfl rfl rfl rfl rfl ?_
      refine c_move rfl rfl rfl rfl (by conv => lhs; whnf) ?_
      refine can_nil ?_
      have ek : k = 4 := by omega
      subst ek
      rw [show (wpart sh32 blk t).take 4 = wpart sh32 blk t from List.take_of_length_le (Nat.le_of_eq hpl)]
      refine ps_roundS [(10, .int .i64 ((t + 1 : Nat) : Int))] ⟨rfl, trivial⟩ (by repeat (first | exact Mix.base | refine Mix.upd rfl ?_ | refine Mix.upds rfl ?_ | refine Mix.mix rfl ?_ | exact Mix.refl)) (16 - (t + 1)) (by omega) (⟨t + 1, by omega, rfl, rfl, by rw [wlist, wnext_lo sh32 blk _ (by rw [wlist_length]; omega), wlist_length, List.append_assoc, List.singleton_append], rfl⟩) (.mk xS xS)
  · simp at hc1
    refine cs_exit ?_
    refine ps_then_exit ?_
    refine ps_then_exit ?_
    refine ps_block_here ?_
    refine ps_then ?_
    refine cs_seq ?_
    refine cs_seq ?_
    refine cs_seq_region [0] rfl ?_
    refine c_assign rfl rfl rfl rfl (by conv => lhs; whnf) ?_
    refine can_nil ?_
    refine ps_then ?_
    refine cs_block ?_
    have et : t = 16 := by omega
    subst et
    refine cs_loopS [9, 40, 41, 42, 43, 44, 45, 46, 47, 48, 49, 50, 51, 52, 53, 54, 55, 56, 57, 58, 59, 60, 61, 62, 63, 64, 65, 66, 67, 68, 69, 70, 71, 72, 73, 74, 75, 76] (fun m L s r => ∃ t : Nat, 16 ≤ t ∧ t ≤ 64 ∧ m = 64 - t ∧ L = [(9, .int .i64 (t : Int))] ∧ s = Bk g5 (ne .u32 (wlist sh32 blk t ++ List.replicate (80 - t) 0)) 375 :: Bk g4 (List.replicate 80 (.int .u32 0)) 375 :: Bk g2 shv32 291 :: sps ∧ rs = r) [(9, .int .i64 (16 : Nat))] (⟨rfl, trivial⟩) (⟨16, by omega, by omega, rfl, rfl, rfl, rfl⟩) ?_
    rintro k2 f2 _ _ _ ⟨t, ht0, ht, rfl, rfl, rfl, rfl⟩
    have hw1 := getD_lt (Nat.two_pow_pos _) (hlt t) (t - 15)
    have hw2 := getD_lt (Nat.two_pow_pos _) (hlt t) (t - 2)
    refine cs_seq ?_
    refine cs_seq ?_
    refine cs_seq_region [0, 1, 2, 3] rfl ?_
    refine c_move rfl rfl rfl rfl (by conv => lhs; whnf) ?_
    refine c_fieldAddr rfl rfl rfl rfl Tryz.underlying291 rfl Tryz.sizeOf3 rfl rfl ?_
    first | refine c_load1 rfl rfl rfl Tryz.isAgg3 rfl (ldS rfl rfl xM (sub1 (by exact rfl))) ?_ | refine c_load1 rfl rfl rfl Tryz.isAgg3 rfl (ldSC (k := 0) rfl rfl xM (sub1 (by exact rfl))) ?_ | refine c_load1 rfl rfl rfl Tryz.isAgg3 rfl (ldSC rfl rfl xM (sub1 (by exact rfl))) ?_
    refine c_lss rfl rfl rfl rfl rfl rfl ?_
    refine can_nil ?_
    refine ps_then ?_
    refine cs_cond rfl (fun hc3 => ?_) (fun hc3 => ?_)
    · simp at hc3
      refine cs_skip ?_
      refine ps_then ?_
      refine cs_seq ?_
      refine cs_block ?_
      refine cs_draw_region [0, 0, 0, 0, 1, 0, 0, 0, 1, 0, 1, 0, 1, 2, 0, 0, 0, 0, 1, 0, 0, 0, 0, 1, 0, 1, 0, 1, 2, 0, 0, 2] [false, false, false, false, false, false, false, false, false, false, false, false, false, true, false, false, false, false, false, false, false, false, false, false, false, false, false, false, true, false, false, false] [0, 1, 2, 3, 4, 5, 6, 7, 8, 9, 10, 11, 12, 15, 16, 17, 18, 20, 21, 22, 23, 24, 25, 26, 27, 13, 14, 19, 28, 29, 30, 31] (by kernel_rfl) (by kernel_rfl) (by kernel_rfl) (by kernel_rfl) xQ ?_
      refine c_move rfl rfl rfl rfl (by conv => lhs; whnf) ?_
      refine c_move rfl rfl rfl rfl (by conv => lhs; whnf) ?_
      first | refine c_subI rfl rfl rfl rfl rfl rfl xW ?_ | refine c_sub rfl rfl rfl rfl rfl rfl ?_
      refine c_indexAddrA1 rfl rfl rfl rfl Tryz.underlying375 Tryz.sizeOf261 rfl rfl xD ?_
      refine c_load1 rfl rfl rfl Tryz.isAgg261 rfl (ldD rfl rfl xE xM (sub1 (row_ld _ _ _ t _ _ (t - 16) (by omega) (by omega)))) ?_
      refine c_move rfl rfl rfl rfl (by conv => lhs; whnf) ?_
      first | refine c_subI rfl rfl rfl rfl rfl rfl xW ?_ | refine c_sub rfl rfl rfl rfl rfl rfl ?_
      refine c_indexAddrA1 rfl rfl rfl rfl Tryz.underlying375 Tryz.sizeOf261 rfl rfl xD ?_
      refine c_load1 rfl rfl rfl Tryz.isAgg261 rfl (ldD rfl rfl xE xM (sub1 (row_ld _ _ _ t _ _ (t - 15) (by omega) (by omega)))) ?_
      refine c_fieldAddr rfl rfl rfl rfl Tryz.underlying291 rfl Tryz.sizeOf289 rfl rfl ?_
      first | refine c_loadN rfl rfl rfl Tryz.isAgg289 Tryz.sizeOf289 rfl (ldD rfl rfl xE xM subAll) (by first | (simp [ne_length, wlist_length]; done) | rfl) ?_ | refine c_loadN (cs := [_, _, _]) rfl rfl rfl Tryz.isAgg289 Tryz.sizeOf289 rfl (ldD rfl rfl xE xM (subN (m := 3) (by exact rfl))) rfl ?_ | refine c_loadN rfl rfl rfl Tryz.isAgg289 Tryz.sizeOf289 rfl (ldDC (k := 0) rfl rfl xE xM subAll) (by first | (simp [ne_length, wlist_length]; done) | rfl) ?_
      refine c_fieldAddr rfl rfl rfl rfl Tryz.underlying291 rfl Tryz.sizeOf3 rfl rfl ?_
      first | refine c_load1 rfl rfl rfl Tryz.isAgg3 rfl (ldD rfl rfl xE xM (sub1 (by exact rfl))) ?_ | refine c_load1 rfl rfl rfl Tryz.isAgg3 rfl (ldDC (k := 0) rfl rfl xE xM (sub1 (by exact rfl))) ?_ | refine c_load1 rfl rfl rfl Tryz.isAgg3 rfl (ldDC rfl rfl xE xM (sub1 (by exact rfl))) ?_
      refine c_move rfl rfl rfl rfl (by conv => lhs; whnf) ?_
      first | refine c_subI rfl rfl rfl rfl rfl rfl xW ?_ | refine c_sub rfl rfl rfl rfl rfl rfl ?_
      refine c_indexAddrA1 rfl rfl rfl rfl Tryz.underlying375 Tryz.sizeOf261 rfl rfl xD ?_
      refine c_load1 rfl rfl rfl Tryz.isAgg261 rfl (ldD rfl rfl xE xM (sub1 (row_ld _ _ _ t _ _ (t - 7) (by omega) (by omega)))) ?_
      refine c_move rfl rfl rfl rfl (by conv => lhs; whnf) ?_
      first | refine c_subI rfl rfl rfl rfl rfl rfl xW ?_ | refine c_sub rfl rfl rfl rfl rfl rfl ?_
      refine c_indexAddrA1 rfl rfl rfl rfl Tryz.underlying375 Tryz.sizeOf261 rfl rfl xD ?_
      refine c_load1 rfl rfl rfl Tryz.isAgg261 rfl (ldD rfl rfl xE xM (sub1 (row_ld _ _ _ t _ _ (t - 2) (by omega) (by omega)))) ?_
      refine c_fieldAddr rfl rfl rfl rfl Tryz.underlying291 rfl Tryz.sizeOf289 rfl rfl ?_
      first | refine c_loadN rfl rfl rfl Tryz.isAgg289 Tryz.sizeOf289 rfl (ldD rfl rfl xE xM subAll) (by first | (simp [ne_length, wlist_length]; done) | rfl) ?_ | refine c_loadN (cs := [_, _, _]) rfl rfl rfl Tryz.isAgg289 Tryz.sizeOf289 rfl (ldD rfl rfl xE xM (subN (m := 3) (by exact rfl))) rfl ?_ | refine c_loadN rfl rfl rfl Tryz.isAgg289 Tryz.sizeOf289 rfl (ldDC (k := 0) rfl rfl xE xM subAll) (by first | (simp [ne_length, wlist_length]; done) | rfl) ?_
      refine c_fieldAddr rfl rfl rfl rfl Tryz.underlying291 rfl Tryz.sizeOf3 rfl rfl ?_
      first | refine c_load1 rfl rfl rfl Tryz.isAgg3 rfl (ldD rfl rfl xE xM (sub1 (by exact rfl))) ?_ | refine c_load1 rfl rfl rfl Tryz.isAgg3 rfl (ldDC (k := 0) rfl rfl xE xM (sub1 (by exact rfl))) ?_ | refine c_load1 rfl rfl rfl Tryz.isAgg3 rfl (ldDC rfl rfl xE xM (sub1 (by exact rfl))) ?_
      refine c_call rfl rfl rfl rfl Tryz.call330 (small32_ok _ 7 18 3 w0 _ _ hw1 (by decide) (by decide) (by decide)) (by exact rfl) (by rintro v s r ⟨rfl, rfl, rfl⟩; exact Or.inr xE) ?_
      rintro _ _ _ ⟨rfl, rfl, rfl⟩
      refine n_add rfl rfl rfl rfl rfl rfl rfl ?_
      refine n_add rfl rfl rfl rfl rfl rfl rfl ?_
      refine c_call rfl rfl rfl rfl Tryz.call330 (small32_ok _ 17 19 10 w0 _ _ hw2 (by decide) (by decide) (by decide)) (by exact rfl) (by rintro v s r ⟨rfl, rfl, rfl⟩; exact Or.inr xE) ?_
      rintro _ _ _ ⟨rfl, rfl, rfl⟩
      refine can_forget rfl ?_
      refine n_add rfl rfl rfl rfl rfl rfl rfl ?_
      refine c_indexAddrA1 rfl rfl rfl rfl Tryz.underlying375 Tryz.sizeOf261 rfl rfl xD ?_
      rw [rep_succ (80 - t) (by omega), Nat.sub_sub]
      refine c_store1 rfl rfl rfl Tryz.sizeOf261 rfl rfl Foc.here rfl (by simp [ne_length, wlist_length] <;> omega) (row_put _ _ _ t _ _ _ _ (by omega)) rfl (Or.inl rfl) ?_
      refine can_nil ?_
      refine ps_block_normal ?_
      refine ps_then ?_
      refine cs_seq_region [0, 1, 2] rfl ?_
      refine c_move rfl rfl rfl rfl (by conv => lhs; whnf) ?_
      first | refine c_addI rfl rfl rfl rfl rfl rfl xW ?_ | refine c_add rfl rfl rfl rfl rfl rfl ?_
      refine c_assign rfl rfl rfl rfl (by conv => lhs; whnf) ?_
      refine can_nil ?_
      refine ps_roundS [(9, .int .i64 ((t + 1 : Nat) : Int))] ⟨rfl, trivial⟩ (by repeat (first | exact Mix.base | refine Mix.upd rfl ?_ | refine Mix.upds rfl ?_ | refine Mix.mix rfl ?_ | exact Mix.refl)) (64 - (t + 1)) (by omega) (⟨t + 1, by omega, by omega, rfl, rfl, by rw [wlist, wnext_hi sh32 blk _ (by rw [wlist_length]; omega), wlist_length, List.append_assoc, List.singleton_append], rfl⟩) (.mk xS xS)
    · simp at hc3
      have et : t = 64 := by omega
      subst et
      refine cs_exit ?_
      refine ps_then_exit ?_
      refine ps_then_exit ?_
      refine ps_block_here ?_
      refine ps_then ?_
      refine cs_seq ?_
      refine cs_seq_region [0, 1] rfl ?_
      first | refine c_loadN rfl rfl rfl Tryz.isAgg375 Tryz.sizeOf375 rfl (ldS rfl rfl xM subAll) (by first | (simp [ne_length, wlist_length]; done) | rfl) ?_ | refine c_loadN (cs := [_, _, _, _, _, _, _, _, _, _, _, _, _, _, _, _, _, _, _, _, _, _, _, _, _, _, _, _, _, _, _, _, _, _, _, _, _, _, _, _, _, _, _, _, _, _, _, _, _, _, _, _, _, _, _, _, _, _, _, _, _, _, _, _, _, _, _, _, _, _, _, _, _, _, _, _, _, _, _, _]) rfl rfl rfl Tryz.isAgg375 Tryz.sizeOf375 rfl (ldS rfl rfl xM (subN (m := 80) (by exact rfl))) rfl ?_ | refine c_loadN rfl rfl rfl Tryz.isAgg375 Tryz.sizeOf375 rfl (ldSC (k := 0) rfl rfl xM subAll) (by first | (simp [ne_length, wlist_length]; done) | rfl) ?_
      refine c_storeB rfl rfl rfl Tryz.sizeOf375 rfl rfl xF (by first | (simp [ne_length, wlist_length]; done) | rfl) (by first | (simp [ne_length, wlist_length]; done) | rfl) (by first | exact ne_one _ _ | rfl | simp [Value.oneCell']) (by (try simp only [List.cons_append, List.nil_append]); exact rfl) (Or.inl rfl) ?_
      refine can_nil ?_
      refine ps_then ?_
      refine cs_ret ?_
      apply ps_res1 rfl Tryz.results314 (res_cellN Tryz.isAgg375 Tryz.sizeOf375 rfl xM (by first | (simp [ne_length, wlist_length]; done) | rfl))
      · exact ⟨rfl, rfl, rfl⟩
      · exact (.mk xS xS)

end Go.Proofs.YtmodmjekhlnjpaaGreatDoor
