/- What values in memory read as: rows of bytes, rows of rows, structs; which blocks such a reading hangs on; what stays as it was. No program's text. -/
import Derived.WalkKit
import Derived.Handy
import Derived.WalkSpells
import Derived.Lib.Hide
import Derived.Deep.AppendLies
import Derived.Laws.AppendOwnNone
namespace Go.Proofs.YtoljpnfohlcfaaaGreatDoor
open Go.RowKit

/-- A part of a heap: block k is o. -/
abbrev Hp := Nat → Obj → Prop
/-- The blocks of a world that are let. -/
def hp (w : World) (ok : Hp) : Hp := fun k o => ok k o ∧ w.heap[k]? = some o
/-- Which blocks: none; all; rows of elements of some types; new ones. -/
def noO : Hp := fun _ _ => False
def allO : Hp := fun _ _ => True
def isT (T : List Nat) (o : Obj) : Prop := ∃ cells t fz, o = .cells cells t fz ∧ t ∈ T
def tyO (T : List Nat) : Hp := fun _ o => isT T o

theorem lt_heap {w : World} {k : Nat} {o : Obj} (h : w.heap[k]? = some o) : k < w.heap.size := (Array.getElem?_eq_some_iff.1 h).1
theorem hp_move {w w' : World} {ok ok' : Hp} (h : ∀ k o, ok k o → w.heap[k]? = some o → ok' k o ∧ w'.heap[k]? = some o) : ∀ k o, hp w ok k o → hp w' ok' k o :=
  fun k o ⟨h1, h2⟩ => h k o h1 h2
theorem hp_imp {w : World} {ok ok' : Hp} (h : ∀ k o, ok k o → ok' k o) : ∀ k o, hp w ok k o → hp w ok' k o := fun k o ⟨h1, h2⟩ => ⟨h k o h1, h2⟩
theorem hp_all {w : World} {ok : Hp} : ∀ k o, hp w ok k o → hp w allO k o := fun _ _ h => ⟨trivial, h.2⟩

/-- How data of a Lean type lie in cells. -/
structure Rep (α : Type) where
  sz : Nat
  K : Hp → α → List Value → Prop
  len : ∀ {h x cs}, K h x cs → cs.length = sz
  one : ∀ {h x cs}, K h x cs → ∀ u ∈ cs, u.oneCell' = true
  mono : ∀ {h h' : Hp} {x cs}, (∀ k o, h k o → h' k o) → K h x cs → K h' x cs

/-- Rows of elements in cells, one behind the other. -/
def Reps {α : Type} (d : Rep α) (h : Hp) (xs : List α) (cs : List Value) : Prop :=
  cs.length = xs.length * d.sz ∧ ∀ j x, xs[j]? = some x → d.K h x ((cs.drop (j * d.sz)).take d.sz)

namespace Reps
variable {α : Type} {d : Rep α} {h h' : Hp} {xs : List α} {cs : List Value}
theorem nil (d : Rep α) (h : Hp) : Reps d h [] [] := ⟨by simp, fun j x hj => by simp at hj⟩
theorem mono (hh : ∀ k o, h k o → h' k o) (r : Reps d h xs cs) : Reps d h' xs cs := ⟨r.1, fun j x hj => d.mono hh (r.2 j x hj)⟩
theorem snoc {x : α} {c : List Value} (r : Reps d h xs cs) (hx : d.K h x c) : Reps d h (xs ++ [x]) (cs ++ c) := by
  have hc := d.len hx
  refine ⟨by rw [List.length_append, r.1, hc, List.length_append, List.length_singleton, Nat.add_mul, Nat.one_mul], fun j q hq => ?_⟩
  rcases Nat.lt_or_ge j xs.length with hj | hj
  · rw [List.getElem?_append_left hj] at hq
    have h1 : j * d.sz + d.sz ≤ cs.length := by rw [r.1, ← Nat.succ_mul]; exact Nat.mul_le_mul_right _ hj
    rw [List.drop_append_of_le_length (by omega), List.take_append_of_le_length (by rw [List.length_drop]; omega)]
    exact r.2 j q hq
  · have hj' : j = xs.length := by
      have := (List.getElem?_eq_some_iff.1 hq).1
      rw [List.length_append, List.length_singleton] at this
      omega
    subst hj'
    have hq' : x = q := by simpa using hq
    subst hq'
    rw [← r.1, List.drop_left, ← hc, List.take_length]
    exact hx
theorem app {ys : List α} {cs' : List Value} (r : Reps d h xs cs) (r' : Reps d h ys cs') : Reps d h (xs ++ ys) (cs ++ cs') := by
  refine ⟨by rw [List.length_append, r.1, r'.1, List.length_append, Nat.add_mul], fun j q hq => ?_⟩
  rcases Nat.lt_or_ge j xs.length with hj | hj
  · rw [List.getElem?_append_left hj] at hq
    have h1 : j * d.sz + d.sz ≤ cs.length := by rw [r.1, ← Nat.succ_mul]; exact Nat.mul_le_mul_right _ hj
    rw [List.drop_append_of_le_length (by omega), List.take_append_of_le_length (by rw [List.length_drop]; omega)]
    exact r.2 j q hq
  · rw [List.getElem?_append_right hj] at hq
    have e : j * d.sz = cs.length + (j - xs.length) * d.sz := by rw [r.1, ← Nat.add_mul]; congr 1; omega
    rw [e, List.drop_append, List.drop_eq_nil_of_le (by omega), List.nil_append]
    simpa using r'.2 _ q hq
theorem take (r : Reps d h xs cs) (n : Nat) : Reps d h (xs.take n) (cs.take (n * d.sz)) := by
  refine ⟨by rw [List.length_take, List.length_take, r.1]; rcases Nat.le_total n xs.length with hn | hn
             · rw [Nat.min_eq_left hn, Nat.min_eq_left (Nat.mul_le_mul_right _ hn)]
             · rw [Nat.min_eq_right hn, Nat.min_eq_right (Nat.mul_le_mul_right _ hn)], fun j q hq => ?_⟩
  rw [List.getElem?_take] at hq
  split at hq
  · rename_i hj
    have hk := r.2 j q hq
    have h1 : j * d.sz + d.sz ≤ n * d.sz := by rw [← Nat.succ_mul]; exact Nat.mul_le_mul_right _ hj
    rw [List.drop_take, List.take_take, Nat.min_eq_left (by omega)]
    exact hk
  · cases hq
theorem drop (r : Reps d h xs cs) (n : Nat) : Reps d h (xs.drop n) (cs.drop (n * d.sz)) := by
  refine ⟨by rw [List.length_drop, List.length_drop, r.1, Nat.sub_mul], fun j q hq => ?_⟩
  rw [List.getElem?_drop] at hq
  have hk := r.2 _ q hq
  rw [List.drop_drop, ← Nat.add_mul]
  exact hk
theorem one (r : Reps d h xs cs) : ∀ u ∈ cs, u.oneCell' = true := by
  intro u hu
  obtain ⟨i, hi, rfl⟩ := List.mem_iff_getElem.1 hu
  have hs : 0 < d.sz := by
    rcases Nat.eq_zero_or_pos d.sz with h0 | h0
    · rw [r.1, h0] at hi; simp at hi
    · exact h0
  have hj : i / d.sz < xs.length := by
    rw [Nat.div_lt_iff_lt_mul hs]; rw [r.1] at hi; exact hi
  have hk := r.2 (i / d.sz) _ (List.getElem?_eq_getElem hj)
  refine d.one hk _ ?_
  rw [List.mem_iff_getElem?]
  refine ⟨i % d.sz, ?_⟩
  rw [List.getElem?_take, if_pos (Nat.mod_lt _ hs), List.getElem?_drop, Nat.mul_comm, Nat.div_add_mod]
  exact List.getElem?_eq_getElem hi
end Reps

/-- A slice's address and length: its cells read as xs. -/
def SL {α : Type} (d : Rep α) (h : Hp) (A : Option Addr) (xs : List α) : Prop :=
  xs.length ≤ 9223372036854775807 ∧ (xs ≠ [] → ∃ g off cells e fz cs, A = some ⟨g, off, none⟩ ∧ h g (.cells cells e fz) ∧ Reps d h xs cs ∧ ∀ i u, cs[i]? = some u → cells[off + i]? = some u)

theorem SL.mono {α : Type} {d : Rep α} {h h' : Hp} {A : Option Addr} {xs : List α} (hh : ∀ k o, h k o → h' k o) (s : SL d h A xs) : SL d h' A xs := by
  refine ⟨s.1, fun hx => ?_⟩
  obtain ⟨g, off, cells, e, fz, cs, h1, h2, h3, h4⟩ := s.2 hx
  exact ⟨g, off, cells, e, fz, cs, h1, hh _ _ h2, h3.mono hh, h4⟩
theorem SL.nil {α : Type} (d : Rep α) (h : Hp) (A : Option Addr) : SL d h A [] := ⟨by simp, fun hx => absurd rfl hx⟩

/-- What a slice value reads as. -/
def SV {α : Type} (d : Rep α) (h : Hp) (v : Value) (xs : List α) : Prop := ∃ A c, v = .slice A xs.length c ∧ xs.length ≤ c ∧ (A = none → c = 0) ∧ SL d h A xs
theorem SV.mono {α : Type} {d : Rep α} {h h' : Hp} {v : Value} {xs : List α} (hh : ∀ k o, h k o → h' k o) (s : SV d h v xs) : SV d h' v xs := by
  obtain ⟨A, c, h1, h2, h3, h4⟩ := s
  exact ⟨A, c, h1, h2, h3, h4.mono hh⟩
theorem SV.shape {α : Type} {d : Rep α} {h : Hp} {v : Value} {xs : List α} (s : SV d h v xs) : ∃ A c, v = .slice A xs.length c := by
  obtain ⟨A, c, h1, _⟩ := s
  exact ⟨A, c, h1⟩
theorem SV.nil {α : Type} (d : Rep α) (h : Hp) : SV d h (.slice none 0 0) [] := ⟨none, 0, rfl, Nat.le_refl _, fun _ => rfl, SL.nil _ _ _⟩

namespace Rep
variable {α β : Type}
def scalar (enc : α → Value) (h1 : ∀ x, (enc x).oneCell' = true) (ok : α → Prop) : Rep α where
  sz := 1
  K := fun _ x cs => cs = [enc x] ∧ ok x
  len := fun h => by rw [h.1]; rfl
  one := fun h u hu => by rw [h.1] at hu; rw [List.mem_singleton.1 hu]; exact h1 _
  mono := fun _ h => h
/-- An integer of a kind, within the kind's range. -/
def int (k : IntKind) : Rep Int := scalar (Value.int k) (fun _ => rfl) (fun n => (Lit.int k n).wf = true)
def bool : Rep Bool := scalar Value.bool (fun _ => rfl) (fun _ => True)
def string : Rep ByteArray := scalar Value.string (fun _ => rfl) (fun _ => True)
def slice (d : Rep α) : Rep (List α) where
  sz := 1
  K := fun h xs cs => ∃ v, cs = [v] ∧ SV d h v xs
  len := by rintro h x cs ⟨v, rfl, _⟩; rfl
  one := by rintro h x cs ⟨v, rfl, A, c, rfl, _⟩ u hu; rw [List.mem_singleton.1 hu]; rfl
  mono := by rintro h h' x cs hh ⟨v, rfl, hs⟩; exact ⟨v, rfl, hs.mono hh⟩
def pair (a : Rep α) (b : Rep β) : Rep (α × β) where
  sz := a.sz + b.sz
  K := fun h x cs => ∃ c0 c1, cs = c0 ++ c1 ∧ a.K h x.1 c0 ∧ b.K h x.2 c1
  len := by rintro h x cs ⟨c0, c1, rfl, h0, h1⟩; rw [List.length_append, a.len h0, b.len h1]
  one := by
    rintro h x cs ⟨c0, c1, rfl, h0, h1⟩ u hu
    rcases List.mem_append.1 hu with hu | hu
    · exact a.one h0 u hu
    · exact b.one h1 u hu
  mono := by rintro h h' x cs hh ⟨c0, c1, rfl, h0, h1⟩; exact ⟨c0, c1, rfl, a.mono hh h0, b.mono hh h1⟩
def iso (d : Rep α) (f : β → α) : Rep β where
  sz := d.sz
  K := fun h x cs => d.K h (f x) cs
  len := d.len
  one := d.one
  mono := d.mono
/-- Cells as they are. -/
def raw (n : Nat) : Rep (List Value) where
  sz := n
  K := fun _ x cs => cs = x ∧ x.length = n ∧ ∀ u ∈ x, u.oneCell' = true
  len := by rintro h x cs ⟨rfl, e, _⟩; exact e
  one := by rintro h x cs ⟨rfl, _, e⟩; exact e
  mono := by rintro h h' x cs _ e; exact e
/-- A row of so many elements in place (an array). -/
def arr (d : Rep α) (n : Nat) : Rep (List α) where
  sz := n * d.sz
  K := fun h xs cs => xs.length = n ∧ Reps d h xs cs
  len := by rintro h x cs ⟨rfl, r⟩; exact r.1
  one := by rintro h x cs ⟨_, r⟩; exact r.one
  mono := by rintro h h' x cs hh ⟨e, r⟩; exact ⟨e, r.mono hh⟩
end Rep

abbrev u8 : Rep Int := Rep.int .u8
abbrev bytesR : Rep (List Int) := Rep.slice u8

/-- All of a world's heap. -/
abbrev all (w : World) : Hp := hp w allO
/-- What a slice value reads as in a world. -/
abbrev Reads {α : Type} (d : Rep α) (w : World) (v : Value) (xs : List α) : Prop := SV d (all w) v xs

theorem below_hp {w w' : World} {ok : Hp} (hb : Below w.heap.size w w') : ∀ k o, hp w ok k o → hp w' ok k o := hp_move fun k o h hk => ⟨h, by rw [hb.block k (lt_heap hk)]; exact hk⟩
theorem alloc_hp {w : World} {ok : Hp} (o : Obj) : ∀ k o', hp w ok k o' → hp (w.alloc o) ok k o' := hp_move fun k o' h hk => ⟨h, by rw [Below.heap_alloc w o k (lt_heap hk)]; exact hk⟩
theorem SV.below {α : Type} {d : Rep α} {w w' : World} {v : Value} {xs : List α} {ok : Hp} (s : SV d (hp w ok) v xs) (hb : Below w.heap.size w w') : SV d (hp w' ok) v xs := s.mono (below_hp hb)
theorem SV.alloc {α : Type} {d : Rep α} {w : World} {v : Value} {xs : List α} {ok : Hp} (s : SV d (hp w ok) v xs) (o : Obj) : SV d (hp (w.alloc o) ok) v xs := s.mono (alloc_hp o)
theorem SV.reads {α : Type} {d : Rep α} {w : World} {v : Value} {xs : List α} {ok : Hp} (s : SV d (hp w ok) v xs) : Reads d w v xs := s.mono hp_all

/-- The cells of what reads as a row. -/
theorem SL.cells {α : Type} {d : Rep α} {w : World} {ok : Hp} {A : Option Addr} {xs : List α} (s : SL d (hp w ok) A xs) (hx : xs ≠ []) :
    ∃ g off cs, A = some ⟨g, off, none⟩ ∧ Reps d (hp w ok) xs cs ∧ ∀ i u, cs[i]? = some u → w.cell? ⟨g, off + i, none⟩ = some u := by
  obtain ⟨g, off, cells, e, fz, cs, h1, h2, h3, h4⟩ := s.2 hx
  refine ⟨g, off, cs, h1, h3, fun i u hu => ?_⟩
  simp only [World.cell?, h2.2]
  exact h4 i u hu

/-- One element of what a slice reads as. -/
theorem sv_at {α : Type} {d : Rep α} {w : World} {ok : Hp} {v : Value} {xs : List α} (s : SV d (hp w ok) v xs) (k : Nat) (hk : k < xs.length) :
    ∃ g off c cs, v = .slice (some ⟨g, off, none⟩) xs.length c ∧ d.K (hp w ok) xs[k] cs ∧ cs.length = d.sz ∧ ∀ i u, cs[i]? = some u → w.cell? ⟨g, off + (k * d.sz + i), none⟩ = some u := by
  obtain ⟨A, c, rfl, _, _, h3⟩ := s
  obtain ⟨g, off, cs, rfl, h4, h5⟩ := h3.cells (by intro e; rw [e] at hk; simp at hk)
  have hK := h4.2 k _ (List.getElem?_eq_getElem hk)
  have hl := d.len hK
  refine ⟨g, off, c, _, rfl, hK, hl, fun i u hu => h5 _ u ?_⟩
  rw [List.getElem?_take] at hu
  split at hu
  · rw [List.getElem?_drop] at hu; exact hu
  · cases hu
theorem cell_below {w w' : World} {a : Addr} {v : Value} (h : w.cell? a = some v) (hb : Below w.heap.size w w') : w'.cell? a = some v := (hb.cell (World.block_lt_of_cell? w a h)).trans h
/-- One element of what reads as a row of one-cell integers. -/
theorem SL.int_at {k : IntKind} {w : World} {ok : Hp} {A : Option Addr} {xs : List Int} (s : SL (Rep.int k) (hp w ok) A xs) (i : Nat) (hi : i < xs.length) :
    ∃ g off, A = some ⟨g, off, none⟩ ∧ w.cell? ⟨g, off + i, none⟩ = some (.int k (xs.getD i 0)) ∧ (Lit.int k (xs.getD i 0)).wf = true := by
  obtain ⟨g, off, cs, h1, h2, h3⟩ := s.cells (by intro e; rw [e] at hi; simp at hi)
  refine ⟨g, off, h1, ?_⟩
  have hk := h2.2 i xs[i] (List.getElem?_eq_getElem hi)
  obtain ⟨e1, e2⟩ := hk
  have hg : xs.getD i 0 = xs[i] := by rw [List.getD_eq_getElem?_getD, List.getElem?_eq_getElem hi]; rfl
  rw [hg]
  refine ⟨h3 i _ ?_, e2⟩
  have h0 : ((cs.drop (i * 1)).take 1)[0]? = some (.int k xs[i]) := by
    have e1' : (cs.drop (i * 1)).take 1 = [.int k xs[i]] := e1
    rw [e1']; rfl
  rw [List.getElem?_take, if_pos (by omega), List.getElem?_drop, Nat.mul_one, Nat.add_zero] at h0
  exact h0

/-- THE CALL's OWN ROW: it may be appended to; its elements hang on let blocks other than its own. -/
def Own {α : Type} (d : Rep α) (e : TypeId) (w : World) (B : Nat) (ok : Hp) (v : Value) (xs : List α) : Prop :=
  ∃ inner, w.ownsRow B e d.sz v xs.length inner ∧ Reps d (hp w fun k o => ok k o ∧ some k ≠ v.ownBlock) xs inner

section
variable {α : Type} {d : Rep α} {e : TypeId} {w w' : World} {B : Nat} {ok ok' : Hp} {v : Value} {xs : List α}
theorem Own.nil (d : Rep α) (e : TypeId) (w : World) (B : Nat) (ok : Hp) : Own d e w B ok (.slice none 0 0) [] := ⟨[], World.ownsRow_nil _ _ _ _, Reps.nil _ _⟩
theorem Own.base (h : Own d e w B ok v xs) : ∀ k, v.ownBlock = some k → B ≤ k ∧ k < w.heap.size := by
  obtain ⟨inner, ho, _⟩ := h
  exact ho.lt
theorem Own.move (h : Own d e w B ok v xs) (hm : ∀ k o, (ok k o ∨ v.ownBlock = some k) → w.heap[k]? = some o → w'.heap[k]? = some o) : Own d e w' B ok v xs := by
  obtain ⟨inner, ho, hr⟩ := h
  refine ⟨inner, ?_, hr.mono (hp_move fun k o hk hl => ⟨hk, hm k o (.inl hk.1) hl⟩)⟩
  obtain ⟨h1, h2⟩ := ho
  refine ⟨h1, ?_⟩
  rcases h2 with h2 | ⟨g, cap, cur, rfl, hg, hh, r⟩
  · exact .inl h2
  · exact .inr ⟨g, cap, cur, rfl, hg, hm g _ (.inr rfl) hh, r⟩
theorem Own.below (h : Own d e w B ok v xs) (hb : Below w.heap.size w w') : Own d e w' B ok v xs := h.move fun k o _ hk => by rw [hb.block k (lt_heap hk)]; exact hk
theorem Own.weaken (h : Own d e w B ok v xs) (hk : ∀ k o, ok k o → ok' k o) : Own d e w B ok' v xs := by
  obtain ⟨inner, ho, hr⟩ := h
  exact ⟨inner, ho, hr.mono (hp_imp fun k o h => ⟨hk k o h.1, h.2⟩)⟩
theorem Own.lower {B' : Nat} (h : Own d e w B ok v xs) (hB : B' ≤ B) : Own d e w B' ok v xs := by
  obtain ⟨inner, ⟨h1, h2⟩, hr⟩ := h
  refine ⟨inner, ⟨h1, ?_⟩, hr⟩
  rcases h2 with h2 | ⟨g, cap, cur, rfl, hg, hh, r⟩
  · exact .inl h2
  · exact .inr ⟨g, cap, cur, rfl, Nat.le_trans hB hg, hh, r⟩
theorem Own.alloc (h : Own d e w B ok v xs) (o : Obj) : Own d e (w.alloc o) B ok v xs := h.move fun k o' _ hk => by rw [Below.heap_alloc w o k (lt_heap hk)]; exact hk
theorem Own.drew (h : Own d e w B ok v xs) : Own d e w.drew B ok v xs := h
theorem Own.shape (h : Own d e w B ok v xs) : ∃ A c, v = .slice A xs.length c ∧ xs.length ≤ c ∧ (xs = [] ∨ A ≠ none) := by
  obtain ⟨inner, ⟨h1, h2⟩, hr⟩ := h
  rcases h2 with ⟨rfl, h2⟩ | ⟨g, cap, cur, rfl, hg, hh, hn, _⟩
  · exact ⟨none, 0, by rw [h2], by omega, .inl (List.eq_nil_of_length_eq_zero h2)⟩
  · exact ⟨_, cap, rfl, hn, .inr (by simp)⟩
theorem Own.shape_n (h : Own d e w B ok v xs) (n : Nat) (hn : xs.length = n) : ∃ A c, v = .slice A n c := by
  obtain ⟨A, c, rfl, _⟩ := h.shape
  exact ⟨A, c, by rw [hn]⟩
/-- What is owned can be read. -/
theorem Own.reads (h : Own d e w B ok v xs) : SV d (hp w fun k o => ok k o ∨ v.ownBlock = some k) v xs := by
  obtain ⟨inner, ⟨h1, h2⟩, hr⟩ := h
  rcases h2 with ⟨rfl, h2⟩ | ⟨g, cap, cur, rfl, hg, hh, hn, hm, hc, ht⟩
  · obtain rfl := List.eq_nil_of_length_eq_zero h2
    exact SV.nil _ _
  · refine ⟨_, cap, rfl, hn, fun e => (by cases e), by simp only [maxLen] at hm; omega, fun hx => ⟨g, 0, cur, e, (0, 0), inner, rfl, ⟨.inr rfl, hh⟩, hr.mono (hp_imp fun k o h => .inl h.1), fun i u hu => ?_⟩⟩
    rw [← ht] at hu
    rw [List.getElem?_take] at hu
    split at hu
    · rw [Nat.zero_add, ← Array.getElem?_toList]; exact hu
    · cases hu
theorem Own.readsAll (h : Own d e w B ok v xs) : Reads d w v xs := h.reads.mono hp_all
theorem Own.readsT {T : List Nat} (h : Own d e w B (tyO T) v xs) : SV d (hp w (tyO (e :: T))) v xs := by
  obtain ⟨inner, ⟨h1, h2⟩, hr⟩ := h
  rcases h2 with ⟨rfl, h2⟩ | ⟨g, cap, cur, rfl, hg, hh, hn, hm, hc, ht⟩
  · obtain rfl := List.eq_nil_of_length_eq_zero h2
    exact SV.nil _ _
  · refine ⟨_, cap, rfl, hn, fun e => (by cases e), by simp only [maxLen] at hm; omega, fun hx => ⟨g, 0, cur, e, (0, 0), inner, rfl, ⟨⟨_, _, _, rfl, List.mem_cons_self⟩, hh⟩, hr.mono (hp_imp fun k o h => ?_), fun i u hu => ?_⟩⟩
    · obtain ⟨⟨a, b, c, h3, h4⟩, _⟩ := h
      exact ⟨a, b, c, h3, List.mem_cons_of_mem _ h4⟩
    · rw [← ht] at hu
      rw [List.getElem?_take] at hu
      split at hu
      · rw [Nat.zero_add, ← Array.getElem?_toList]; exact hu
      · cases hu
/-- As an element of another row: one cell. -/
theorem Own.K (h : Own d e w B ok v xs) : (Rep.slice d).K (hp w fun k o => ok k o ∨ v.ownBlock = some k) xs [v] := ⟨v, rfl, h.reads⟩
/-- Behind a write to another row. -/
theorem Own.kept (h : Own d e w B ok v xs) {row : Option Nat} (hg : w.grownBy w' row) (hne : ∀ k o, (ok k o ∨ v.ownBlock = some k) → w.heap[k]? = some o → some k ≠ row) : Own d e w' B ok v xs :=
  h.move fun k o hk hl => by rw [hg.block k (lt_heap hl) (hne k o hk hl)]; exact hl
/-- Behind an append to it: 'news' are the new elements' cells. -/
theorem Own.appended {ys : List α} {news : List Value} {v' : Value} (h : Own d e w B ok v xs) {inner : List Value} (hi : w.ownsRow B e d.sz v xs.length inner) (hin : Reps d (hp w fun k o => ok k o ∧ some k ≠ v.ownBlock) xs inner)
    (hn : Reps d (hp w fun k o => ok k o ∧ some k ≠ v.ownBlock) ys news) (ho : w'.ownsRow B e d.sz v' (xs.length + ys.length) (inner ++ news)) (hg : w.grownBy w' v.ownBlock)
    (hv : ∀ k, v'.ownBlock = some k → v.ownBlock = some k ∨ w.heap.size ≤ k) : Own d e w' B ok v' (xs ++ ys) := by
  refine ⟨inner ++ news, by rw [List.length_append]; exact ho, (hin.app hn).mono ?_⟩
  rintro k o ⟨⟨h1, h2⟩, h3⟩
  have hk : k < w.heap.size := (Array.getElem?_eq_some_iff.1 h3).1
  refine ⟨⟨h1, fun e' => ?_⟩, by rw [hg.block k hk h2]; exact h3⟩
  rcases hv k e'.symm with h4 | h4
  · exact h2 h4.symm
  · omega
end

/-- Of the old blocks none has turned but those of S. -/
structure Turn (S : Nat → Prop) (w w' : World) : Prop where
  os : w'.os = w.os
  tape : w'.tape = w.tape
  output : w'.output = w.output
  size : w.heap.size ≤ w'.heap.size
  block : ∀ k, k < w.heap.size → ¬ S k → w'.heap[k]? = w.heap[k]?
section
variable {S S' : Nat → Prop} {a w w' : World}
theorem Turn.refl (S : Nat → Prop) (w : World) : Turn S w w := ⟨rfl, rfl, rfl, Nat.le_refl _, fun _ _ _ => rfl⟩
theorem Turn.trans {c : World} (h : Turn S a w) (k : Turn S w c) : Turn S a c :=
  ⟨k.os.trans h.os, k.tape.trans h.tape, k.output.trans h.output, Nat.le_trans h.size k.size, fun i hi hn => (k.block i (Nat.lt_of_lt_of_le hi h.size) hn).trans (h.block i hi hn)⟩
theorem Turn.mono (h : Turn S w w') (hs : ∀ k, k < w.heap.size → S k → S' k) : Turn S' w w' := ⟨h.os, h.tape, h.output, h.size, fun k hk hn => h.block k hk fun hS => hn (hs k hk hS)⟩
theorem Turn.drew (h : Turn S a w) : Turn S a w.drew := ⟨h.os, h.tape, h.output, h.size, h.block⟩
theorem Turn.alloc (h : Turn S a w) (o : Obj) : Turn S a (w.alloc o) := h.trans ⟨rfl, rfl, rfl, by simp, fun k hk _ => Below.heap_alloc _ _ _ hk⟩
theorem Turn.setCell (h : Turn S a w) {p : Addr} (hp : S p.block ∨ a.heap.size ≤ p.block) (u : Value) : Turn S a (w.setCell p u) := by
  refine ⟨h.os, h.tape, h.output, by simpa [World.setCell] using h.size, fun k hk hn => ?_⟩
  rw [Below.heap_setCell w p u k (by rintro rfl; exact hp.elim hn (fun hp => by omega))]
  exact h.block k hk hn
theorem below_turnB {B : Nat} (h : Below B w w') : Turn (fun k => B ≤ k) w w' := ⟨h.os, h.tape, h.output, h.size, fun k _ hn => h.block k (by omega)⟩
theorem below_turnAll (h : Below w.heap.size w w') : Turn S w w' := ⟨h.os, h.tape, h.output, h.size, fun k hk _ => h.block k hk⟩
theorem grown_turn {row : Option Nat} (h : w.grownBy w' row) : Turn (fun k => some k = row) w w' := ⟨h.os, h.tape, h.output, h.size, fun k hk hn => h.block k hk hn⟩
theorem Turn.below {B : Nat} (h : Turn S w w') (hB : B ≤ w.heap.size) (hs : ∀ k, S k → B ≤ k) : Below B w w' := ⟨h.os, h.tape, h.output, h.size, fun k hk => h.block k (by omega) fun hS => by have := hs k hS; omega⟩
theorem turn_hp {ok : Hp} (h : Turn S w w') (hok : ∀ k o, w.heap[k]? = some o → ok k o → ¬ S k) : ∀ k o, hp w ok k o → hp w' ok k o := hp_move fun k o hk hl => ⟨hk, by rw [h.block k (lt_heap hl) (hok k o hl hk)]; exact hl⟩
end

/-- A block of the call's own (a box, a struct), whole. -/
def Blk (w : World) (b : Nat) (cs : Array Value) (t : TypeId) : Prop := w.heap[b]? = some (.cells cs t (0, 0))
section
variable {w w' : World} {b : Nat} {cs : Array Value} {t : TypeId}
theorem Blk.cell (h : Blk w b cs t) : ∀ j, w.cell? ⟨b, j, none⟩ = cs[j]? := fun j => cell_of_row w b j cs t _ h
theorem Blk.free (h : Blk w b cs t) : ∀ j, w.frozen? ⟨b, j, none⟩ = false := fun j => frozen_of_row w b j cs t h
theorem Blk.lt (h : Blk w b cs t) : b < w.heap.size := (Array.getElem?_eq_some_iff.1 h).1
theorem Blk.below (h : Blk w b cs t) (hb : Below w.heap.size w w') : Blk w' b cs t := (hb.block b h.lt).trans h
theorem Blk.belowB {B : Nat} (h : Blk w b cs t) (hb : Below B w w') (hB : b < B) : Blk w' b cs t := (hb.block b hB).trans h
theorem Blk.grown {row : Option Nat} (h : Blk w b cs t) (hg : w.grownBy w' row) (hne : some b ≠ row) : Blk w' b cs t := (hg.block b h.lt hne).trans h
theorem Blk.turn {S : Nat → Prop} (h : Blk w b cs t) (hg : Turn S w w') (hne : ¬ S b) : Blk w' b cs t := (hg.block b h.lt hne).trans h
theorem Blk.alloc (h : Blk w b cs t) (o : Obj) : Blk (w.alloc o) b cs t := (Below.heap_alloc w o b h.lt).trans h
theorem Blk.drew (h : Blk w b cs t) : Blk w.drew b cs t := h
theorem Blk.set (h : Blk w b cs t) (i : Nat) (v : Value) : Blk (w.setCell ⟨b, i, none⟩ v) b (cs.setIfInBounds i v) t := heap_setCell_same w b i cs t v h
theorem Blk.far (h : Blk w b cs t) {p : Addr} (hp : b ≠ p.block) (v : Value) : Blk (w.setCell p v) b cs t := (heap_setCell_other w p b v hp).trans h
theorem Blk.new (w : World) (cs : Array Value) (t : TypeId) : Blk (w.alloc (.cells cs t)) w.heap.size cs t := heap_alloc_new w _
end

theorem Own.turn {α : Type} {d : Rep α} {e : TypeId} {w w' : World} {B : Nat} {ok : Hp} {S : Nat → Prop} {v : Value} {xs : List α} (h : Own d e w B ok v xs) (ht : Turn S w w') (hne : ∀ k o, (ok k o ∨ v.ownBlock = some k) → w.heap[k]? = some o → ¬ S k) : Own d e w' B ok v xs :=
  h.move fun k o hk hl => by rw [ht.block k (lt_heap hl) (hne k o hk hl)]; exact hl
theorem Own.turnNew {α : Type} {d : Rep α} {e : TypeId} {w w' : World} {B : Nat} {S : Nat → Prop} {v : Value} {xs : List α} (h : Own d e w B (tyO []) v xs) (ht : Turn S w w') (hS : ∀ k, S k → k < B) : Own d e w' B (tyO []) v xs :=
  h.turn ht fun k o hk _ hs => by
    have h1 := hS k hs
    have h2 := h.base k (hk.resolve_left fun ⟨_, _, _, _, h⟩ => (by cases h))
    omega
theorem Own.typed {α : Type} {d : Rep α} {e : TypeId} {w : World} {B : Nat} {ok : Hp} {v : Value} {xs : List α} {b : Nat} {cs : Array Value} {t : TypeId} (h : Own d e w B ok v xs) (hb : Blk w b cs t) (hne : e ≠ t) : some b ≠ v.ownBlock := by
  obtain ⟨inner, ⟨_, h2⟩, _⟩ := h
  rcases h2 with ⟨rfl, _⟩ | ⟨g, cap, cur, rfl, hg, hh, _⟩
  · simp [Value.ownBlock]
  · intro he
    simp only [Value.ownBlock, Option.some.injEq] at he
    subst he
    rw [Blk, hh] at hb
    injection hb with hb
    injection hb with _ hb
    exact hne hb
/-- Behind writes to one block of another type than all that is read. -/
theorem Own.turnB {α : Type} {d : Rep α} {e : TypeId} {w w' : World} {B : Nat} {T : List Nat} {v : Value} {xs : List α} {b : Nat} {cs cs' : Array Value} {t : TypeId} (h : Own d e w B (tyO T) v xs) (hb : Blk w b cs t) (_hb' : Blk w' b cs' t) (ht : Turn (fun k => k = b) w w') (hne : t ∉ e :: T) : Own d e w' B (tyO T) v xs :=
  h.turn ht fun k o hk hl hs => by
    rcases hk with ⟨cells, t', fz, rfl, ht⟩ | hk
    · rw [hs, hb] at hl
      cases hl
      exact hne (List.mem_cons_of_mem _ ht)
    · exact h.typed hb (fun e => hne (by rw [e]; exact List.mem_cons_self)) (by rw [← hs, hk])
/-- What lies in rows of other types is none of its row. -/
theorem Own.apart {α : Type} {d : Rep α} {e : TypeId} {w : World} {B : Nat} {ok : Hp} {v : Value} {xs : List α} {T : List Nat} (h : Own d e w B ok v xs) (hne : e ∉ T) : ∀ k o, hp w (tyO T) k o → hp w (fun k o => tyO T k o ∧ some k ≠ v.ownBlock) k o :=
  hp_move fun k o hk hl => ⟨⟨hk, fun hs => by
    obtain ⟨inner, ⟨_, h2⟩, _⟩ := h
    rcases h2 with ⟨rfl, _⟩ | ⟨g, cap, cur, rfl, hgB, hh, _⟩
    · simp [Value.ownBlock] at hs
    · simp only [Value.ownBlock, Option.some.injEq] at hs
      subst hs
      obtain ⟨cells, t', fz, rfl, ht⟩ := hk
      rw [hh] at hl; cases hl
      exact hne ht⟩, hl⟩
/-- A store into a block of another type than all that is read. -/
theorem Own.store {α : Type} {d : Rep α} {e : TypeId} {w : World} {B : Nat} {T : List Nat} {v : Value} {xs : List α} {b : Nat} {cs : Array Value} {t : TypeId} (h : Own d e w B (tyO T) v xs) (hb : Blk w b cs t) (hne : t ∉ e :: T) (i : Nat) (u : Value) : Own d e (w.setCell ⟨b, i, none⟩ u) B (tyO T) v xs :=
  h.turn ((Turn.refl (fun k => k = b) w).setCell (.inl rfl) u) fun k o hk hl hs => by
    rcases hk with ⟨cells, t', fz, rfl, ht⟩ | hk
    · rw [hs, hb] at hl
      cases hl
      exact hne (List.mem_cons_of_mem _ ht)
    · exact h.typed hb (fun e => hne (by rw [e]; exact List.mem_cons_self)) (by rw [← hs, hk])
/-- Behind a write to a row of elements of another type than all that is read. -/
theorem Own.far {α β : Type} {d : Rep α} {d' : Rep β} {e e' : TypeId} {w w' : World} {B B' : Nat} {T : List Nat} {ok : Hp} {v v' : Value} {xs : List α} {ys : List β} (h : Own d e w B (tyO T) v xs) (h' : Own d' e' w B' ok v' ys) (hg : w.grownBy w' v'.ownBlock) (hne : e' ∉ e :: T) : Own d e w' B (tyO T) v xs :=
  h.kept hg fun k o hk hl hs => by
    obtain ⟨inner, ⟨_, h2⟩, _⟩ := h'
    rcases h2 with ⟨rfl, _⟩ | ⟨g, cap, cur, rfl, hgB, hh, _⟩
    · simp [Value.ownBlock] at hs
    · simp only [Value.ownBlock, Option.some.injEq] at hs
      subst hs
      rcases hk with ⟨cells, t', fz, rfl, ht⟩ | hk
      · rw [hh] at hl; cases hl
        exact hne (List.mem_cons_of_mem _ ht)
      · exact h.typed (b := k) (cs := cur) (t := e') hh (fun e => hne (by rw [e]; exact List.mem_cons_self)) hk.symm
/-- What is read in rows of some types stays behind a write to a row of another type. -/
theorem sv_far {α β : Type} {d : Rep α} {d' : Rep β} {e' : TypeId} {w w' : World} {B' : Nat} {T : List Nat} {ok : Hp} {v v' : Value} {xs : List α} {ys : List β} (h : SV d (hp w (tyO T)) v xs) (h' : Own d' e' w B' ok v' ys) (hg : w.grownBy w' v'.ownBlock) (hne : e' ∉ T) : SV d (hp w' (tyO T)) v xs :=
  h.mono (hp_move fun k o hk hl => ⟨hk, by
    rw [hg.block k (lt_heap hl) fun hs => ?_]; exact hl
    obtain ⟨inner, ⟨_, h2⟩, _⟩ := h'
    rcases h2 with ⟨rfl, _⟩ | ⟨g, cap, cur, rfl, hgB, hh, _⟩
    · simp [Value.ownBlock] at hs
    · simp only [Value.ownBlock, Option.some.injEq] at hs
      subst hs
      obtain ⟨cells, t', fz, rfl, ht⟩ := hk
      rw [hh] at hl; cases hl
      exact hne ht⟩)
theorem sv_store {α : Type} {d : Rep α} {w : World} {T : List Nat} {v : Value} {xs : List α} {b : Nat} {cs : Array Value} {t : TypeId} (h : SV d (hp w (tyO T)) v xs) (hb : Blk w b cs t) (hne : t ∉ T) (i : Nat) (u : Value) : SV d (hp (w.setCell ⟨b, i, none⟩ u) (tyO T)) v xs :=
  h.mono (hp_move fun k o hk hl => ⟨hk, by
    rw [Below.heap_setCell w _ u k fun hs => ?_]; exact hl
    obtain ⟨cells, t', fz, rfl, ht⟩ := hk
    have hs' : k = b := hs
    subst hs'
    rw [hb] at hl; cases hl
    exact hne ht⟩)
/-- A literal row. -/
theorem Own.lit {α : Type} {d : Rep α} {e : TypeId} {B : Nat} {ok ok' : Hp} {xs : List α} {inner : List Value} (w : World) (hr : Reps d (hp w ok') xs inner) (hB : B ≤ w.heap.size) (hk : ∀ k o, ok' k o → ok k o := by exact fun _ _ h => h) (hm : xs.length ≤ 9223372036854775807 := by simp) :
    Own d e (w.alloc (.cells inner.toArray e)) B ok (.slice (some ⟨w.heap.size, 0, none⟩) xs.length xs.length) xs := by
  refine ⟨inner, by simpa using World.ownsRow_lit (base := B) (e := e) (size := d.sz) w inner.toArray xs.length hB (by simpa [maxLen] using hm) (by simpa using hr.1), hr.mono (hp_move fun k o h hl => ⟨⟨hk k o h, ?_⟩, by rw [Below.heap_alloc w _ k (lt_heap hl)]; exact hl⟩)⟩
  have := lt_heap hl
  simp only [Value.ownBlock, ne_eq, Option.some.injEq]
  omega
/-- Behind an append: nothing old has turned. -/
theorem below_app {B : Nat} {w0 W w' : World} {row : Option Nat} (hb : Below B w0 W) (hg : W.grownBy w' row) (hr : ∀ k, row = some k → B ≤ k) (hB : B ≤ W.heap.size) : Below B w0 w' := hb.grown hg hB hr
theorem row_new {B g : Nat} {n c : Nat} (h : B ≤ g) : ∀ k, (Value.slice (some ⟨g, 0, none⟩) n c).ownBlock = some k → B ≤ k := by
  intro k hk
  simp only [Value.ownBlock, Option.some.injEq] at hk
  omega

theorem alloc_at {w : World} {o : Obj} {n : Nat} (h : w.heap.size = n) : (w.alloc o).heap[n]? = some o := by subst h; exact heap_alloc_new _ _
/-- A slice over a block that is known whole. -/
theorem sv_blk {α : Type} {d : Rep α} {w : World} {g n : Nat} {cs : Array Value} {e : TypeId} {fz : Nat × Nat} {ok : Hp} {xs : List α} (hg : w.heap[g]? = some (.cells cs e fz)) (hk : ok g (.cells cs e fz)) (hr : Reps d (hp w ok) xs cs.toList) (hn : xs.length = n) (hm : n ≤ 9223372036854775807) : SV d (hp w ok) (.slice (some ⟨g, 0, none⟩) n n) xs := by
  subst hn
  exact ⟨_, _, rfl, Nat.le_refl _, fun e => (by cases e), hm, fun _ => ⟨g, 0, cs, e, fz, cs.toList, rfl, ⟨hk, hg⟩, hr, fun i u hu => by rw [Nat.zero_add, ← Array.getElem?_toList]; exact hu⟩⟩
theorem Reps.one1 {α : Type} {d : Rep α} {h : Hp} {x : α} {cs : List Value} (hk : d.K h x cs) : Reps d h [x] cs := by
  have := (Reps.nil d h).snoc hk
  simpa using this
/-- What make lays: the zero value so many times. -/
theorem Reps.made {α : Type} {d : Rep α} {h : Hp} {x : α} (z : Array Value) (n : Nat) (hz : z.size = d.sz) (h0 : 0 < d.sz) (hk : d.K h x z.toList) : Reps d h (List.replicate n x) (madeCells z (n * d.sz)).toList := by
  refine ⟨by simp [size_madeCells], fun j y hj => ?_⟩
  have hjn : j < n := by
    have := (List.getElem?_eq_some_iff.1 hj).1
    simpa using this
  have hy : x = y := by simpa [List.getElem?_replicate, hjn] using hj
  subst hy
  have e : ((madeCells z (n * d.sz)).toList.drop (j * d.sz)).take d.sz = z.toList := by
    apply List.ext_getElem?
    intro i
    rw [List.getElem?_take]
    by_cases hi : i < d.sz
    · rw [if_pos hi, List.getElem?_drop]
      have hlt : j * d.sz + i < n * d.sz := by
        have : j * d.sz + d.sz ≤ n * d.sz := by rw [← Nat.succ_mul]; exact Nat.mul_le_mul_right _ hjn
        omega
      have hiz : i < z.size := by omega
      simp only [madeCells, Array.toList_map, List.getElem?_map, Array.toList_range, List.getElem?_range hlt, Option.map_some, hz]
      rw [Nat.add_comm, Nat.mul_comm, Nat.add_mul_mod_self_left, Nat.mod_eq_of_lt hi, getElem!_pos z i hiz]
      simp [hiz]
    · rw [if_neg hi]
      simp; omega
  rw [e]
  exact hk
theorem run_mk {P : Program} {t e : TypeId} {z : Value} {sz bytes : Nat} (ht : P.underlying t = some (.slice e)) (hinfo : (P.info? e).map (fun i => (i.zero, i.size, i.bytes)) = some (some z, sz, bytes)) (n : Nat) (hb : bytes * n ≤ 281474976710656) (h63 : n ≤ 9223372036854775807) :
    ∀ W : World, (Instr.makeSlice t (.int .i64 (n : Int)) (.int .i64 (n : Int))).run P W = .ok (.slice (some ⟨W.heap.size, 0, none⟩) n n) (W.alloc (.cells (madeCells z.cells (n * sz)) e)) := by
  intro W
  obtain ⟨i, hi, hz, hs, hby⟩ := info_parts hinfo
  have hb' : (i.bytes : Int) * (n : Int) ≤ 281474976710656 := by
    rw [hby]
    have h : ((bytes * n : Nat) : Int) ≤ 281474976710656 := by omega
    rwa [Int.natCast_mul] at h
  have hr := run_make (P := P) W t e i z ht hi hz .i64 .i64 n n (by omega) (Int.le_refl _) hb' (by omega)
  simp only [Int.toNat_natCast, hs] at hr
  exact hr

/-- A slice type, its elements' type, their cells and bytes, in a program's table. -/
def STy (P : Program) (t e : TypeId) (sz bytes : Nat) : Prop :=
  P.underlying t = some (.slice e) ∧ 0 < sz ∧ 0 < bytes ∧ ∃ i z, P.info? e = some i ∧ i.zero = some z ∧ i.size = sz ∧ i.bytes = bytes ∧ z.cells.size = sz
theorem STy.mk {P : Program} {t e : TypeId} {z : Value} {sz bytes : Nat} (h : P.underlying t = some (.slice e)) (hi : (P.info? e).map (fun i => (i.zero, i.size, i.bytes)) = some (some z, sz, bytes)) (hz : z.cells.size = sz) (h0 : 0 < sz) (h1 : 0 < bytes) : STy P t e sz bytes := by
  obtain ⟨i, h2, h3, h4, h5⟩ := info_parts hi
  exact ⟨h, h0, h1, i, z, h2, h3, h4, h5, hz⟩

/-- What is to be appended: a slice value whose cells can be read. -/
def Src {α : Type} (d : Rep α) (w : World) (h : Hp) (x : Value) (ys : List α) : Prop :=
  ∃ A c, x = .slice A ys.length c ∧ (A = none → c = 0) ∧ ys.length ≤ c ∧ ∃ news, Reps d h ys news ∧ ∀ ad, A = some ad → ∀ j u, news[j]? = some u → w.cell? (ad.add j) = some u
theorem SV.src {α : Type} {d : Rep α} {w : World} {ok : Hp} {x : Value} {ys : List α} (s : SV d (hp w ok) x ys) : Src d w (hp w ok) x ys := by
  obtain ⟨A, c, rfl, h1, h2, h3⟩ := s
  by_cases hy : ys = []
  · subst hy
    exact ⟨A, c, rfl, h2, h1, [], Reps.nil _ _, fun ad _ j u hu => by simp at hu⟩
  · obtain ⟨g, off, cs, rfl, h4, h5⟩ := h3.cells hy
    refine ⟨_, c, rfl, h2, h1, cs, h4, fun ad had j u hu => ?_⟩
    cases had
    rw [Addr.add_lit]
    exact h5 j u hu
theorem Src.mono {α : Type} {d : Rep α} {w : World} {h h' : Hp} {x : Value} {ys : List α} (hh : ∀ k o, h k o → h' k o) (s : Src d w h x ys) : Src d w h' x ys := by
  obtain ⟨A, c, h1, h2, h3, news, h4, h5⟩ := s
  exact ⟨A, c, h1, h2, h3, news, h4.mono hh, h5⟩
/-- Numbers hang on no block. -/
theorem Reps.scalar_any {α : Type} {enc : α → Value} {h1 : ∀ x, (enc x).oneCell' = true} {ok : α → Prop} {h h' : Hp} {xs : List α} {cs : List Value} (r : Reps (Rep.scalar enc h1 ok) h xs cs) : Reps (Rep.scalar enc h1 ok) h' xs cs := r
theorem Src.scalar_any {α : Type} {enc : α → Value} {h1 : ∀ x, (enc x).oneCell' = true} {ok : α → Prop} {w : World} {h h' : Hp} {x : Value} {ys : List α} (s : Src (Rep.scalar enc h1 ok) w h x ys) : Src (Rep.scalar enc h1 ok) w h' x ys := s
/-- One element, in a block of its own. -/
theorem Src.one {α : Type} {d : Rep α} {w : World} {h : Hp} {g : Nat} {y : α} {cs : List Value} {t : TypeId} {fz : Nat × Nat} (hg : w.heap[g]? = some (.cells cs.toArray t fz)) (hk : d.K h y cs) : Src d w h (.slice (some ⟨g, 0, none⟩) 1 1) [y] := by
  refine ⟨_, 1, rfl, fun e => (by cases e), Nat.le_refl _, cs, ?_, fun ad had j u hu => ?_⟩
  · have := (Reps.nil d h).snoc hk
    simpa using this
  · cases had
    rw [Addr.add_lit, Nat.zero_add]
    simp only [World.cell?, hg]
    simpa using hu

section
variable {P : Program} {α : Type} {d : Rep α} {t e : TypeId} {bytes : Nat} {W : World} {B : Nat} {ok : Hp} {v x : Value} {xs ys : List α}
theorem run_app (hT : STy P t e d.sz bytes) (ho : Own d e W B ok v xs) (hs : Src d W (hp W fun k o => ok k o ∧ some k ≠ v.ownBlock) x ys) (hl : (xs.length + ys.length) * bytes ≤ 140737488355328) (hB : B ≤ W.heap.size) (ty : TypeId) :
    ∃ v' w', (Builtin.append_ #[t, t] ty #[v, x]).run P W = .ok v' w' ∧ Own d e w' B ok v' (xs ++ ys) ∧ W.grownBy w' v.ownBlock ∧ (v'.ownBlock = v.ownBlock ∨ v'.ownBlock = some W.heap.size) := by
  obtain ⟨ht, h0, hb0, i, z, hi, hz, hsz, hby, hzs⟩ := hT
  obtain ⟨inner, hin, hr⟩ := ho
  obtain ⟨A, c, rfl, hA, hc, news, hn, hcell⟩ := hs
  have hlen : xs.length + ys.length ≤ maxLen := by
    have := Nat.le_mul_of_pos_right (xs.length + ys.length) hb0
    simp only [maxLen]; omega
  cases A with
  | none =>
    have hy : ys = [] := List.eq_nil_of_length_eq_zero (by have := hA rfl; omega)
    subst hy
    have hc0 := hA rfl
    subst hc0
    have hrun := run_append_owned_none (P := P) (w := W) B t ty e i d.sz ht hi v xs.length inner hin
    exact ⟨v, W, hrun, by rw [List.append_nil]; exact ⟨inner, hin, hr⟩, World.grownBy.refl _ _, .inl rfl⟩
  | some ad =>
    obtain ⟨v', w', hrun, h2, h3, _, h5⟩ := run_append_own_at (P := P) W B t ty e i z d.sz bytes ht hi hz hsz hby hzs h0 v xs.length inner hin ad ys.length c news hn.1 (hcell ad rfl) hn.one hlen hl hB
    refine ⟨v', w', hrun, Own.appended ⟨inner, hin, hr⟩ hin hr hn h2 h3 fun k hk => ?_, h3, h5⟩
    rcases h5 with h5 | h5
    · exact .inl (h5 ▸ hk)
    · rw [h5] at hk; cases hk; exact .inr (Nat.le_refl _)
theorem wp_app {o : Oper} {a : Act} {K : Act → World → Prop} {Q : Exit → Act → World → Prop} (s y : Operand)
    (hop : o.op = .call { callee := .builtin .append, args := #[s, y], argTypes := #[t, t] }) (hT : STy P t e d.sz bytes) (hs : a.eval s = v) (hy : a.eval y = x)
    (ho : Own d e W B ok v xs) (hsrc : Src d W (hp W fun k o => ok k o ∧ some k ≠ v.ownBlock) x ys) (hl : (xs.length + ys.length) * bytes ≤ 140737488355328) (hB : B ≤ W.heap.size)
    (h : ∀ v' w', Own d e w' B ok v' (xs ++ ys) → W.grownBy w' v.ownBlock → (v'.ownBlock = v.ownBlock ∨ v'.ownBlock = some W.heap.size) → K (a.put o.dst v') w') : o.wp P a W K Q := by
  obtain ⟨v', w', hr, h2, h3, h4⟩ := run_app (P := P) hT ho hsrc hl hB o.type
  unfold Oper.wp execOp
  simp only [hop, resolve, invoke, builtin, Sem.run_bind, Sem.run_pure, Result.andThen_ok, List.map_toArray, List.map_cons, List.map_nil, hs, hy, hr]
  exact h v' w' h2 h3 h4
theorem wpList_app {ops : Array Oper} {rest : List Oper} {o : Oper} {a : Act} {Q : Exit → Act → World → Prop} (hgd : o.guard = none) (s y : Operand)
    (hop : o.op = .call { callee := .builtin .append, args := #[s, y], argTypes := #[t, t] }) (hT : STy P t e d.sz bytes) (hs : a.eval s = v) (hy : a.eval y = x)
    (ho : Own d e W B ok v xs) (hsrc : Src d W (hp W fun k o => ok k o ∧ some k ≠ v.ownBlock) x ys) (hl : (xs.length + ys.length) * bytes ≤ 140737488355328) (hB : B ≤ W.heap.size)
    (h : ∀ v' w', Own d e w' B ok v' (xs ++ ys) → W.grownBy w' v.ownBlock → (v'.ownBlock = v.ownBlock ∨ v'.ownBlock = some W.heap.size) → wpList P ops Q rest (a.put o.dst v') w') : wpList P ops Q (o :: rest) a W :=
  wpList_plain hgd fun _ hK => wp_app s y hop hT hs hy ho hsrc hl hB fun v' w' h2 h3 h4 => hK _ _ (h v' w' h2 h3 h4)
theorem step_app {ops : Array Oper} {o : Oper} {a : Act} {K : Act → World → Prop} {Q : Exit → Act → World → Prop} {E : Prop} (hgd : o.guard = none) (s y : Operand)
    (hop : o.op = .call { callee := .builtin .append, args := #[s, y], argTypes := #[t, t] }) (hT : STy P t e d.sz bytes) (hs : a.eval s = v) (hy : a.eval y = x)
    (ho : Own d e W B ok v xs) (hsrc : Src d W (hp W fun k o => ok k o ∧ some k ≠ v.ownBlock) x ys) (hl : (xs.length + ys.length) * bytes ≤ 140737488355328) (hB : B ≤ W.heap.size)
    (h : ∀ v' w', Own d e w' B ok v' (xs ++ ys) → W.grownBy w' v.ownBlock → (v'.ownBlock = v.ownBlock ∨ v'.ownBlock = some W.heap.size) → K (a.put o.dst v') w') :
    if Region.wanted o (yielded ops a.tmps) = true then Oper.wp P o a W K Q else E := by
  have hw : Region.wanted o (yielded ops a.tmps) = true := by simp [Region.wanted, hgd]
  rw [if_pos hw]
  exact wp_app s y hop hT hs hy ho hsrc hl hB h
end
end Go.Proofs.YtoljpnfohlcfaaaGreatDoor
