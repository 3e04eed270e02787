/- A region that draws its order, taken in one order: what only reads may be taken first as long as what it reads stands, that is till number K comes up. No program's text. -/
import Derived.OrdersHeld
import Derived.Deep.RegionHeld3
namespace Go.Proofs.YtoljpnfohlcfaaaGreatDoor

section
variable {P : Program} {ops : Array Oper} {Q : Exit → Act → World → Prop} {md : Region.Mode} {K : Nat} {C : World → Prop}

/-- Whatever comes up next; behind it C holds, as long as number K has not come up. -/
def wpAnyC (P : Program) (md : Region.Mode) (ops : Array Oper) (Q : Exit → Act → World → Prop) (K : Nat) (C : World → Prop) : Nat → Array Bool → Act → World → Prop
  | 0, listed, a, w => Region.ready md ops listed = [] ∧ Q .normal a w
  | fuel + 1, listed, a, w =>
    (Region.ready md ops listed = [] → Q .normal a w) ∧
    ∀ i ∈ Region.ready md ops listed, wpOp P ops Q i (fun a' w' => ((listed.setIfInBounds i true).getD K true = false → C w') ∧ wpAnyC P md ops Q K C fuel (listed.setIfInBounds i true) a' w') a w

theorem wpAny_of_C : ∀ (fuel : Nat) (listed : Array Bool) (a : Act) (w : World), wpAnyC P md ops Q K C fuel listed a w → wpAny P md ops Q fuel listed a w
  | 0, _, _, _, h => h
  | fuel + 1, _, _, _, h => ⟨h.1, fun i hi => wpOp_mono (fun a' w' h' => wpAny_of_C fuel _ a' w' h'.2) (h.2 i hi)⟩

/-- What is listed has all listed that it waits for. -/
def closed (md : Region.Mode) (ops : Array Oper) (listed : Array Bool) : Prop := ∀ (j : Nat) (o : Oper) (e : Edge), ops[j]? = some o → listed.getD j false = true → e ∈ o.after → Region.binds md e = true → listed.getD e.on false = true
def closedB (md : Region.Mode) (ops : Array Oper) (listed : Array Bool) : Bool := (List.range ops.size).all fun j => !listed.getD j false || ((ops[j]?).map (·.after.all fun e => !Region.binds md e || listed.getD e.on false)).getD true
theorem closed_of {listed : Array Bool} (h : closedB md ops listed = true) : closed md ops listed := by
  intro j o e ho hj he hb
  have h1 := List.all_eq_true.1 h j (List.mem_range.2 (Array.getElem?_eq_some_iff.1 ho).1)
  simp only [hj, Bool.not_true, Bool.false_or, ho, Option.map_some, Option.getD_some, Array.all_eq_true] at h1
  obtain ⟨n, hn, rfl⟩ := Array.mem_iff_getElem.1 he
  have h2 := h1 n hn
  simpa [hb] using h2
theorem closed_set {listed : Array Bool} {j : Nat} (h : closed md ops listed) (hj : j ∈ Region.ready md ops listed) : closed md ops (listed.setIfInBounds j true) := by
  intro k o e ho hk he hb
  by_cases hjk : j = k
  · subst hjk
    obtain ⟨_, o', ho', hall⟩ := mem_ready.1 hj
    rw [ho] at ho'
    cases ho'
    exact getD_set_true (hall e he hb)
  · exact getD_set_true (h k o e ho (by rwa [getD_set_ne false hjk] at hk) he hb)

/-- Number i stands ahead of number K, in so many steps at most. -/
def aheadT (md : Region.Mode) (ops : Array Oper) : Nat → Nat → Nat → Bool
  | 0, _, _ => false
  | f + 1, i, K => ((ops[K]?).map fun o => o.after.any fun e => Region.binds md e && (e.on == i || aheadT md ops f i e.on)).getD false
theorem ahead_listed {listed : Array Bool} (hcl : closed md ops listed) {i : Nat} : ∀ (f K : Nat), aheadT md ops f i K = true → listed.getD K false = true → listed.getD i false = true
  | 0, K, h, _ => by cases h
  | f + 1, K, h, hK => by
    simp only [aheadT] at h
    cases ho : ops[K]? with
    | none => simp [ho] at h
    | some o =>
      simp only [ho, Option.map_some, Option.getD_some, Array.any_eq_true, Bool.and_eq_true, Bool.or_eq_true, beq_iff_eq] at h
      obtain ⟨n, hn, hb, he⟩ := h
      have h1 := hcl K o _ ho hK (Array.getElem_mem hn) hb
      rcases he with he | he
      · rw [he] at h1; exact h1
      · exact ahead_listed hcl f _ he h1
def aheadOf (md : Region.Mode) (ops : Array Oper) (i K : Nat) : Bool := aheadT md ops 12 i K
theorem ready_not_ahead {listed : Array Bool} {i K : Nat} (hcl : closed md ops listed) (ha : aheadOf md ops i K = true) (hi : i ∈ Region.ready md ops listed) : K ∉ Region.ready md ops listed := by
  intro hK
  obtain ⟨_, oK, hoK, hall⟩ := mem_ready.1 hK
  have h0 := (mem_ready.1 hi).1
  have key : listed.getD i false = true := by
    simp only [aheadOf, aheadT, hoK, Option.map_some, Option.getD_some, Array.any_eq_true, Bool.and_eq_true, Bool.or_eq_true, beq_iff_eq] at ha
    obtain ⟨n, hn, hb, he⟩ := ha
    have h1 := hall _ (Array.getElem_mem hn) hb
    rcases he with he | he
    · rw [he] at h1; exact h1
    · exact ahead_listed hcl 11 _ he h1
  rcases Nat.lt_or_ge i listed.size with h' | h'
  · simp [h'] at h0 key; rw [h0] at key; cases key
  · simp [Array.getElem?_eq_none h'] at key

theorem wpAnyC_first {i : Nat} {oi : Oper} {v : Value} (hi : ops[i]? = some oi) (hsel : ∀ (j : Nat) (o : Oper) cs b, ops[j]? = some o → o.op ≠ .select cs b)
    (hQ : ∀ c a w, Q (.panic c) (a.put oi.dst v) w → Q (.panic c) a w) (hKi : i ≠ K) (D : World → Prop) (hD : (aheadOf md ops i K = true ∧ D = C) ∨ D = fun _ => True) :
    ∀ (fuel : Nat) (listed : Array Bool) (a : Act) (w : World),
      (∀ j oj, ops[j]? = some oj → j ≠ i → listed.getD j true = false → (∀ e ∈ oj.after, Region.binds md e = true → e.on ≠ i) → oi.apart ops oj = true) →
      closed md ops listed → i ∈ Region.ready md ops listed → (aheadOf md ops i K = true → listed.getD K true = false) → YieldsIf P ops D oi v a → D w → (listed.getD K true = false → C w) →
      wpAnyC P md ops Q K C fuel (listed.setIfInBounds i true) (a.put oi.dst v) w → wpAnyC P md ops Q K C (fuel + 1) listed a w := by
  intro fuel
  induction fuel with
  | zero =>
    intro listed a w _ _ hr _ hy hDw hC H
    refine ⟨fun h => (by rw [h] at hr; cases hr), fun j hj => ?_⟩
    by_cases hji : j = i
    · subst hji; exact hy.wpOp hi hDw ⟨by rw [getD_set_ne true hKi]; exact hC, H⟩
    · have := ready_mono hj hji
      rw [H.1] at this
      cases this
  | succ fuel ih =>
    intro listed a w hfree hcl hr hah hy hDw hC H
    refine ⟨fun h => (by rw [h] at hr; cases hr), fun j hj => ?_⟩
    by_cases hji : j = i
    · subst hji; exact hy.wpOp hi hDw ⟨by rw [getD_set_ne true hKi]; exact hC, H⟩
    · have h1 := H.2 j (ready_mono hj hji)
      obtain ⟨hjun, oj, hoj, hall⟩ := mem_ready.1 hj
      have hnot : ∀ e ∈ oj.after, Region.binds md e = true → e.on ≠ i := fun e he hb heq => by
        have h1 := hall e he hb
        have h0 := (mem_ready.1 hr).1
        rw [heq] at h1
        rcases Nat.lt_or_ge i listed.size with h' | h'
        · simp [h'] at h0 h1; rw [h0] at h1; cases h1
        · simp [Array.getElem?_eq_none h'] at h1
      have h2 := wpOp_putIf hoj (hfree j oj hoj hji hjun hnot) (fun cs b => hsel i oi cs b hi) (fun cs b => hsel j oj cs b hoj) hQ hy h1
      have hfree' : ∀ k ok, ops[k]? = some ok → k ≠ i → (listed.setIfInBounds j true).getD k true = false →
          (∀ e ∈ ok.after, Region.binds md e = true → e.on ≠ i) → oi.apart ops ok = true := fun k ok hk hki hun hno => by
        refine hfree k ok hk hki ?_ hno
        by_cases hjk : j = k
        · subst hjk; exact hjun
        · rw [getD_set_ne true hjk] at hun; exact hun
      have hah' : aheadOf md ops i K = true → (listed.setIfInBounds j true).getD K true = false := fun h => by
        have hjK : j ≠ K := fun e => ready_not_ahead hcl h hr (e ▸ hj)
        rw [getD_set_ne true hjK]; exact hah h
      refine wpOp_mono (fun a' w' h3 => ?_) h2
      have hCw : (listed.setIfInBounds j true).getD K true = false → C w' := fun h => h3.2.1 (by
        rw [Array.setIfInBounds_comm _ _ (Ne.symm hji), getD_set_ne true hKi]; exact h)
      refine ⟨hCw, ih (listed.setIfInBounds j true) a' w' hfree' (closed_set hcl hj) (ready_mono hr (Ne.symm hji)) hah' h3.1 ?_ hCw ?_⟩
      · rcases hD with ⟨h, rfl⟩ | rfl
        · exact hCw (hah' h)
        · trivial
      · rw [Array.setIfInBounds_comm _ _ hji]
        exact h3.2.2

/-- Take number i first: it reads what C says, and number K waits for it. -/
theorem wpAnyC_take {i : Nat} {oi : Oper} {v : Value} (dst : Option Tmp) {fuel : Nat} {listed : Array Bool} {a : Act} {w : World} (hi : ops[i]? = some oi) (hdst : oi.dst = dst)
    (hs : Region.noSelect ops = true) (hf : Region.free md ops listed i = true) (hr : (Region.ready md ops listed).contains i = true)
    (hQ : ∀ c a w, Q (.panic c) (a.put oi.dst v) w → Q (.panic c) a w) (ha : aheadOf md ops i K = true) (hcl : closedB md ops listed = true) (hK : listed.getD K true = false) (hKi : (i == K) = false) (hy : YieldsIf P ops C oi v a) (hC : C w)
    (h : wpAnyC P md ops Q K C fuel (listed.setIfInBounds i true) (a.put dst v) w) : wpAnyC P md ops Q K C (fuel + 1) listed a w := by
  subst hdst
  exact wpAnyC_first hi (Region.noSelect_spec hs) hQ (by simpa using hKi) C (.inl ⟨ha, rfl⟩) fuel listed a w (Region.free_spec hi hf) (closed_of hcl) (by simpa using hr) (fun _ => hK) hy hC (fun _ => hC) h
/-- Take number i first: it reads nothing. -/
theorem wpAnyC_pure {i : Nat} {oi : Oper} {v : Value} (dst : Option Tmp) {fuel : Nat} {listed : Array Bool} {a : Act} {w : World} (hi : ops[i]? = some oi) (hdst : oi.dst = dst)
    (hs : Region.noSelect ops = true) (hf : Region.free md ops listed i = true) (hr : (Region.ready md ops listed).contains i = true)
    (hQ : ∀ c a w, Q (.panic c) (a.put oi.dst v) w → Q (.panic c) a w) (hcl : closedB md ops listed = true) (hK : (!aheadOf md ops i K || !listed.getD K true) = true) (hKi : (i == K) = false) (hy : YieldsIf P ops (fun _ => True) oi v a) (hC : listed.getD K true = false → C w)
    (h : wpAnyC P md ops Q K C fuel (listed.setIfInBounds i true) (a.put dst v) w) : wpAnyC P md ops Q K C (fuel + 1) listed a w := by
  subst hdst
  exact wpAnyC_first hi (Region.noSelect_spec hs) hQ (by simpa using hKi) (fun _ => True) (.inr rfl) fuel listed a w (Region.free_spec hi hf) (closed_of hcl) (by simpa using hr) (fun h => by rw [h] at hK; simpa using hK) hy trivial hC h

/-- Only number i may come up: carried out ahead of K: C is to be shown anew. -/
theorem wpAnyC_do {i : Nat} {oi : Oper} {fuel : Nat} {listed : Array Bool} {a : Act} {w : World} (hi : ops[i]? = some oi) (hr : Region.ready md ops listed = [i])
    (h : ∀ Kc : Act → World → Prop, Shut (∀ a w, C w → (C w → wpAnyC P md ops Q K C fuel (listed.setIfInBounds i true) a w) → Kc a w) → if Region.wanted oi (yielded ops a.tmps) = true then Oper.wp P oi a w Kc Q else Kc (a.put oi.dst undef) w) :
    wpAnyC P md ops Q K C (fuel + 1) listed a w := by
  refine ⟨fun h0 => (by rw [hr] at h0; cases h0), fun j hj => ?_⟩
  rw [hr] at hj
  obtain rfl := List.mem_singleton.1 hj
  exact wpOp_step hi fun Kc hKc => h Kc fun a w hC hW => hKc a w ⟨fun _ => hC, hW hC⟩
/-- Only number i may come up, and K has come up behind it. -/
theorem wpAnyC_end {i : Nat} {oi : Oper} {fuel : Nat} {listed : Array Bool} {a : Act} {w : World} (hi : ops[i]? = some oi) (hr : Region.ready md ops listed = [i]) (hK : (listed.setIfInBounds i true).getD K true = true)
    (h : ∀ Kc : Act → World → Prop, Shut (∀ a w, wpAnyC P md ops Q K C fuel (listed.setIfInBounds i true) a w → Kc a w) → if Region.wanted oi (yielded ops a.tmps) = true then Oper.wp P oi a w Kc Q else Kc (a.put oi.dst undef) w) :
    wpAnyC P md ops Q K C (fuel + 1) listed a w := by
  refine ⟨fun h0 => (by rw [hr] at h0; cases h0), fun j hj => ?_⟩
  rw [hr] at hj
  obtain rfl := List.mem_singleton.1 hj
  exact wpOp_step hi fun Kc hKc => h Kc fun a w hW => hKc a w ⟨fun h => (by rw [hK] at h; cases h), hW⟩
theorem wpAnyC_done {listed : Array Bool} {a : Act} {w : World} (hr : Region.ready md ops listed = []) (h : Q .normal a w) :
    ∀ fuel, wpAnyC P md ops Q K C fuel listed a w
  | 0 => ⟨hr, h⟩
  | _ + 1 => ⟨fun _ => h, by rw [hr]; simp⟩
/-- The beginning: behind the draw. -/
theorem wp_region_C {id : Nat} {a : Act} {w : World} (K : Nat) (C : World → Prop) (hm : P.follows .mixedOrders = true) (hC : C w.drew)
    (h : C w.drew → wpAnyC P .any ops Q K C ops.size (Array.replicate ops.size false) a w.drew) : (Code.region id ops true).wp P Q a w :=
  wp_region_any hm (wpAny_of_C _ _ _ _ (h hC))
/-- The beginning, the world forgotten but for C. -/
theorem wp_region_F {id : Nat} {a : Act} {w : World} (K : Nat) (C : World → Prop) (hm : P.follows .mixedOrders = true) (hC : C w.drew)
    (h : ∀ W, C W → wpAnyC P .any ops Q K C ops.size (Array.replicate ops.size false) a W) : (Code.region id ops true).wp P Q a w :=
  wp_region_any hm (wpAny_of_C _ _ _ _ (h _ hC))
/-- A world is forgotten but for C. -/
theorem forget {M : World → Prop} {w : World} (C : World → Prop) (hC : C w) (h : ∀ w, C w → M w) : M w := h w hC
end
end Go.Proofs.YtoljpnfohlcfaaaGreatDoor
