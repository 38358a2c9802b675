/-
A region that draws its order, walked by hand, in a class C of worlds that each step keeps: an operation that reads the same value in every world of the class is taken ahead of all that is still to come. No conditions of the program's.
-/
import Derived.Test.YthijegacjboclaaQt
import Derived.Laws.AppendOwn
namespace Go.Proofs.Ythijegacjboclaa
open Go.RowKit

section
variable {P : Program} {ops : Array Oper} {Q : Exit → Act → World → Prop} {C : World → Prop}

/-- An operation that reads: one value in all worlds of the class. -/
def ReadsIn (P : Program) (ops : Array Oper) (C : World → Prop) (o : Oper) (v : Value) (a : Act) : Prop :=
  (Region.wanted o (yielded ops a.tmps) = true ∧ ∀ w, C w → (execOp a.eval o).run P w = .ok (.value v) w) ∨ (Region.wanted o (yielded ops a.tmps) = false ∧ v = undef)
theorem ReadsIn.of_same {o : Oper} {v : Value} {a a' : Act} (hy : ReadsIn P ops C o v a) (he : execOp a'.eval o = execOp a.eval o) (hw : Region.wanted o (yielded ops a'.tmps) = Region.wanted o (yielded ops a.tmps)) : ReadsIn P ops C o v a' := by
  unfold ReadsIn at *
  rw [he, hw]
  exact hy
theorem ReadsIn.wpOp {i : Nat} {o : Oper} {v : Value} {a : Act} (hi : ops[i]? = some o) (hy : ReadsIn P ops C o v a) {K : Act → World → Prop} {w : World} (hC : C w) (h : K (a.put o.dst v) w) : wpOp P ops Q i K a w := by
  unfold Go.wpOp
  simp only [hi]
  rcases hy with ⟨hw, hv⟩ | ⟨hw, rfl⟩
  · simp only [hw, if_true, Oper.wp, hv w hC, Oper.upon]; exact .inl h
  · simp only [hw, Bool.false_eq_true, if_false]; exact h
/-- A law of frames that a step's writes keep holds behind the step. -/
theorem wpOp_keep {j : Nat} {oj : Oper} (hj : ops[j]? = some oj) {R : Act → Prop} {a : Act} (h0 : ∀ u, R (a.put oj.dst u)) (hd : ∀ d u, R (Act.put { a with defers := d :: a.defers } oj.dst u))
    {K : Act → World → Prop} {w : World} (h : wpOp P ops Q j K a w) : wpOp P ops Q j (fun a' w' => R a' ∧ K a' w') a w := by
  unfold Go.wpOp at *
  simp only [hj] at *
  split
  · rename_i hw
    simp only [hw, if_true] at h
    rcases h with h | h
    case inr => exact .inr h
    refine .inl ?_
    unfold Oper.wp at *
    generalize (execOp a.eval oj).run P w = r at *
    cases r with
    | halt x w' =>
      cases x <;> simp only [Oper.upon] at h ⊢
      all_goals exact h
    | ok n w' =>
      cases n <;> simp only [Oper.upon] at h ⊢
      case value u => exact ⟨h0 u, h⟩
      case skip => exact ⟨h0 undef, h⟩
      case defer d => exact ⟨hd d undef, h⟩
      case enter f args =>
        refine Calls.mono h fun e w'' he => ?_
        cases e with
        | returned u => exact ⟨h0 u, he⟩
        | panicked c => exact he
        | outgrown => exact he
      case row row args => exact Rows.mono h fun u w'' he => ⟨h0 u, he⟩
  · rename_i hw
    simp only [hw] at h
    exact ⟨h0 undef, h⟩

/-- The walk of a region in which each step ends in the class. -/
def wpAnyC (P : Program) (ops : Array Oper) (Q : Exit → Act → World → Prop) (C : World → Prop) : Nat → Array Bool → Act → World → Prop
  | 0, listed, a, w => C w ∧ Region.ready .any ops listed = [] ∧ Q .normal a w
  | f + 1, listed, a, w => C w ∧ (Region.ready .any ops listed = [] → Q .normal a w) ∧ ∀ i ∈ Region.ready .any ops listed, wpOp P ops Q i (wpAnyC P ops Q C f (listed.setIfInBounds i true)) a w
theorem wpAnyC_in : ∀ (f : Nat) (listed : Array Bool) (a : Act) (w : World), wpAnyC P ops Q C f listed a w → C w
  | 0, _, _, _, h => h.1
  | _ + 1, _, _, _, h => h.1
theorem wpAny_of_C : ∀ (f : Nat) (listed : Array Bool) (a : Act) (w : World), wpAnyC P ops Q C f listed a w → wpAny P .any ops Q f listed a w
  | 0, _, _, _, h => ⟨h.2.1, h.2.2⟩
  | f + 1, _, _, _, h => ⟨h.2.1, fun i hi => wpOp_mono (fun a' w' h' => wpAny_of_C f _ a' w' h') (h.2.2 i hi)⟩

/-- An operation of the same shape that yields v whatever the world. -/
def fakeOf (o : Oper) (v : Value) : Oper := { o with op := .move (.const v) }
theorem fake_yields {o : Oper} {v : Value} {a : Act} (h : Region.wanted o (yielded ops a.tmps) = true) : Yields P ops (fakeOf o v) v a := by
  refine .inl ⟨?_, fun w => ?_⟩
  · rw [← h]; rfl
  · rfl
theorem firstC {i : Nat} {oi : Oper} {v : Value} (hi : ops[i]? = some oi) (hsel : ∀ (j : Nat) (o : Oper) cs b, ops[j]? = some o → o.op ≠ .select cs b) (hQ : ∀ c a w, Q (.panic c) (a.put oi.dst v) w → Q (.panic c) a w) :
    ∀ (fuel : Nat) (listed : Array Bool) (a : Act) (w : World),
      (∀ j oj, ops[j]? = some oj → j ≠ i → listed.getD j true = false → (∀ e ∈ oj.after, Region.binds .any e = true → e.on ≠ i) → oi.apart ops oj = true ∧ (fakeOf oi v).apart ops oj = true) →
      i ∈ Region.ready .any ops listed → Region.wanted oi (yielded ops a.tmps) = true → ReadsIn P ops C oi v a →
      wpAnyC P ops Q C fuel (listed.setIfInBounds i true) (a.put oi.dst v) w → wpAnyC P ops Q C (fuel + 1) listed a w := by
  intro fuel
  induction fuel with
  | zero =>
    intro listed a w _ hr hwt hy H
    refine ⟨H.1, fun h => (by rw [h] at hr; cases hr), fun j hj => ?_⟩
    by_cases hji : j = i
    · subst hji; exact hy.wpOp hi H.1 H
    · have := ready_mono hj hji
      rw [H.2.1] at this
      cases this
  | succ fuel ih =>
    intro listed a w hfree hr hwt hy H
    have hC := H.1
    refine ⟨hC, fun h => (by rw [h] at hr; cases hr), fun j hj => ?_⟩
    by_cases hji : j = i
    · subst hji; exact hy.wpOp hi hC H
    · have h1 := H.2.2 j (ready_mono hj hji)
      obtain ⟨hjun, oj, hoj, hall⟩ := mem_ready.1 hj
      have hnot : ∀ e ∈ oj.after, Region.binds .any e = true → e.on ≠ i := fun e he hb heq => by
        have h2 := hall e he hb
        rw [heq, getD_both (mem_ready.1 hr).1] at h2
        cases h2
      obtain ⟨hap, hapf⟩ := hfree j oj hoj hji hjun hnot
      obtain ⟨b1, b2, b3⟩ := Oper.apart_spec hap
      have hput := wpOp_put (oi := fakeOf oi v) hoj hapf (fun cs b => by intro h; cases h) (fun cs b => hsel j oj cs b hoj) hQ (fake_yields hwt) h1
      have same : ∀ (a1 : Act), execOp a1.eval oi = execOp a.eval oi → Region.wanted oi (yielded ops a1.tmps) = Region.wanted oi (yielded ops a.tmps) → ∀ u, ReadsIn P ops C oi v (a1.put oj.dst u) ∧ Region.wanted oi (yielded ops (a1.put oj.dst u).tmps) = true := fun a1 e1 e2 u => by
        have w1 := wanted_put oi a1 oj.dst u b3
        exact ⟨hy.of_same ((execOp_put oi (fun cs b => hsel i oi cs b hi) a1 oj.dst u b3).trans e1) (w1.trans e2), w1.trans (e2.trans hwt)⟩
      have h3 := wpOp_keep (R := fun a' => ReadsIn P ops C oi v a' ∧ Region.wanted oi (yielded ops a'.tmps) = true) hoj (same a rfl rfl) (fun d u => same { a with defers := d :: a.defers } rfl rfl u) hput
      have hfree' : ∀ k ok, ops[k]? = some ok → k ≠ i → (listed.setIfInBounds j true).getD k true = false → (∀ e ∈ ok.after, Region.binds .any e = true → e.on ≠ i) → oi.apart ops ok = true ∧ (fakeOf oi v).apart ops ok = true := fun k ok hk hki hun hno => by
        refine hfree k ok hk hki ?_ hno
        by_cases hjk : j = k
        · subst hjk; exact hjun
        · rw [getD_set_ne true hjk] at hun; exact hun
      refine wpOp_mono (fun a' w' ⟨⟨hy', hw'⟩, _, h4⟩ => ih (listed.setIfInBounds j true) a' w' hfree' (ready_mono hr (Ne.symm hji)) hw' hy' ?_) h3
      rw [Array.setIfInBounds_comm _ _ hji]
      exact h4
theorem fake_apart (o y : Oper) (v : Value) (ops : Array Oper) : (fakeOf o v).apart ops y = (fakeOf o undef).apart ops y := rfl
def freeCB (ops : Array Oper) (listed : Array Bool) (i : Nat) : Bool := match ops[i]? with
  | none => false
  | some oi => (List.range ops.size).all fun j => j == i || listed.getD j true || match ops[j]? with
      | some oj => oj.after.any (fun e => Region.binds .any e && e.on == i) || (oi.apart ops oj && (fakeOf oi undef).apart ops oj)
      | none => true
theorem freeCB_spec {i : Nat} {oi : Oper} {v : Value} {listed : Array Bool} (hi : ops[i]? = some oi) (h : freeCB ops listed i = true) (j : Nat) (oj : Oper) (hj : ops[j]? = some oj) (hne : j ≠ i) (hun : listed.getD j true = false)
    (hno : ∀ e ∈ oj.after, Region.binds .any e = true → e.on ≠ i) : oi.apart ops oj = true ∧ (fakeOf oi v).apart ops oj = true := by
  simp only [freeCB, hi, List.all_eq_true, List.mem_range] at h
  have h1 := h j (Array.getElem?_eq_some_iff.1 hj).1
  simp only [hj, Bool.or_eq_true, beq_iff_eq, hne, false_or, hun, Bool.false_eq_true, Bool.and_eq_true] at h1
  rcases h1 with h1 | h1
  · obtain ⟨e, he, hb⟩ := Array.any_eq_true'.1 h1
    simp only [Bool.and_eq_true, beq_iff_eq] at hb
    exact absurd hb.2 (hno e he hb.1)
  · rw [fake_apart]; exact h1
theorem wpAnyC_take {i : Nat} {oi : Oper} {v : Value} {fuel : Nat} {listed : Array Bool} {a : Act} {w : World} (hi : ops[i]? = some oi) (hs : Region.noSelect ops = true) (hf : freeCB ops listed i = true) (hr : (Region.ready .any ops listed).contains i = true)
    (hQ : ∀ c a w, Q (.panic c) (a.put oi.dst v) w → Q (.panic c) a w) (hw : Region.wanted oi (yielded ops a.tmps) = true) (hy : ∀ w, C w → (execOp a.eval oi).run P w = .ok (.value v) w)
    (h : wpAnyC P ops Q C fuel (listed.setIfInBounds i true) (a.put oi.dst v) w) : wpAnyC P ops Q C (fuel + 1) listed a w :=
  firstC hi (Region.noSelect_spec hs) hQ fuel listed a w (freeCB_spec hi hf) (by simpa using hr) hw (.inl ⟨hw, hy⟩) h
theorem wpAnyC_one {i : Nat} {oi : Oper} {fuel : Nat} {listed : Array Bool} {a : Act} {w : World} (hr : Region.ready .any ops listed = [i]) (hi : ops[i]? = some oi) (hC : C w) (hw : Region.wanted oi (yielded ops a.tmps) = true)
    (h : ∀ K : Act → World → Prop, (∀ a' w', wpAnyC P ops Q C fuel (listed.setIfInBounds i true) a' w' → K a' w') → oi.wp P a w K Q) : wpAnyC P ops Q C (fuel + 1) listed a w := by
  refine ⟨hC, fun e => (by rw [hr] at e; cases e), fun j hj => ?_⟩
  rw [hr, List.mem_singleton] at hj
  subst hj
  unfold Go.wpOp
  simp only [hi, hw, if_true]
  exact .inl (h _ fun _ _ h => h)
theorem wpAnyC_two {i j : Nat} {oi oj : Oper} {fuel : Nat} {listed : Array Bool} {a : Act} {w : World} (hr : Region.ready .any ops listed = [i, j]) (hi : ops[i]? = some oi) (hj : ops[j]? = some oj) (hC : C w) (hw : Region.wanted oi (yielded ops a.tmps) = true) (hw2 : Region.wanted oj (yielded ops a.tmps) = true)
    (h : ∀ K : Act → World → Prop, (∀ a' w', wpAnyC P ops Q C fuel (listed.setIfInBounds i true) a' w' → K a' w') → oi.wp P a w K Q)
    (h2 : ∀ K : Act → World → Prop, (∀ a' w', wpAnyC P ops Q C fuel (listed.setIfInBounds j true) a' w' → K a' w') → oj.wp P a w K Q) : wpAnyC P ops Q C (fuel + 1) listed a w := by
  refine ⟨hC, fun e => (by rw [hr] at e; cases e), fun k hk => ?_⟩
  rw [hr] at hk
  simp only [List.mem_cons, List.not_mem_nil, or_false] at hk
  rcases hk with rfl | rfl
  · unfold Go.wpOp
    simp only [hi, hw, if_true]
    exact .inl (h _ fun _ _ h => h)
  · unfold Go.wpOp
    simp only [hj, hw2, if_true]
    exact .inl (h2 _ fun _ _ h => h)
theorem wpAnyC_done {listed : Array Bool} {a : Act} {w : World} (hr : Region.ready .any ops listed = []) (hC : C w) (h : Q .normal a w) : ∀ fuel, wpAnyC P ops Q C fuel listed a w
  | 0 => ⟨hC, hr, h⟩
  | _ + 1 => ⟨hC, fun _ => h, by rw [hr]; simp⟩
theorem wp_region_C {id : Nat} {a : Act} {w : World} (C : World → Prop) (hm : P.follows .mixedOrders = true) (h : wpAnyC P ops Q C ops.size (Array.replicate ops.size false) a w.drew) : (Code.region id ops true).wp P Q a w :=
  wp_region_any hm (wpAny_of_C _ _ _ _ h)
end
end Go.Proofs.Ythijegacjboclaa
