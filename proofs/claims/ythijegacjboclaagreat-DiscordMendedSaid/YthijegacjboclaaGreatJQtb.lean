/-
A region that draws its order, walked by hand, in a class C of worlds that each step keeps: an operation that reads the same value in every world of the class is taken ahead of all that is still to come. No conditions of the program's.
-/
import Derived.Test.YthijegacjboclaaGreatQt
import Derived.Laws.AppendOwn
import Derived.Laws.AppendOwnNone
namespace Go.Proofs.YthijegacjboclaaGreat
open Go.RowKit

section
variable {P : Program} {ops : Array Oper} {Q : Exit → Act → World → Prop} {C : World → Prop}

/-- An operation that reads: one value in all worlds of the class. -/
def ReadsIn (P : Program) (ops : Array Oper) (C : World → Prop) (o : Oper) (v : Value) (a : Act) : Prop :=
  (Region.wanted o (yielded ops a.tmps) = true ∧ ∀ w, C w → (execOp a.eval o).run P w = .ok (.value v) w) ∨ (Region.wanted o (yielded ops a.tmps) = false ∧ v = undef)
theorem ReadsIn.of_same {o : Oper} {v : Value} {a a' : Act} (hy : ReadsIn P ops C o v a) (he : execOp a'.eval o = execOp a.eval o) (hw : Region.wanted o (yielded ops a'.tmps) = Region.wanted o (yielded ops a.tmps)) : ReadsIn P ops C o v a' := by
  unfold ReadsIn at *
  rw [he, hw]
  exact hy
theorem ReadsIn.wpOp {i : Nat} {o : Oper} {v : Value} {a : Act} (hi : ops[i]? = some o) (hy : ReadsIn P ops C o v a) {K : Act → World → Prop} {w : World} (hC : C w) (h : K (a.put o.dst v) w) : wpOp P ops Q i K a w := by
  unfold Go.wpOp
  simp only [hi]
  rcases hy with ⟨hw, hv⟩ | ⟨hw, rfl⟩
  · simp only [hw, if_true, Oper.wp, hv w hC, Oper.upon]; exact .inl h
  · simp only [hw, Bool.false_eq_true, if_false]; exact h
/-- A law of frames that a step's writes keep holds behind the step. -/
theorem wpOp_keep {j : Nat} {oj : Oper} (hj : ops[j]? = some oj) {R : Act → Prop} {a : Act} (h0 : ∀ u, R (a.put oj.dst u)) (hd : ∀ d u, R (Act.put { a with defers := d :: a.defers } oj.dst u))
    {K : Act → World → Prop} {w : World} (h : wpOp P ops Q j K a w) : wpOp P ops Q j (fun a' w' => R a' ∧ K a' w') a w := by
  unfold Go.wpOp at *
  simp only [hj] at *
  split
  · rename_i hw
    simp only [hw, if_true] at h
    rcases h with h | h
    case inr => exact .inr h
    refine .inl ?_
    unfold Oper.wp at *
    generalize (execOp a.eval oj).run P w = r at *
    cases r with
    | halt x w' =>
      cases x <;> simp only [Oper.upon] at h ⊢
      all_goals exact h
    | ok n w' =>
      cases n <;> simp only [Oper.upon] at h ⊢
      case value u => exact ⟨h0 u, h⟩
      case skip => exact ⟨h0 undef, h⟩
      case defer d => exact ⟨hd d undef, h⟩
      case enter f args =>
        refine Calls.mono h fun e w'' he => ?_
        cases e with
        | returned u => exact ⟨h0 u, he⟩
        | panicked c => exact he
        | outgrown => exact he
      case row row args => exact Rows.mono h fun u w'' he => ⟨h0 u, he⟩
  · rename_i hw
    simp only [hw] at h
    exact ⟨h0 undef, h⟩

/-- The walk of a region in which each step ends in the class. -/
def wpAnyC (P : Program) (ops : Array Oper) (Q : Exit → Act → World → Prop) (C : World → Prop) : Nat → Array Bool → Act → World → Prop
  | 0, listed, a, w => C w ∧ Region.ready .any ops listed = [] ∧ Q .normal a w
  | f + 1, listed, a, w => C w ∧ (Region.ready .any ops listed = [] → Q .normal a w) ∧ ∀ i ∈ Region.ready .any ops listed, wpOp P ops Q i (wpAnyC P ops Q C f (listed.setIfInBounds i true)) a w
theorem wpAnyC_in : ∀ (f : Nat) (listed : Array Bool) (a : Act) (w : World), wpAnyC P ops Q C f listed a w → C w
  | 0, _, _, _, h => h.1
  | _ + 1, _, _, _, h => h.1
theorem wpAny_of_C : ∀ (f : Nat) (listed : Array Bool) (a : Act) (w : World), wpAnyC P ops Q C f listed a w → wpAny P .any ops Q f listed a w
  | 0, _, _, _, h => ⟨h.2.1, h.2.2⟩
  | f + 1, _, _, _, h => ⟨h.2.1, fun i hi => wpOp_mono (fun a' w' h' => wpAny_of_C f _ a' w' h') (h.2.2 i hi)⟩

/-- An operation of the same shape that yields v whatever the world. -/
def fakeOf (o : Oper) (v : Value) : Oper := { o with op := .move (.const v) }
theorem fake_yields {o : Oper} {v : Value} {a : Act} (h : Region.wanted o (yielded ops a.tmps) = true) : Yields P ops (fakeOf o v) v a := by
  refine .inl ⟨?_, fun w => ?_⟩
  · rw [← h]; rfl
  · rfl
theorem firstC {i : Nat} {oi : Oper} {v : Value} (hi : ops[i]? = some oi) (hsel : ∀ (j : Nat) (o : Oper) cs b, ops[j]? = some o → o.op ≠ .select cs b) (hQ : ∀ c a w, Q (.panic c) (a.put oi.dst v) w → Q (.panic c) a w) :
    ∀ (fuel : Nat) (listed : Array Bool) (a : Act) (w : World),
      (∀ j oj, ops[j]? = some oj → j ≠ i → listed.getD j true = false → (∀ e ∈ oj.after, Region.binds .any e = true → e.on ≠ i) → oi.apart ops oj = true ∧ (fakeOf oi v).apart ops oj = true) →
      i ∈ Region.ready .any ops listed → Region.wanted oi (yielded ops a.tmps) = true → ReadsIn P ops C oi v a →
      wpAnyC P ops Q C fuel (listed.setIfInBounds i true) (a.put oi.dst v) w → wpAnyC P ops Q C (fuel + 1) listed a w := by
  intro fuel
  induction fuel with
  | zero =>
    intro listed a w _ hr hwt hy H
    refine ⟨H.1, fun h => (by rw [h] at hr; cases hr), fun j hj => ?_⟩
    by_cases hji : j = i
    · subst hji; exact hy.wpOp hi H.1 H
    · have := ready_mono hj hji
      rw [H.2.1] at this
      cases this
  | succ fuel ih =>
    intro listed a w hfree hr hwt hy H
    have hC := H.1
    refine ⟨hC, fun h => (by rw [h] at hr; cases hr), fun j hj => ?_⟩
    by_cases hji : j = i
    · subst hji; exact hy.wpOp hi hC H
    · have h1 := H.2.2 j (ready_mono hj hji)
      obtain ⟨hjun, oj, hoj, hall⟩ := mem_ready.1 hj
      have hnot : ∀ e ∈ oj.after, Region.binds .any e = true → e.on ≠ i := fun e he hb heq => by
        have h2 := hall e he hb
        rw [heq, getD_both (mem_ready.1 hr).1] at h2
        cases h2
      obtain ⟨hap, hapf⟩ := hfree j oj hoj hji hjun hnot
      obtain ⟨b1, b2, b3⟩ := Oper.apart_spec hap
      have hput := wpOp_put (oi := fakeOf oi v) hoj hapf (fun cs b => by intro h; cases h) (fun cs b => hsel j oj cs b hoj) hQ (fake_yields hwt) h1
      have same : ∀ (a1 : Act), execOp a1.eval oi = execOp a.eval oi → Region.wanted oi (yielded ops a1.tmps) = Region.wanted oi (yielded ops a.tmps) → ∀ u, ReadsIn P ops C oi v (a1.put oj.dst u) ∧ Region.wanted oi (yielded ops (a1.put oj.dst u).tmps) = true := fun a1 e1 e2 u => by
        have w1 := wanted_put oi a1 oj.dst u b3
        exact ⟨hy.of_same ((execOp_put oi (fun cs b => hsel i oi cs b hi) a1 oj.dst u b3).trans e1) (w1.trans e2), w1.trans (e2.trans hwt)⟩
      have h3 := wpOp_keep (R := fun a' => ReadsIn P ops C oi v a' ∧ Region.wanted oi (yielded ops a'.tmps) = true) hoj (same a rfl rfl) (fun d u => same { a with defers := d :: a.defers } rfl rfl u) hput
      have hfree' : ∀ k ok, ops[k]? = some ok → k ≠ i → (listed.setIfInBounds j true).getD k true = false → (∀ e ∈ ok.after, Region.binds .any e = true → e.on ≠ i) → oi.apart ops ok = true ∧ (fakeOf oi v).apart ops ok = true := fun k ok hk hki hun hno => by
        refine hfree k ok hk hki ?_ hno
        by_cases hjk : j = k
        · subst hjk; exact hjun
        · rw [getD_set_ne true hjk] at hun; exact hun
      refine wpOp_mono (fun a' w' ⟨⟨hy', hw'⟩, _, h4⟩ => ih (listed.setIfInBounds j true) a' w' hfree' (ready_mono hr (Ne.symm hji)) hw' hy' ?_) h3
      rw [Array.setIfInBounds_comm _ _ hji]
      exact h4
theorem fake_apart (o y : Oper) (v : Value) (ops : Array Oper) : (fakeOf o v).apart ops y = (fakeOf o undef).apart ops y := rfl
def freeCB (ops : Array Oper) (listed : Array Bool) (i : Nat) : Bool := match ops[i]? with
  | none => false
  | some oi => (List.range ops.size).all fun j => j == i || listed.getD j true || match ops[j]? with
      | some oj => oj.after.any (fun e => Region.binds .any e && e.on == i) || (oi.apart ops oj && (fakeOf oi undef).apart ops oj)
      | none => true
theorem freeCB_spec {i : Nat} {oi : Oper} {v : Value} {listed : Array Bool} (hi : ops[i]? = some oi) (h : freeCB ops listed i = true) (j : Nat) (oj : Oper) (hj : ops[j]? = some oj) (hne : j ≠ i) (hun : listed.getD j true = false)
    (hno : ∀ e ∈ oj.after, Region.binds .any e = true → e.on ≠ i) : oi.apart ops oj = true ∧ (fakeOf oi v).apart ops oj = true := by
  simp only [freeCB, hi, List.all_eq_true, List.mem_range] at h
  have h1 := h j (Array.getElem?_eq_some_iff.1 hj).1
  simp only [hj, Bool.or_eq_true, beq_iff_eq, hne, false_or, hun, Bool.false_eq_true, Bool.and_eq_true] at h1
  rcases h1 with h1 | h1
  · obtain ⟨e, he, hb⟩ := Array.any_eq_true'.1 h1
    simp only [Bool.and_eq_true, beq_iff_eq] at hb
    exact absurd hb.2 (hno e he hb.1)
  · rw [fake_apart]; exact h1
theorem wpAnyC_take {i : Nat} {oi : Oper} {v : Value} {fuel : Nat} {listed : Array Bool} {a : Act} {w : World} (hi : ops[i]? = some oi) (hs : Region.noSelect ops = true) (hf : freeCB ops listed i = true) (hr : (Region.ready .any ops listed).contains i = true)
    (hQ : ∀ c a w, Q (.panic c) (a.put oi.dst v) w → Q (.panic c) a w) (hw : Region.wanted oi (yielded ops a.tmps) = true) (hy : ∀ w, C w → (execOp a.eval oi).run P w = .ok (.value v) w)
    (h : wpAnyC P ops Q C fuel (listed.setIfInBounds i true) (a.put oi.dst v) w) : wpAnyC P ops Q C (fuel + 1) listed a w :=
  firstC hi (Region.noSelect_spec hs) hQ fuel listed a w (freeCB_spec hi hf) (by simpa using hr) hw (.inl ⟨hw, hy⟩) h
theorem wpAnyC_one {i : Nat} {oi : Oper} {fuel : Nat} {listed : Array Bool} {a : Act} {w : World} (hr : Region.ready .any ops listed = [i]) (hi : ops[i]? = some oi) (hC : C w) (hw : Region.wanted oi (yielded ops a.tmps) = true)
    (h : ∀ K : Act → World → Prop, (∀ a' w', wpAnyC P ops Q C fuel (listed.setIfInBounds i true) a' w' → K a' w') → oi.wp P a w K Q) : wpAnyC P ops Q C (fuel + 1) listed a w := by
  refine ⟨hC, fun e => (by rw [hr] at e; cases e), fun j hj => ?_⟩
  rw [hr, List.mem_singleton] at hj
  subst hj
  unfold Go.wpOp
  simp only [hi, hw, if_true]
  exact .inl (h _ fun _ _ h => h)
theorem wpAnyC_two {i j : Nat} {oi oj : Oper} {fuel : Nat} {listed : Array Bool} {a : Act} {w : World} (hr : Region.ready .any ops listed = [i, j]) (hi : ops[i]? = some oi) (hj : ops[j]? = some oj) (hC : C w) (hw : Region.wanted oi (yielded ops a.tmps) = true) (hw2 : Region.wanted oj (yielded ops a.tmps) = true)
    (h : ∀ K : Act → World → Prop, (∀ a' w', wpAnyC P ops Q C fuel (listed.setIfInBounds i true) a' w' → K a' w') → oi.wp P a w K Q)
    (h2 : ∀ K : Act → World → Prop, (∀ a' w', wpAnyC P ops Q C fuel (listed.setIfInBounds j true) a' w' → K a' w') → oj.wp P a w K Q) : wpAnyC P ops Q C (fuel + 1) listed a w := by
  refine ⟨hC, fun e => (by rw [hr] at e; cases e), fun k hk => ?_⟩
  rw [hr] at hk
  simp only [List.mem_cons, List.not_mem_nil, or_false] at hk
  rcases hk with rfl | rfl
  · unfold Go.wpOp
    simp only [hi, hw, if_true]
    exact .inl (h _ fun _ _ h => h)
  · unfold Go.wpOp
    simp only [hj, hw2, if_true]
    exact .inl (h2 _ fun _ _ h => h)
theorem wpAnyC_done {listed : Array Bool} {a : Act} {w : World} (hr : Region.ready .any ops listed = []) (hC : C w) (h : Q .normal a w) : ∀ fuel, wpAnyC P ops Q C fuel listed a w
  | 0 => ⟨hC, hr, h⟩
  | _ + 1 => ⟨hC, fun _ => h, by rw [hr]; simp⟩
theorem wp_region_C {id : Nat} {a : Act} {w : World} (C : World → Prop) (hm : P.follows .mixedOrders = true) (h : wpAnyC P ops Q C ops.size (Array.replicate ops.size false) a w.drew) : (Code.region id ops true).wp P Q a w :=
  wp_region_any hm (wpAny_of_C _ _ _ _ h)
end
end Go.Proofs.YthijegacjboclaaGreat
/- A region that draws its order, walked by hand in a class of worlds, under the wide fence. No conditions of the program's. -/
namespace Go.Proofs.YthijegacjboclaaGreat
open Go.RowKit

section
variable {P : Program} {ops : Array Oper}
theorem wpOpsIn_wide {n : Nat} {Q : Exit → Act → World → Prop} (hd : noDefer ops = true) (hout : ∀ a w, ¬ Q .outgrown a w) :
    ∀ (is : List Nat) (a : Act) (w : World), wpOps P ops Q is a w → wpOpsIn Fence.wide n P ops Q is a w
  | [], _, _, h => h
  | i :: rest, a, w, h => by
    simp only [wpOps, wpOpsIn] at *
    cases ho : ops[i]? with
    | none => simp only [ho] at h; exact wpOpsIn_wide hd hout rest a w h
    | some o =>
      simp only [ho] at h
      by_cases hw : Region.wanted o (yielded ops a.tmps) = true
      · simp only [hw, if_true] at h ⊢
        have hlo : ¬ LetsOut Q := fun ⟨a0, w0, hq⟩ => hout a0 w0 hq
        have h : o.wp P a w (wpOps P ops Q rest) Q := h.resolve_right fun hr => hlo hr.2
        refine ⟨fun _ _ => trivial, ?_⟩
        rw [Oper.semAt_eq _ _ _ (fun c => noDefer_spec hd ho c)]
        unfold Oper.wp at h
        generalize (execOp a.eval o).run P w = r at *
        cases r with
        | ok x w' =>
          cases x <;> simp only [Oper.upon] at h <;> simp only [Oper.uponIn]
          case value v => exact wpOpsIn_wide hd hout rest _ _ h
          case skip => exact wpOpsIn_wide hd hout rest _ _ h
          case defer d => exact wpOpsIn_wide hd hout rest _ _ h
          case enter f args =>
            refine ⟨fun hh => (by cases hh), callsIn_wide.2 (h.mono fun e w'' he => ?_)⟩
            cases e with
            | returned v => exact wpOpsIn_wide hd hout rest _ _ he
            | panicked c => exact he
            | outgrown => exact he
          case row row args =>
            refine ⟨fun hh => (by cases hh), fun c cs _ => ?_⟩
            obtain ⟨v, w'', hr, hs⟩ := h c cs
            exact ⟨v, w'', wpOpsIn_wide hd hout rest _ _ hr, (stepsIn_wide (P := P)).2 hs⟩
          all_goals exact h.elim
        | halt x w' => cases x <;> simp only [Oper.upon] at h <;> simp only [Oper.uponIn] <;> first | exact h | exact h.elim
      · simp only [hw] at h ⊢
        exact ⟨fun _ _ => trivial, wpOpsIn_wide hd hout rest _ _ h⟩
theorem wpIn_region_CW {n id : Nat} {Q : Exit → Act → World → Prop} {a : Act} {w : World} (C : World → Prop) (hm : P.follows .mixedOrders = true) (hd : noDefer ops = true) (hout : ∀ a w, ¬ Q .outgrown a w)
    (h : wpAnyC P ops Q C ops.size (Array.replicate ops.size false) a w.drew) : (Code.region id ops true).wpIn Fence.wide n P Q a w :=
  wpIn_region_draw fun t => wpOpsIn_wide hd hout _ _ _ (by
    simp only [Region.schedule, hm, Bool.true_or, if_true]
    exact wpAny_sound ops.size t _ a _ (wpAny_of_C _ _ _ _ h))
/-- What a region that only ends normally owes. -/
def nrm (K : Act → World → Prop) : Exit → Act → World → Prop
  | .normal, a, w => K a w
  | _, _, _ => False
theorem nrm_mono {Q : Exit → Act → World → Prop} : ∀ (e : Exit) (a : Act) (w : World), nrm (Q .normal) e a w → Q e a w
  | .normal, _, _, h => h
  | .ret, _, _, h => h.elim
  | .exit _, _, _, h => h.elim
  | .goto _, _, _, h => h.elim
  | .panic _, _, _, h => h.elim
  | .outgrown, _, _, h => h.elim
theorem wpIn_region_CN {n id : Nat} {Q : Exit → Act → World → Prop} {a : Act} {w : World} (C : World → Prop) (hm : P.follows .mixedOrders = true) (hd : noDefer ops = true)
    (h : wpAnyC P ops (nrm (Q .normal)) C ops.size (Array.replicate ops.size false) a w.drew) : (Code.region id ops true).wpIn Fence.wide n P Q a w :=
  wpIn_mono (wpIn_region_CW C hm hd (fun _ _ h => h) h) nrm_mono
theorem wp_region_CN {id : Nat} {Q : Exit → Act → World → Prop} {a : Act} {w : World} (C : World → Prop) (hm : P.follows .mixedOrders = true)
    (h : wpAnyC P ops (nrm (Q .normal)) C ops.size (Array.replicate ops.size false) a w.drew) : (Code.region id ops true).wp P Q a w :=
  wp_mono (wp_region_C C hm h) nrm_mono
theorem wpAnyC_doneN {K : Act → World → Prop} {C : World → Prop} {listed : Array Bool} {a : Act} {w : World} (hr : Region.ready .any ops listed = []) (hC : C w) (h : K a w) (fuel : Nat) : wpAnyC P ops (nrm K) C fuel listed a w :=
  wpAnyC_done hr hC h fuel
theorem wpIn_region_CR {l n id : Nat} {Q : Exit → Act → World → Prop} {a : Act} {w : World} (C : World → Prop) (hm : P.follows .mixedOrders = true) (hd : noDefer ops = true) (hout : ∀ a w, ¬ Q .outgrown a w)
    (h : wpAnyC P ops Q C ops.size (Array.replicate ops.size false) a w.drew) : (Code.region id ops true).wpIn (Fence.wide.inRound l) n P Q a w :=
  wpIn_region_of_any hm hd hout (wpAny_of_C _ _ _ _ h)
theorem wpIn_region_CNR {l n id : Nat} {Q : Exit → Act → World → Prop} {a : Act} {w : World} (C : World → Prop) (hm : P.follows .mixedOrders = true) (hd : noDefer ops = true)
    (h : wpAnyC P ops (nrm (Q .normal)) C ops.size (Array.replicate ops.size false) a w.drew) : (Code.region id ops true).wpIn (Fence.wide.inRound l) n P Q a w :=
  wpIn_mono (wpIn_region_CR C hm hd (fun _ _ h => h) h) nrm_mono
end
end Go.Proofs.YthijegacjboclaaGreat
/- A stage of a region that draws its order, walked once for each operation, whatever the order: six operations, three of which come one behind the other. No conditions of the program's. -/
namespace Go.Proofs.YthijegacjboclaaGreat
open Go.RowKit

section
variable {P : Program} {ops : Array Oper} {Q : Exit → Act → World → Prop} {C : World → Prop}
theorem wpOp_of {i : Nat} {oi : Oper} {a : Act} {w : World} {I : Act → World → Prop} (hi : ops[i]? = some oi) (hw : Region.wanted oi (yielded ops a.tmps) = true)
    (h : ∀ K : Act → World → Prop, (∀ a' w', I a' w' → K a' w') → oi.wp P a w K Q) : wpOp P ops Q i I a w := by
  unfold Go.wpOp
  simp only [hi, hw, if_true]
  exact .inl (h _ fun _ _ h => h)
theorem wpAnyC_stage (I : Nat → Array Bool → Act → World → Prop) (f0 : Nat) (hC : ∀ m l a w, I m l a w → C w) (h0 : ∀ l a w, I 0 l a w → wpAnyC P ops Q C f0 l a w)
    (hs : ∀ m l a w, I (m + 1) l a w → Region.ready .any ops l ≠ [] ∧ ∀ i ∈ Region.ready .any ops l, wpOp P ops Q i (fun a' w' => I m (l.setIfInBounds i true) a' w') a w) :
    ∀ m l a w, I m l a w → wpAnyC P ops Q C (f0 + m) l a w
  | 0, l, a, w, h => h0 l a w h
  | m + 1, l, a, w, h => by
    obtain ⟨h1, h2⟩ := hs m l a w h
    exact ⟨hC _ _ _ _ h, fun e => absurd e h1, fun i hi => wpOp_mono (fun a' w' h' => wpAnyC_stage I f0 hC h0 hs m _ a' w' h') (h2 i hi)⟩

/-- What is listed of the twelve operations of the region. -/
def six (b1 b3 b5 b6 b7 b8 : Bool) : Array Bool := #[true, b1, true, b3, true, b5, b6, b7, b8, false, false, false]
def sixR (b1 b3 b5 b6 b7 b8 : Bool) : List Nat := (if b1 then (if b3 then (if b5 then [] else [5]) else [3]) else [1]) ++ ((if b6 then [] else [6]) ++ ((if b7 then [] else [7]) ++ (if b8 then [] else [8])))
def sixC (ops : Array Oper) (b1 b3 b5 b6 b7 b8 : Bool) : Bool := (b3 && !b1) || (b5 && !b3) || (b1 && b3 && b5 && b6 && b7 && b8) || (Region.ready .any ops (six b1 b3 b5 b6 b7 b8) == sixR b1 b3 b5 b6 b7 b8)
def sixAll (ops : Array Oper) : Bool := [true, false].all fun b1 => [true, false].all fun b3 => [true, false].all fun b5 => [true, false].all fun b6 => [true, false].all fun b7 => [true, false].all fun b8 => sixC ops b1 b3 b5 b6 b7 b8
theorem sixAll_at (h : sixAll ops = true) (b1 b3 b5 b6 b7 b8 : Bool) : sixC ops b1 b3 b5 b6 b7 b8 = true := by
  have m : ∀ b : Bool, b ∈ [true, false] := fun b => by cases b <;> simp
  unfold sixAll at h
  exact List.all_eq_true.1 (List.all_eq_true.1 (List.all_eq_true.1 (List.all_eq_true.1 (List.all_eq_true.1 (List.all_eq_true.1 h b1 (m _)) b3 (m _)) b5 (m _)) b6 (m _)) b7 (m _)) b8 (m _)
def bc (b : Bool) : Nat := if b then 0 else 1

theorem six_mem {b1 b3 b5 b6 b7 b8 : Bool} {i : Nat} (h31 : b3 = true → b1 = true) (h53 : b5 = true → b3 = true) (hi : i ∈ sixR b1 b3 b5 b6 b7 b8) :
    (i = 1 ∧ b1 = false ∧ b3 = false ∧ b5 = false) ∨ (i = 3 ∧ b1 = true ∧ b3 = false ∧ b5 = false) ∨ (i = 5 ∧ b1 = true ∧ b3 = true ∧ b5 = false) ∨ (i = 6 ∧ b6 = false) ∨ (i = 7 ∧ b7 = false) ∨ (i = 8 ∧ b8 = false) := by
  unfold sixR at hi
  rcases List.mem_append.1 hi with hi | hi
  · cases b1
    · have h3 : b3 = false := by cases b3 <;> simp_all
      have h5 : b5 = false := by cases b5 <;> simp_all
      simp at hi
      exact .inl ⟨hi, rfl, h3, h5⟩
    · cases b3
      · have h5 : b5 = false := by cases b5 <;> simp_all
        simp at hi
        exact .inr (.inl ⟨hi, rfl, rfl, h5⟩)
      · cases b5
        · simp at hi
          exact .inr (.inr (.inl ⟨hi, rfl, rfl, rfl⟩))
        · simp at hi
  rcases List.mem_append.1 hi with hi | hi
  · cases b6
    · simp at hi
      exact .inr (.inr (.inr (.inl ⟨hi, rfl⟩)))
    · simp at hi
  rcases List.mem_append.1 hi with hi | hi
  · cases b7
    · simp at hi
      exact .inr (.inr (.inr (.inr (.inl ⟨hi, rfl⟩))))
    · simp at hi
  · cases b8
    · simp at hi
      exact .inr (.inr (.inr (.inr (.inr ⟨hi, rfl⟩))))
    · simp at hi
theorem put_self (a : Act) (d : Nat) : a.put (some d) (a.tmps.getD d undef) = a := by
  unfold Act.put
  simp only
  have : a.tmps.setIfInBounds d (a.tmps.getD d undef) = a.tmps := by
    apply Array.ext
    · simp
    · intro i h1 h2
      rw [Array.getElem_setIfInBounds (by simpa using h1)]
      split
      · rename_i e; subst e; simp [Array.getD, h2]
      · rfl
  rw [this]
/-- An activation with six slots given anew. -/
def sixA (d1 d3 d5 d6 d7 d8 : Nat) (a : Act) (v1 v3 v5 v6 v7 v8 : Value) : Act := (((((a.put (some d1) v1).put (some d3) v3).put (some d5) v5).put (some d6) v6).put (some d7) v7).put (some d8) v8
theorem sixA_self (d1 d3 d5 d6 d7 d8 : Nat) (a : Act) : sixA d1 d3 d5 d6 d7 d8 a (a.tmps.getD d1 undef) (a.tmps.getD d3 undef) (a.tmps.getD d5 undef) (a.tmps.getD d6 undef) (a.tmps.getD d7 undef) (a.tmps.getD d8 undef) = a := by
  unfold sixA
  rw [put_self, put_self, put_self, put_self, put_self, put_self]
set_option maxHeartbeats 2000000 in
theorem wpAnyC_six (J : Bool → Bool → Bool → Bool → Bool → Bool → Value → Value → Value → Value → Value → Value → World → Prop) (d1 d3 d5 d6 d7 d8 : Nat) {f0 : Nat} {a0 : Act} {w0 : World} (hr : sixAll ops = true)
    (hC : ∀ b1 b3 b5 b6 b7 b8 v1 v3 v5 v6 v7 v8 w, J b1 b3 b5 b6 b7 b8 v1 v3 v5 v6 v7 v8 w → C w)
    (h0 : ∀ v1 v3 v5 v6 v7 v8, J false false false false false false v1 v3 v5 v6 v7 v8 w0)
    (s1 : ∀ b6 b7 b8 v1 v3 v5 v6 v7 v8 w, J false false false b6 b7 b8 v1 v3 v5 v6 v7 v8 w → wpOp P ops Q 1 (fun a' w' => ∃ v, a' = sixA d1 d3 d5 d6 d7 d8 a0 v v3 v5 v6 v7 v8 ∧ J true false false b6 b7 b8 v v3 v5 v6 v7 v8 w') (sixA d1 d3 d5 d6 d7 d8 a0 v1 v3 v5 v6 v7 v8) w)
    (s3 : ∀ b6 b7 b8 v1 v3 v5 v6 v7 v8 w, J true false false b6 b7 b8 v1 v3 v5 v6 v7 v8 w → wpOp P ops Q 3 (fun a' w' => ∃ v, a' = sixA d1 d3 d5 d6 d7 d8 a0 v1 v v5 v6 v7 v8 ∧ J true true false b6 b7 b8 v1 v v5 v6 v7 v8 w') (sixA d1 d3 d5 d6 d7 d8 a0 v1 v3 v5 v6 v7 v8) w)
    (s5 : ∀ b6 b7 b8 v1 v3 v5 v6 v7 v8 w, J true true false b6 b7 b8 v1 v3 v5 v6 v7 v8 w → wpOp P ops Q 5 (fun a' w' => ∃ v, a' = sixA d1 d3 d5 d6 d7 d8 a0 v1 v3 v v6 v7 v8 ∧ J true true true b6 b7 b8 v1 v3 v v6 v7 v8 w') (sixA d1 d3 d5 d6 d7 d8 a0 v1 v3 v5 v6 v7 v8) w)
    (s6 : ∀ b1 b3 b5 b7 b8 v1 v3 v5 v6 v7 v8 w, J b1 b3 b5 false b7 b8 v1 v3 v5 v6 v7 v8 w → wpOp P ops Q 6 (fun a' w' => ∃ v, a' = sixA d1 d3 d5 d6 d7 d8 a0 v1 v3 v5 v v7 v8 ∧ J b1 b3 b5 true b7 b8 v1 v3 v5 v v7 v8 w') (sixA d1 d3 d5 d6 d7 d8 a0 v1 v3 v5 v6 v7 v8) w)
    (s7 : ∀ b1 b3 b5 b6 b8 v1 v3 v5 v6 v7 v8 w, J b1 b3 b5 b6 false b8 v1 v3 v5 v6 v7 v8 w → wpOp P ops Q 7 (fun a' w' => ∃ v, a' = sixA d1 d3 d5 d6 d7 d8 a0 v1 v3 v5 v6 v v8 ∧ J b1 b3 b5 b6 true b8 v1 v3 v5 v6 v v8 w') (sixA d1 d3 d5 d6 d7 d8 a0 v1 v3 v5 v6 v7 v8) w)
    (s8 : ∀ b1 b3 b5 b6 b7 v1 v3 v5 v6 v7 v8 w, J b1 b3 b5 b6 b7 false v1 v3 v5 v6 v7 v8 w → wpOp P ops Q 8 (fun a' w' => ∃ v, a' = sixA d1 d3 d5 d6 d7 d8 a0 v1 v3 v5 v6 v7 v ∧ J b1 b3 b5 b6 b7 true v1 v3 v5 v6 v7 v w') (sixA d1 d3 d5 d6 d7 d8 a0 v1 v3 v5 v6 v7 v8) w)
    (hf : ∀ v1 v3 v5 v6 v7 v8 w, J true true true true true true v1 v3 v5 v6 v7 v8 w → wpAnyC P ops Q C f0 (six true true true true true true) (sixA d1 d3 d5 d6 d7 d8 a0 v1 v3 v5 v6 v7 v8) w) :
    wpAnyC P ops Q C (f0 + 6) (six false false false false false false) a0 w0 := by
  refine wpAnyC_stage (fun m l a w => ∃ b1 b3 b5 b6 b7 b8 v1 v3 v5 v6 v7 v8, l = six b1 b3 b5 b6 b7 b8 ∧ (b3 = true → b1 = true) ∧ (b5 = true → b3 = true) ∧ m = bc b1 + bc b3 + bc b5 + bc b6 + bc b7 + bc b8 ∧ a = sixA d1 d3 d5 d6 d7 d8 a0 v1 v3 v5 v6 v7 v8 ∧ J b1 b3 b5 b6 b7 b8 v1 v3 v5 v6 v7 v8 w) f0 ?_ ?_ ?_ 6 _ a0 w0
    ⟨false, false, false, false, false, false, _, _, _, _, _, _, rfl, (fun h => by cases h), (fun h => by cases h), rfl, (sixA_self d1 d3 d5 d6 d7 d8 a0).symm, h0 _ _ _ _ _ _⟩
  · rintro m l a w ⟨b1, b3, b5, b6, b7, b8, v1, v3, v5, v6, v7, v8, -, -, -, -, -, hJ⟩
    exact hC _ _ _ _ _ _ _ _ _ _ _ _ _ hJ
  · rintro l a w ⟨b1, b3, b5, b6, b7, b8, v1, v3, v5, v6, v7, v8, rfl, -, -, hm, rfl, hJ⟩
    cases b1 <;> cases b3 <;> cases b5 <;> cases b6 <;> cases b7 <;> cases b8 <;> first | exact hf _ _ _ _ _ _ _ hJ | (simp [bc] at hm)
  · rintro m l a w ⟨b1, b3, b5, b6, b7, b8, v1, v3, v5, v6, v7, v8, rfl, h31, h53, hm, rfl, hJ⟩
    have hc := sixAll_at hr b1 b3 b5 b6 b7 b8
    have hrd : Region.ready .any ops (six b1 b3 b5 b6 b7 b8) = sixR b1 b3 b5 b6 b7 b8 := by
      cases b1 <;> cases b3 <;> cases b5 <;> cases b6 <;> cases b7 <;> cases b8 <;> first | (simp [bc] at hm; done) | (simp at h31; done) | (simp at h53; done) | simpa [sixC] using hc
    rw [hrd]
    refine ⟨?_, fun i hi => ?_⟩
    · cases b1 <;> cases b3 <;> cases b5 <;> cases b6 <;> cases b7 <;> cases b8 <;> first | (simp [bc] at hm; done) | simp [sixR]
    · have hcase := six_mem h31 h53 hi
      rcases hcase with ⟨rfl, rfl, rfl, rfl⟩ | ⟨rfl, rfl, rfl, rfl⟩ | ⟨rfl, rfl, rfl, rfl⟩ | ⟨rfl, rfl⟩ | ⟨rfl, rfl⟩ | ⟨rfl, rfl⟩
      · refine wpOp_mono ?_ (s1 _ _ _ _ _ _ _ _ _ _ hJ)
        rintro a' w' ⟨v, rfl, hJ'⟩
        exact ⟨true, false, false, b6, b7, b8, _, _, _, _, _, _, rfl, (fun h => by cases h), (fun h => by cases h), by simp [bc] at hm ⊢; omega, rfl, hJ'⟩
      · refine wpOp_mono ?_ (s3 _ _ _ _ _ _ _ _ _ _ hJ)
        rintro a' w' ⟨v, rfl, hJ'⟩
        exact ⟨true, true, false, b6, b7, b8, _, _, _, _, _, _, rfl, (fun h => rfl), (fun h => by cases h), by simp [bc] at hm ⊢; omega, rfl, hJ'⟩
      · refine wpOp_mono ?_ (s5 _ _ _ _ _ _ _ _ _ _ hJ)
        rintro a' w' ⟨v, rfl, hJ'⟩
        exact ⟨true, true, true, b6, b7, b8, _, _, _, _, _, _, rfl, (fun h => rfl), (fun h => rfl), by simp [bc] at hm ⊢; omega, rfl, hJ'⟩
      · refine wpOp_mono ?_ (s6 _ _ _ _ _ _ _ _ _ _ _ _ hJ)
        rintro a' w' ⟨v, rfl, hJ'⟩
        exact ⟨b1, b3, b5, true, b7, b8, _, _, _, _, _, _, rfl, h31, h53, by simp [bc] at hm ⊢; omega, rfl, hJ'⟩
      · refine wpOp_mono ?_ (s7 _ _ _ _ _ _ _ _ _ _ _ _ hJ)
        rintro a' w' ⟨v, rfl, hJ'⟩
        exact ⟨b1, b3, b5, b6, true, b8, _, _, _, _, _, _, rfl, h31, h53, by simp [bc] at hm ⊢; omega, rfl, hJ'⟩
      · refine wpOp_mono ?_ (s8 _ _ _ _ _ _ _ _ _ _ _ _ hJ)
        rintro a' w' ⟨v, rfl, hJ'⟩
        exact ⟨b1, b3, b5, b6, b7, true, _, _, _, _, _, _, rfl, h31, h53, by simp [bc] at hm ⊢; omega, rfl, hJ'⟩
end
end Go.Proofs.YthijegacjboclaaGreat
/- A stage of a region that draws its order, walked once for each operation, whatever the order: any operations, each behind some others. An append to an empty slice that was just made, in such a stage. No conditions of the program's. -/
namespace Go.Proofs.YthijegacjboclaaGreat
open Go.RowKit

def setB (l : Array Bool) : List Nat → List Bool → Array Bool
  | i :: is, b :: bs => setB (if b then l.setIfInBounds i true else l) is bs
  | _, _ => l
def okB (deps : List (List Nat)) (b : List Bool) : Bool := (deps.zip b).all fun x => !x.2 || x.1.all fun d => b.getD d false
def rdyL (deps : List (List Nat)) (b : List Bool) : List Nat := (List.range b.length).filter fun j => !b.getD j true && (deps.getD j []).all fun d => b.getD d false
def allB : Nat → List (List Bool)
  | 0 => [[]]
  | n + 1 => (allB n).map (false :: ·) ++ (allB n).map (true :: ·)
theorem mem_allB : ∀ (b : List Bool), b ∈ allB b.length
  | [] => by simp [allB]
  | c :: b => by
    have := mem_allB b
    cases c <;> simp [allB, this]
/-- Whether the stage's operations are ready just as the list says. -/
def stgAll (ops : Array Oper) (base : Array Bool) (idx : List Nat) (deps : List (List Nat)) : Bool :=
  (allB idx.length).all fun b => !okB deps b || b.all id ||
    (Region.ready .any ops (setB base idx b) == (rdyL deps b).map (fun j => idx.getD j 0) && !(rdyL deps b).isEmpty &&
      (rdyL deps b).all fun j => setB base idx (b.set j true) == (setB base idx b).setIfInBounds (idx.getD j 0) true && okB deps (b.set j true))
/-- An activation with slots given anew. -/
def putL : List Nat → List Value → Act → Act
  | d :: ds, v :: vs, a => putL ds vs (a.put (some d) v)
  | _, _, a => a
theorem putL_self : ∀ (ds : List Nat) (a : Act), putL ds (ds.map fun d => a.tmps.getD d undef) a = a
  | [], a => rfl
  | d :: ds, a => by
    rw [List.map_cons, putL, put_self]
    exact putL_self ds a
def fals (b : List Bool) : Nat := (b.filter (!·)).length
theorem fals_cons (c : Bool) (b : List Bool) : fals (c :: b) = (if c = true then 0 else 1) + fals b := by
  unfold fals
  cases c
  · rw [List.filter_cons_of_pos (by rfl), List.length_cons, Nat.add_comm]
    rfl
  · rw [List.filter_cons_of_neg (by decide)]
    simp
theorem fals_set : ∀ (b : List Bool) (j : Nat), b.getD j true = false → fals b = fals (b.set j true) + 1
  | [], j, h => by simp at h
  | c :: b, 0, h => by
    rw [List.getD_cons_zero] at h
    subst h
    rw [List.set_cons_zero, fals_cons, fals_cons]
    simp
    omega
  | c :: b, j + 1, h => by
    rw [List.getD_cons_succ] at h
    have ih := fals_set b j h
    rw [List.set_cons_succ, fals_cons, fals_cons]
    omega
theorem all_fals (b : List Bool) (h : b.all id = true) : fals b = 0 := by
  unfold fals
  rw [List.length_eq_zero_iff, List.filter_eq_nil_iff]
  intro x hx
  have := List.all_eq_true.1 h x hx
  simp only [id] at this
  simp [this]
theorem fals_all (b : List Bool) (h : fals b = 0) : b = List.replicate b.length true := by
  refine List.eq_replicate_iff.2 ⟨rfl, fun x hx => ?_⟩
  unfold fals at h
  rw [List.length_eq_zero_iff, List.filter_eq_nil_iff] at h
  simpa using h x hx
section
variable {P : Program} {ops : Array Oper} {Q : Exit → Act → World → Prop} {C : World → Prop}
theorem wpAnyC_stg (idx : List Nat) (deps : List (List Nat)) (dst : List Nat) (J : List Bool → List Value → World → Prop) {n f0 : Nat} {base : Array Bool} {a0 : Act} {w0 : World} (hr : stgAll ops base idx deps = true)
    (hn : idx.length = n) (hd : dst.length = n) (hb0 : setB base idx (List.replicate n false) = base) (hok : okB deps (List.replicate n false) = true)
    (hC : ∀ b vs w, J b vs w → C w) (h0 : ∀ vs, vs.length = n → J (List.replicate n false) vs w0)
    (hs : ∀ j b vs w, j < n → b.length = n → vs.length = n → okB deps b = true → b.getD j true = false → ((deps.getD j []).all fun d => b.getD d false) = true → J b vs w →
      wpOp P ops Q (idx.getD j 0) (fun a' w' => ∃ v, a' = putL dst (vs.set j v) a0 ∧ J (b.set j true) (vs.set j v) w') (putL dst vs a0) w)
    (hf : ∀ vs w, vs.length = n → J (List.replicate n true) vs w → wpAnyC P ops Q C f0 (setB base idx (List.replicate n true)) (putL dst vs a0) w) :
    wpAnyC P ops Q C (f0 + n) base a0 w0 := by
  subst hn
  refine wpAnyC_stage (fun m l a w => ∃ b vs, b.length = idx.length ∧ vs.length = idx.length ∧ l = setB base idx b ∧ okB deps b = true ∧ m = fals b ∧ a = putL dst vs a0 ∧ J b vs w) f0 ?_ ?_ ?_ idx.length base a0 w0
    ⟨List.replicate idx.length false, dst.map fun d => a0.tmps.getD d undef, by simp, by simpa using hd, hb0.symm, hok, by simp [fals], (putL_self dst a0).symm, h0 _ (by simpa using hd)⟩
  · rintro m l a w ⟨b, vs, -, -, -, -, -, -, hJ⟩
    exact hC _ _ _ hJ
  · rintro l a w ⟨b, vs, hb, hv, rfl, -, hm, rfl, hJ⟩
    have e := fals_all b hm.symm
    rw [hb] at e
    rw [e] at hJ ⊢
    exact hf vs w hv hJ
  · rintro m l a w ⟨b, vs, hb, hv, rfl, ho, hm, rfl, hJ⟩
    have h1 := List.all_eq_true.1 hr b (by rw [← hb]; exact mem_allB b)
    have hnall : b.all id = false := by
      rw [← Bool.not_eq_true]
      intro h
      rw [all_fals b h] at hm
      omega
    simp only [ho, hnall, Bool.not_true, Bool.false_or, Bool.and_eq_true, beq_iff_eq] at h1
    obtain ⟨⟨h2, h3⟩, h4⟩ := h1
    rw [h2]
    refine ⟨?_, fun i hi => ?_⟩
    · intro h
      rw [List.map_eq_nil_iff] at h
      rw [h] at h3
      simp at h3
    · obtain ⟨j, hj, rfl⟩ := List.mem_map.1 hi
      have h5 := List.all_eq_true.1 h4 j hj
      simp only [Bool.and_eq_true, beq_iff_eq] at h5
      unfold rdyL at hj
      rw [List.mem_filter, List.mem_range] at hj
      obtain ⟨hjl, hj2⟩ := hj
      simp only [Bool.and_eq_true, Bool.not_eq_true'] at hj2
      refine wpOp_mono ?_ (hs j b vs w (by omega) hb hv ho hj2.1 hj2.2 hJ)
      rintro a' w' ⟨v, rfl, hJ'⟩
      refine ⟨b.set j true, vs.set j v, by simpa using hb, by simpa using hv, h5.1.symm, h5.2, ?_, rfl, hJ'⟩
      have := fals_set b j hj2.1
      omega
end

/-! ### an append to an empty slice that was just made -/
section
variable {P : Program} {w : World}
theorem run_append_nil (base : Nat) (t ty e : TypeId) (i : TypeInfo) (size : Nat) (ht : P.underlying t = some (.slice e)) (hi : P.info? e = some i)
    (v : Value) (n c : Nat) (xs : List Value) (hown : w.ownsRow base e size v n xs) :
    (Builtin.append_ #[t, t] ty #[v, .slice none 0 c]).run P w = .ok v w := by
  rcases hown.2 with ⟨rfl, rfl⟩ | ⟨g, cap, cur, rfl, _, _, hnc, _⟩
  · simp [Builtin.append_, run_underlying ht, sizeOf, typeInfo, hi, Builtin.lenOf, Builtin.firstCells]
  · simp [Builtin.append_, run_underlying ht, sizeOf, typeInfo, hi, Builtin.lenOf, Builtin.firstCells, hnc, storeCells]
theorem wp_copy_own {o : Oper} {a : Act} {K : Act → World → Prop} {Q : Exit → Act → World → Prop} (s x : Operand) (t : TypeId)
    (ho : o.op = .call { callee := .builtin .append, args := #[s, x], argTypes := #[t, t] })
    (base : Nat) (e : TypeId) (i : TypeInfo) (z : Value) (size bytes : Nat) (ht : P.underlying t = some (.slice e)) (hi : P.info? e = some i) (hz : i.zero = some z)
    (hsize : i.size = size) (hby : i.bytes = bytes) (hzs : z.cells.size = size) (hsz : 0 < size) (hb1 : bytes ≤ 1000)
    (g : Nat) (hs : a.eval s = .slice (some ⟨g, 0, none⟩) 0 0) (hown : w.ownsRow base e size (.slice (some ⟨g, 0, none⟩) 0 0) 0 [])
    (B : Option Addr) (n cb : Nat) (xs : List Value) (hx : a.eval x = .slice B n cb) (hl : xs.length = n * size) (hc : n = 0 ∨ ∃ ad, B = some ad) (hcs : ∀ ad, B = some ad → ∀ j u, xs[j]? = some u → w.cell? (ad.add j) = some u) (h1 : ∀ u ∈ xs, u.oneCell' = true)
    (hn : n ≤ 1000000) (hbase : base ≤ w.heap.size)
    (h : ∀ v' w', w'.ownsRow base e size v' n xs → w.grownBy w' (some g) → K (a.put o.dst v') w') : o.wp P a w K Q := by
  cases B with
  | none =>
    have hn0 : n = 0 := by
      rcases hc with h | ⟨ad, h⟩
      · exact h
      · cases h
    subst hn0
    have hx0 : xs = [] := by
      rw [Nat.zero_mul] at hl
      exact List.eq_nil_of_length_eq_zero hl
    subst hx0
    have hr := run_append_nil (P := P) base t o.type e i size ht hi _ 0 cb [] hown
    unfold Oper.wp execOp
    simp only [ho, resolve, invoke, builtin, Sem.run_bind, Sem.run_pure, Result.andThen_ok, List.map_toArray, List.map_cons, List.map_nil, hs, hx, hr]
    exact h _ _ hown ⟨rfl, rfl, rfl, Nat.le_refl _, fun k _ _ => rfl⟩
  | some ad =>
    refine wp_append_own w s x t ho base e i z size bytes ht hi hz hsize hby hzs hsz _ 0 [] hs hown ad n cb xs hx hl (hcs ad rfl) h1 (by unfold maxLen; omega) ?_ hbase fun v' w' h2 h3 _ => h v' w' (by simpa using h2) h3
    rw [Nat.zero_add]
    exact Nat.le_trans (Nat.mul_le_mul hn hb1) (by omega)
/-- Rows of elements of two types have no block in common. -/
theorem own_ne_type {base base' e e' size size' n n' : Nat} {v v' : Value} {xs ys : List Value} (h : w.ownsRow base e size v n xs) (h' : w.ownsRow base' e' size' v' n' ys) (hne : e ≠ e') : v.ownBlock = none ∨ v.ownBlock ≠ v'.ownBlock := by
  rcases h.2 with ⟨rfl, _⟩ | ⟨g, cap, cur, rfl, _, hc, _⟩
  · exact .inl rfl
  · refine .inr fun he => ?_
    rcases h'.2 with ⟨rfl, _⟩ | ⟨g', cap', cur', rfl, _, hc', _⟩
    · cases he
    · simp only [Value.ownBlock, Option.some.injEq] at he
      subst he
      rw [hc] at hc'
      simp only [Option.some.injEq, Obj.cells.injEq] at hc'
      exact hne hc'.2.1
end
end Go.Proofs.YthijegacjboclaaGreat
