/- A region that draws its order, walked by hand in a class of worlds: an operation whose guard does not want it is passed over. No conditions of the program's. -/
import Derived.Test.YtegdnbceiopklaaGreatQc
namespace Go.Proofs.YtegdnbceiopklaaGreat
open Go.RowKit

section
variable {P : Program} {ops : Array Oper} {Q : Exit → Act → World → Prop} {C : World → Prop}
theorem skip_yields {o : Oper} {a : Act} (h : Region.wanted o (yielded ops a.tmps) = false) : Yields P ops (fakeOf o undef) undef a := .inr ⟨h, rfl⟩
theorem firstS {i : Nat} {oi : Oper} (hi : ops[i]? = some oi) (hsel : ∀ (j : Nat) (o : Oper) cs b, ops[j]? = some o → o.op ≠ .select cs b) (hQ : ∀ c a w, Q (.panic c) (a.put oi.dst undef) w → Q (.panic c) a w) :
    ∀ (fuel : Nat) (listed : Array Bool) (a : Act) (w : World),
      (∀ j oj, ops[j]? = some oj → j ≠ i → listed.getD j true = false → (∀ e ∈ oj.after, Region.binds .any e = true → e.on ≠ i) → oi.apart ops oj = true ∧ (fakeOf oi undef).apart ops oj = true) →
      i ∈ Region.ready .any ops listed → Region.wanted oi (yielded ops a.tmps) = false →
      wpAnyC P ops Q C fuel (listed.setIfInBounds i true) (a.put oi.dst undef) w → wpAnyC P ops Q C (fuel + 1) listed a w := by
  intro fuel
  induction fuel with
  | zero =>
    intro listed a w _ hr hwt H
    have hy : ReadsIn P ops C oi undef a := .inr ⟨hwt, rfl⟩
    refine ⟨H.1, fun h => (by rw [h] at hr; cases hr), fun j hj => ?_⟩
    by_cases hji : j = i
    · subst hji; exact hy.wpOp hi H.1 H
    · have := ready_mono hj hji
      rw [H.2.1] at this
      cases this
  | succ fuel ih =>
    intro listed a w hfree hr hwt H
    have hy : ReadsIn P ops C oi undef a := .inr ⟨hwt, rfl⟩
    have hC := H.1
    refine ⟨hC, fun h => (by rw [h] at hr; cases hr), fun j hj => ?_⟩
    by_cases hji : j = i
    · subst hji; exact hy.wpOp hi hC H
    · have h1 := H.2.2 j (ready_mono hj hji)
      obtain ⟨hjun, oj, hoj, hall⟩ := mem_ready.1 hj
      have hnot : ∀ e ∈ oj.after, Region.binds .any e = true → e.on ≠ i := fun e he hb heq => by
        have h2 := hall e he hb
        rw [heq, getD_both (mem_ready.1 hr).1] at h2
        cases h2
      obtain ⟨hap, hapf⟩ := hfree j oj hoj hji hjun hnot
      obtain ⟨b1, b2, b3⟩ := Oper.apart_spec hap
      have hput := wpOp_put (oi := fakeOf oi undef) hoj hapf (fun cs b => by intro h; cases h) (fun cs b => hsel j oj cs b hoj) hQ (skip_yields hwt) h1
      have same : ∀ (a1 : Act), Region.wanted oi (yielded ops a1.tmps) = Region.wanted oi (yielded ops a.tmps) → ∀ u, Region.wanted oi (yielded ops (a1.put oj.dst u).tmps) = false := fun a1 e2 u => (wanted_put oi a1 oj.dst u b3).trans (e2.trans hwt)
      have h3 := wpOp_keep (R := fun a' => Region.wanted oi (yielded ops a'.tmps) = false) hoj (same a rfl) (fun d u => same { a with defers := d :: a.defers } rfl u) hput
      have hfree' : ∀ k ok, ops[k]? = some ok → k ≠ i → (listed.setIfInBounds j true).getD k true = false → (∀ e ∈ ok.after, Region.binds .any e = true → e.on ≠ i) → oi.apart ops ok = true ∧ (fakeOf oi undef).apart ops ok = true := fun k ok hk hki hun hno => by
        refine hfree k ok hk hki ?_ hno
        by_cases hjk : j = k
        · subst hjk; exact hjun
        · rw [getD_set_ne true hjk] at hun; exact hun
      refine wpOp_mono (fun a' w' ⟨hw', _, h4⟩ => ih (listed.setIfInBounds j true) a' w' hfree' (ready_mono hr (Ne.symm hji)) hw' ?_) h3
      rw [Array.setIfInBounds_comm _ _ hji]
      exact h4
theorem wpAnyC_skip {i : Nat} {oi : Oper} {fuel : Nat} {listed : Array Bool} {a : Act} {w : World} (hi : ops[i]? = some oi) (hs : Region.noSelect ops = true) (hf : freeCB ops listed i = true) (hr : (Region.ready .any ops listed).contains i = true)
    (hQ : ∀ c a w, Q (.panic c) (a.put oi.dst undef) w → Q (.panic c) a w) (hw : Region.wanted oi (yielded ops a.tmps) = false)
    (h : wpAnyC P ops Q C fuel (listed.setIfInBounds i true) (a.put oi.dst undef) w) : wpAnyC P ops Q C (fuel + 1) listed a w :=
  firstS hi (Region.noSelect_spec hs) hQ fuel listed a w (freeCB_spec hi hf) (by simpa using hr) hw h
end
end Go.Proofs.YtegdnbceiopklaaGreat
