/-
A region that draws its order and whose first operations nothing of its head waits for: these are taken first, then the head is walked once, in the order of the text, in the class of worlds behind w, then the tail. No conditions of the program's.
-/
import Derived.Test.YtfgplmgkejeoiaaQt
namespace Go.Proofs.Ytfgplmgkejeoiaa
open Go.RowKit

/-- All operations from s up to n are waited for, at last, by operation n. -/
def headFromB (ops : Array Oper) (s n : Nat) : Bool := (List.range n).all fun i => decide (i < s) || (List.range (n + 1)).any fun j => decide (i < j) && Region.waitsFor .any ops j i
/-- What is listed is closed, and nothing of the tail is. -/
def invB (ops : Array Oper) (n : Nat) (listed : Array Bool) : Bool :=
  decide (listed.size = ops.size) && ((List.range ops.size).all fun j => !listed.getD j false || match ops[j]? with | some o => o.after.all fun e => !Region.binds .any e || listed.getD e.on false | none => true) &&
  (List.range ops.size).all fun t => decide (t < n) || !listed.getD t true
def tailFromB (ops : Array Oper) (s n : Nat) (listed : Array Bool) : Bool :=
  Region.noSelect ops && decide (n < ops.size) && decide (s ≤ n) && headFromB ops s n && Region.chainB .any ops n && invB ops n listed && Region.lexHead .any ops (ops.size - n) (n - s) s listed

section
variable {P : Program} {ops : Array Oper} {C : World → Prop}
theorem inv_of {n : Nat} {listed : Array Bool} (h : invB ops n listed = true) : HeadInv .any ops n listed := by
  simp only [invB, Bool.and_eq_true, decide_eq_true_eq, List.all_eq_true, List.mem_range] at h
  obtain ⟨⟨h1, h2⟩, h3⟩ := h
  refine ⟨h1, fun j oj hj hl e he hb => ?_, fun t ht hts => ?_⟩
  · have h4 := h2 j (Array.getElem?_eq_some_iff.1 hj).1
    simp only [hl, Bool.not_true, Bool.false_or, hj] at h4
    have h5 := (Array.all_eq_true_iff_forall_mem.1 h4) e he
    simpa [hb] using h5
  · have h4 := h3 t hts
    simp only [Bool.or_eq_true, decide_eq_true_eq, Bool.not_eq_true'] at h4
    rcases h4 with h4 | h4
    · omega
    · exact h4

/-- Where operation n may start, the whole head has been. -/
theorem head_listed {s n : Nat} {listed : Array Bool} (hs : headFromB ops s n = true) (inv : HeadInv .any ops n listed) {on : Oper} (hon : ops[n]? = some on) (hall : ∀ e ∈ on.after, Region.binds .any e = true → listed.getD e.on false = true) :
    ∀ (d i : Nat), n - i = d → s ≤ i → i < n → listed.getD i false = true := by
  intro d
  induction d using Nat.strongRecOn with
  | _ d ih =>
    intro i hd hsi hi
    have h1 := List.all_eq_true.1 hs i (List.mem_range.2 hi)
    simp only [Bool.or_eq_true, decide_eq_true_eq] at h1
    rcases h1 with h1 | h1
    · omega
    · obtain ⟨j, hj, hj2⟩ := List.any_eq_true.1 h1
      simp only [Bool.and_eq_true, decide_eq_true_eq] at hj2
      have hjn := List.mem_range.1 hj
      obtain ⟨oj, hoj, e, he, hb, rfl⟩ := Region.waitsFor_spec hj2.2
      rcases Nat.lt_or_ge j n with h | h
      · exact inv.closed j oj hoj (ih (n - j) (by omega) j rfl (by omega) h) e he hb
      · obtain rfl : j = n := by omega
        cases hoj.symm.trans hon
        exact hall e he hb
theorem no_tail {s n : Nat} {listed : Array Bool} (hs : headFromB ops s n = true) (hc : Region.chainB .any ops n = true) (inv : HeadInv .any ops n listed) {i : Nat} (hsi : s ≤ i) (hi : i < n) (hun : listed.getD i true = false) :
    ∀ t, n ≤ t → t ∉ Region.ready .any ops listed := by
  intro t ht hr
  obtain ⟨_, ot, hot, hall⟩ := mem_ready.1 hr
  have htlt : t < ops.size := (Array.getElem?_eq_some_iff.1 hot).1
  rcases Nat.lt_or_ge n t with h | h
  · have h1 := List.all_eq_true.1 hc t (List.mem_range.2 htlt)
    simp only [Bool.or_eq_true, decide_eq_true_eq] at h1
    rcases h1 with h1 | h1
    · omega
    · obtain ⟨o', ho', e, he, hb, hon⟩ := Region.waitsFor_spec h1
      cases ho'.symm.trans hot
      have h2 := hall e he hb
      rw [hon, getD_both (inv.tail (t - 1) (by omega) (by omega))] at h2
      cases h2
  · obtain rfl : t = n := by omega
    have h1 := head_listed hs inv hot hall _ i rfl hsi hi
    rw [getD_both hun] at h1
    cases h1

theorem firstFrom {s n i : Nat} {oi : Oper} {v : Value} {L : Array Bool → Act → Prop} (hi : ops[i]? = some oi) (hsel : ∀ (j : Nat) (o : Oper) cs b, ops[j]? = some o → o.op ≠ .select cs b)
    (hs : headFromB ops s n = true) (hc : Region.chainB .any ops n = true) (hsi : s ≤ i) (hin : i < n)
    (hdone : ∀ listed a, L listed a → ∀ j ∈ Region.ready .any ops listed, n ≤ j) :
    ∀ (f : Nat) (listed : Array Bool) (a : Act), HeadInv .any ops n listed →
      (∀ j oj, ops[j]? = some oj → j ≠ i → listed.getD j true = false → (∀ e ∈ oj.after, Region.binds .any e = true → e.on ≠ i) → oi.apart ops oj = true) →
      i ∈ Region.ready .any ops listed → YieldsIn P ops C oi v a →
      wpAnyLQ P .any ops C n L f (listed.setIfInBounds i true) (a.put oi.dst v) → wpAnyLQ P .any ops C n L (f + 1) listed a := by
  intro f
  induction f with
  | zero =>
    intro listed a inv _ hr hy H
    have hun := (mem_ready.1 hr).1
    refine ⟨fun h => (by rw [h] at hr; cases hr), fun j hj => ?_⟩
    have hjn : j < n := by
      rcases Nat.lt_or_ge j n with h | h
      · exact h
      · exact absurd hj (no_tail hs hc inv hsi hin hun j h)
    refine ⟨hjn, ?_⟩
    by_cases hji : j = i
    · subst hji; exact hy.qOp hi H
    · have := hdone _ _ H j (ready_mono hj hji)
      omega
  | succ f ih =>
    intro listed a inv hfree hr hy H
    have hun := (mem_ready.1 hr).1
    refine ⟨fun h => (by rw [h] at hr; cases hr), fun j hj => ?_⟩
    have hjn : j < n := by
      rcases Nat.lt_or_ge j n with h | h
      · exact h
      · exact absurd hj (no_tail hs hc inv hsi hin hun j h)
    refine ⟨hjn, ?_⟩
    by_cases hji : j = i
    · subst hji; exact hy.qOp hi H
    · have h1 := (H.2 j (ready_mono hj hji)).2
      obtain ⟨hjun, oj, hoj, hall⟩ := mem_ready.1 hj
      have hnot : ∀ e ∈ oj.after, Region.binds .any e = true → e.on ≠ i := fun e he hb heq => by
        have h1 := hall e he hb
        rw [heq, getD_both hun] at h1
        cases h1
      have h2 := qOp_put hoj (hfree j oj hoj hji hjun hnot) (fun cs b => hsel i oi cs b hi) (fun cs b => hsel j oj cs b hoj) hy h1
      have hfree' : ∀ k ok, ops[k]? = some ok → k ≠ i → (listed.setIfInBounds j true).getD k true = false →
          (∀ e ∈ ok.after, Region.binds .any e = true → e.on ≠ i) → oi.apart ops ok = true := fun k ok hk hki hun hno => by
        refine hfree k ok hk hki ?_ hno
        by_cases hjk : j = k
        · subst hjk; exact hjun
        · rw [getD_set_ne true hjk] at hun; exact hun
      refine qOp_mono (fun a' h3 => ih (listed.setIfInBounds j true) a' (inv.set hj hjn) hfree' (ready_mono hr (Ne.symm hji)) h3.1 ?_) h2
      rw [Array.setIfInBounds_comm _ _ hji]
      exact h3.2

theorem lexFrom {s n g : Nat} {Lq : Act → Prop} (hsel : Region.noSelect ops = true) (hs : headFromB ops s n = true) (hc : Region.chainB .any ops n = true) :
    ∀ (l : List Oper) (k : Nat) (listed : Array Bool) (a : Act), s ≤ k → (∀ j, j < l.length → l[j]? = ops[k + j]?) → k + l.length = n → HeadInv .any ops n listed →
    Region.lexHead .any ops g l.length k listed = true → wpQuiet P ops C Lq l a →
    wpAnyLQ P .any ops C n (fun listed' a' => Region.seqB .any ops g n listed' = true ∧ Lq a') l.length listed a
  | [], k, listed, a, _, _, hk, _, hB, h => by
    have : k = n := by simpa using hk
    subst this
    exact ⟨by simpa [Region.lexHead] using hB, h⟩
  | o :: l, k, listed, a, hsk, hl, hk, inv, hB, h => by
    have h0 : ops[k]? = some o := by simpa using (hl 0 (by simp)).symm
    simp only [List.length_cons, Region.lexHead, Bool.and_eq_true] at hB
    obtain ⟨⟨hr, hf⟩, hB'⟩ := hB
    have hkn : k < n := by simp only [List.length_cons] at hk; omega
    have hr' : k ∈ Region.ready .any ops listed := by simpa using hr
    have hst : qOp P ops C k (wpQuiet P ops C Lq l) a := by unfold qOp; simp only [h0]; exact h
    obtain ⟨v, hy, hK⟩ := yieldsIn_of_qOp h0 hst
    exact firstFrom h0 (Region.noSelect_spec hsel) hs hc hsk hkn (fun listed' a' hL => seqB_ready hL.1) l.length listed a inv (Region.free_spec h0 hf) hr' hy
      (lexFrom hsel hs hc l (k + 1) _ _ (by omega) (fun j hj => by have := hl (j + 1) (by simp; omega); simpa [Nat.add_assoc, Nat.add_comm 1 j] using this) (by simp only [List.length_cons] at hk; omega) (inv.set hr' hkn) hB' hK)

theorem wpAny_tail_from {Q : Exit → Act → World → Prop} {a : Act} {w : World} {l : List Oper} {listed : Array Bool} (s n : Nat) (hC : C w) (hB : tailFromB l.toArray s n listed = true)
    (h : wpQuiet P l.toArray C (fun a' => ∀ w', C w' → wpList P l.toArray Q (l.drop n) a' w') ((l.take n).drop s) a) : wpAny P .any l.toArray Q (l.toArray.size - s) listed a w := by
  simp only [tailFromB, Bool.and_eq_true, decide_eq_true_eq] at hB
  obtain ⟨⟨⟨⟨⟨⟨hsel, hn⟩, hsn⟩, hs⟩, hc⟩, hinv⟩, hlex⟩ := hB
  have hn' : n < l.length := by simpa using hn
  have htl : ((l.take n).drop s).length = n - s := by simp; omega
  have hdl : (l.drop n).length = l.toArray.size - n := by simp
  have H := lexFrom (g := l.toArray.size - n) hsel hs hc ((l.take n).drop s) s listed a (Nat.le_refl _) (fun j hj => by
    have hj' : s + j < n := by omega
    simp [List.getElem?_drop, hj']) (by omega) (inv_of hinv) (by rw [htl]; exact hlex) h
  have := wpAny_of_headQ (Q' := Q) (g := l.toArray.size - n) (fun listed a' w1 hw1 hL => by
    have := wpAny_of_seq (md := .any) (Q' := Q) (l.drop n) n listed a' w1 (fun j => by simp [List.getElem?_drop]) (by rw [hdl]; exact hL.1) (hL.2 w1 hw1)
    rwa [hdl] at this) _ _ _ w hC H
  rw [htl, show n - s + (l.toArray.size - n) = l.toArray.size - s by omega] at this
  exact this
/-- The first operation is taken ahead; operations 1 .. n - 1 read or call quietly; the rest come last, in one order. -/
theorem wp_region_after_tail1 {id : Nat} {Q : Exit → Act → World → Prop} {a : Act} {w : World} {o0 : Oper} {l : List Oper} {v : Value} (n : Nat) (hm : P.follows .mixedOrders = true)
    (hsel : Region.noSelect (o0 :: l).toArray = true) (hf : Region.free .any (o0 :: l).toArray (Array.replicate (o0 :: l).toArray.size false) 0 = true) (hr : (Region.ready .any (o0 :: l).toArray (Array.replicate (o0 :: l).toArray.size false)).contains 0 = true)
    (hB : tailFromB (o0 :: l).toArray 1 n ((Array.replicate (o0 :: l).toArray.size false).setIfInBounds 0 true) = true)
    (hQ : ∀ c a w, Q (.panic c) (a.put o0.dst v) w → Q (.panic c) a w) (hy : Yields P (o0 :: l).toArray o0 v a)
    (h : wpQuiet P (o0 :: l).toArray (fun w' => ∃ z : After w, w' = z.val) (fun a' => ∀ w', (∃ z : After w, w' = z.val) → wpList P (o0 :: l).toArray Q ((o0 :: l).drop n) a' w') (((o0 :: l).take n).drop 1) (a.put o0.dst v)) :
    (Code.region id (o0 :: l).toArray true).wp P Q a w := by
  refine wp_region_any hm ?_
  have H := wpAny_tail_from (C := fun w' => ∃ z : After w, w' = z.val) (w := { w with drawn := w.drawn + 1 }) 1 n ⟨⟨_, (Below.refl _ _).drew⟩, rfl⟩ hB h
  have e : (o0 :: l).toArray.size = (o0 :: l).toArray.size - 1 + 1 := by simp
  rw [show wpAny P .any (o0 :: l).toArray Q (o0 :: l).toArray.size = wpAny P .any (o0 :: l).toArray Q ((o0 :: l).toArray.size - 1 + 1) by rw [← e]]
  exact wpAny_take rfl hsel hf hr hQ hy H
end
end Go.Proofs.Ytfgplmgkejeoiaa
