/- All elbows as the reference finds them: each list of places that reach the points, tested at its end; the same list as the iterator's. -/
import Derived.Test.YtfgplmgkejeoiaaMeter
namespace Go.Proofs.Ytfgplmgkejeoiaa
open Go.RowKit

def allQ (T : Trk) (m : List Pt) : Nat → List Nat → List (List Nat)
  | 0, first => if areN T m first = true then [first] else []
  | r + 1, first => (List.range T.pts.length).flatMap fun k => if reachB T k (pat m first.length) = true then allQ T m r (first ++ [k]) else []
/-- What the first k places give. -/
def allQTo (T : Trk) (m : List Pt) (r : Nat) (first : List Nat) (k : Nat) : List (List Nat) :=
  (List.range k).flatMap fun k => if reachB T k (pat m first.length) = true then allQ T m r (first ++ [k]) else []
theorem allQTo_full (T : Trk) (m : List Pt) (r : Nat) (first : List Nat) : allQTo T m r first T.pts.length = allQ T m (r + 1) first := rfl
theorem allQTo_yes {T : Trk} {m : List Pt} {r : Nat} {first : List Nat} {k : Nat} (h : reachB T k (pat m first.length) = true) : allQTo T m r first (k + 1) = allQTo T m r first k ++ allQ T m r (first ++ [k]) := by
  simp [allQTo, List.range_succ, List.flatMap_append, h]
theorem allQTo_no {T : Trk} {m : List Pt} {r : Nat} {first : List Nat} {k : Nat} (h : reachB T k (pat m first.length) = false) : allQTo T m r first (k + 1) = allQTo T m r first k := by
  simp [allQTo, List.range_succ, List.flatMap_append, h]
theorem flat_filter {α β : Type} (p : α → Bool) (f : α → List β) : ∀ l : List α, (l.filter p).flatMap f = l.flatMap fun x => if p x = true then f x else []
  | [] => rfl
  | a :: t => by
    rw [List.filter_cons, List.flatMap_cons, ← flat_filter p f t]
    split
    · rw [List.flatMap_cons]
    · rw [List.nil_append]
theorem flat_none {α β : Type} {f : α → List β} : ∀ {l : List α}, (∀ x ∈ l, f x = []) → l.flatMap f = []
  | [], _ => rfl
  | a :: t, h => by
    rw [List.flatMap_cons, h a List.mem_cons_self, flat_none fun x hx => h x (List.mem_cons_of_mem _ hx)]
    rfl
theorem flat_same {α β : Type} {f g : α → List β} : ∀ {l : List α}, (∀ x ∈ l, f x = g x) → l.flatMap f = l.flatMap g
  | [], _ => rfl
  | a :: t, h => by rw [List.flatMap_cons, List.flatMap_cons, h a List.mem_cons_self, flat_same fun x hx => h x (List.mem_cons_of_mem _ hx)]
theorem allQ_bad {T : Trk} {m : List Pt} {i : Nat} (h0 : i ≠ 0) : ∀ (r : Nat) (first : List Nat), i < first.length → (stepV T (nat first (i - 1)) (nat first i)).2 = false → allQ T m r first = []
  | 0, first, hi, hs => by
    rw [allQ, if_neg]
    rw [areN_no (j := i - 1) (by omega)]
    · exact Bool.false_ne_true
    · rw [elOk, nx, show i - 1 + 1 = i by omega, Nat.mod_eq_of_lt hi, hs]
      rfl
  | r + 1, first, hi, hs => by
    rw [allQ]
    refine flat_none fun k _ => ?_
    split
    · refine allQ_bad h0 r _ (by rw [List.length_append]; omega) ?_
      rw [nat_left (by omega), nat_left hi]
      exact hs
    · rfl
theorem allQ_allR {T : Trk} {m : List Pt} : ∀ (r : Nat) (first : List Nat), 0 < first.length + r → (∀ i, i < first.length → reachB T (nat first i) (pat m i) = true ∧ (i ≠ 0 → (stepV T (nat first (i - 1)) (nat first i)).2 = true)) → allQ T m r first = allR T m r first
  | 0, first, hp, ho => by
    rw [allQ, allR]
    have h1 : areN T m first = (stepV T (nat first (first.length - 1)) (nat first 0)).2 := by
      cases hs : (stepV T (nat first (first.length - 1)) (nat first 0)).2 with
      | true =>
        refine areN_yes fun j hj => ?_
        rw [elOk, (ho j hj).1, Bool.and_true, nx]
        by_cases h2 : j + 1 = first.length
        · rw [h2, Nat.mod_self, show j = first.length - 1 by omega]
          exact hs
        · rw [Nat.mod_eq_of_lt (by omega)]
          exact (ho (j + 1) (by omega)).2 (by omega)
      | false =>
        refine areN_no (j := first.length - 1) (by omega) ?_
        rw [elOk, nx, show first.length - 1 + 1 = first.length by omega, Nat.mod_self, hs]
        rfl
    rw [h1]
  | r + 1, first, hp, ho => by
    rw [allQ, allR, plcN, flat_filter]
    refine flat_same fun k _ => ?_
    split
    · rename_i hk
      split
      · rename_i hs
        refine allQ_allR r _ (by rw [List.length_append, List.length_singleton]; omega) fun i hi => ?_
        rw [List.length_append, List.length_singleton] at hi
        by_cases h1 : i = first.length
        · subst h1
          rw [nat_app]
          refine ⟨hk, fun h0 => ?_⟩
          rw [nat_left (by omega)]
          rcases hs with hs | hs
          · exact absurd hs h0
          · exact hs
        · rw [nat_left (by omega)]
          refine ⟨(ho i (by omega)).1, fun h0 => ?_⟩
          rw [nat_left (by omega)]
          exact (ho i (by omega)).2 h0
      · rename_i hs
        rw [not_or] at hs
        refine allQ_bad hs.1 r _ (by simp) ?_
        rw [nat_app, nat_left (by omega)]
        exact Bool.eq_false_iff.2 hs.2
    · rfl
theorem allQ_elbs {T : Trk} {m : List Pt} (hm : 0 < m.length) : allQ T m m.length [] = elbs T m := allQ_allR m.length [] (by simpa using hm) (fun i hi => absurd hi (Nat.not_lt_zero _))
end Go.Proofs.Ytfgplmgkejeoiaa
