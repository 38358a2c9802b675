/- Plain: what a dispute with one walk more, or with a corner that can be off by more, answers. -/
import Derived.Test.YthijegacjboclaaGreatPb8
import Derived.Test.YthijegacjboclaaGreatAra
namespace Go.Proofs.YthijegacjboclaaGreat

def moW (D : Dsp) (x : Wk) : Dsp := ⟨D.cs, D.offs, D.unit, D.wh, D.wks ++ [x]⟩
def moO (D : Dsp) (c : Nat) (k : Int) : Dsp := ⟨D.cs, D.offs.set c (iat D.offs c + k), D.unit, D.wh, D.wks⟩
section
variable {D : Dsp}
theorem wat_app {l : List Wk} {x : Wk} {i : Nat} (h : i < l.length) : wat (l ++ [x]) i = wat l i := by
  simp [wat, List.getElem?_append_left h]
theorem ww_more (x : Wk) (a s : Int) : ∃ r : List Nat, r.length ≤ 1 ∧ wwL (moW D x) a s = wwL D a s ++ r := by
  refine ⟨[D.wks.length].filter (wwB (moW D x) a s), by have := List.length_filter_le (wwB (moW D x) a s) [D.wks.length]; simpa using this, ?_⟩
  unfold wwL
  rw [show (moW D x).wks.length = D.wks.length + 1 by simp [moW], List.range_succ, List.filter_append]
  congr 1
  refine List.filter_congr fun i hi => ?_
  unfold wwB
  rw [show wat (moW D x).wks i = wat D.wks i from wat_app (List.mem_range.1 hi)]
  rfl
theorem many_more (x : Wk) (l : List Pt) (s : Int) : (tldOf D l s).many ≤ (tldOf (moW D x) l s).many ∧ (tldOf (moW D x) l s).many ≤ (tldOf D l s).many + 1 := by
  obtain ⟨r, h1, h2⟩ := ww_more (D := D) x (arD D l) s
  have e1 : (tldOf D l s).many = (wcL D l).length + (wwL D (arD D l) s).length := rfl
  have e2 : (tldOf (moW D x) l s).many = (wcL D l).length + (wwL (moW D x) (arD D l) s).length := rfl
  rw [e1, e2, h2, List.length_append]
  omega
theorem lsE_of {o : Option Nat} (hD : dspB D = true) : (o = none → lsE D o = 3 ∧ lsV D o = 0) ∧ ∀ n, o = some n → lsE D o = 0 ∧ lsV D o = n := by
  constructor
  · rintro rfl
    exact ⟨by unfold lsE; rw [if_pos hD], by unfold lsV; rw [if_pos hD]⟩
  · rintro n rfl
    exact ⟨by unfold lsE; rw [if_pos hD], by unfold lsV; rw [if_pos hD]⟩
/-- Fewest of a valid dispute. -/
theorem fw_cases (hD : dspB D = true) : (lsE D (fwO D) = 3 ∧ lsV D (fwO D) = 0 ∧ ∀ t, ¬ isT D t) ∨ ∃ t, minT D t ∧ lsE D (fwO D) = 0 ∧ lsV D (fwO D) = t.many ∧ t.many ≤ 14 := by
  rcases fw_spec (D := D) with ⟨e, h⟩ | ⟨t, ht, e⟩
  · exact .inl ⟨((lsE_of hD).1 e).1, ((lsE_of hD).1 e).2, h⟩
  · have h := dsp_ok hD
    have h6 := h.l6
    have h8 := h.l8
    have hl := isT_len ht.1
    have m1 : t.many = t.wc.length + t.ww.length := rfl
    exact .inr ⟨t, ht, ((lsE_of hD).2 _ e).1, ((lsE_of hD).2 _ e).2, by omega⟩
theorem more_law {x : Wk} (hD : dspB D = true) (hO : dspB (moW D x) = true) :
    lsE (moW D x) (fwO (moW D x)) = lsE D (fwO D) ∧ lsV D (fwO D) ≤ lsV (moW D x) (fwO (moW D x)) ∧ lsV (moW D x) (fwO (moW D x)) ≤ lsV D (fwO D) + 1 := by
  rcases fw_cases hD with ⟨e1, v1, no1⟩ | ⟨t, ht, e1, v1, -⟩ <;> rcases fw_cases hO with ⟨e2, v2, no2⟩ | ⟨u, hu, e2, v2, -⟩
  · rw [e1, e2, v1, v2]; omega
  · obtain ⟨l, s, h1, h2, h3, rfl⟩ := hu.1
    exact absurd ⟨l, s, h1, h2, h3, rfl⟩ (no1 (tldOf D l s))
  · obtain ⟨l, s, h1, h2, h3, rfl⟩ := ht.1
    exact absurd ⟨l, s, h1, h2, h3, rfl⟩ (no2 (tldOf (moW D x) l s))
  · have ht1 := ht.1
    have hu1 := hu.1
    obtain ⟨l, s, h1, h2, h3, el⟩ := ht1
    obtain ⟨l', s', h1', h2', h3', el'⟩ := hu1
    have a1 := hu.2 (tldOf (moW D x) l s) ⟨l, s, h1, h2, h3, rfl⟩
    have a2 := ht.2 (tldOf D l' s') ⟨l', s', h1', h2', h3', rfl⟩
    have b1 := (many_more (D := D) x l s).2
    have b2 := (many_more (D := D) x l' s').1
    rw [← el] at b1
    rw [← el'] at b2
    rw [e1, e2, v1, v2]
    omega
theorem oat_more {c : Nat} {k : Int} (hk : 0 ≤ k) (i : Nat) : oat D i ≤ oat (moO D c k) i := by
  unfold oat moO
  simp only [List.getD_eq_getElem?_getD, List.getElem?_set]
  by_cases h : c = i
  · subst h
    by_cases hc : c < D.offs.length
    · simp [hc, iat]; omega
    · simp [hc]
  · simp [h]
theorem isT_more {c : Nat} {k : Int} (hk : 0 ≤ k) {t : Tld} (h : isT D t) : isT (moO D c k) t := by
  obtain ⟨l, s, ⟨h1, h2, h3⟩, h4, h5, rfl⟩ := h
  refine ⟨l, s, ⟨h1, fun i hi => ?_, h3⟩, h4, h5, rfl⟩
  obtain ⟨a, b, c', d⟩ := h2 i hi
  have ho := oat_more (D := D) (c := c) hk i
  have e : (moO D c k).cs = D.cs := rfl
  exact ⟨by rw [e]; omega, by rw [e]; omega, by rw [e]; omega, by rw [e]; omega⟩
theorem arL_len (D : Dsp) (h : D.wh.ghi - D.wh.glo < 200) (k : Int) : (arL D k).length ≤ 200 := by
  unfold arL
  refine Nat.le_trans (List.length_filter_le _ _) ?_
  rw [List.length_map, List.length_range]
  omega
theorem sub_ints {l m : List Int} (hn : l.Nodup) (h : ∀ i ∈ l, i ∈ m) : subB l m = true := by
  unfold subB
  rw [Bool.and_eq_true]
  refine ⟨?_, ?_⟩
  · rw [List.all_eq_true]
    intro x hx
    rw [decide_eq_true_eq]
    exact h x hx
  · rw [decide_eq_true_eq]
    exact hn.length_le_of_subset h
theorem wide_law {c : Nat} {k : Int} (hk : 0 ≤ k) (hD : dspB D = true) (hP : dspB (moO D c k) = true) (hg : D.wh.ghi - D.wh.glo < 200) {f : Int} (hf : within f 0 14 = true) :
    ((lsE D (fwO D) = 3 ∧ (lsE (moO D c k) (fwO (moO D c k)) = 3 ∨ lsE (moO D c k) (fwO (moO D c k)) = 0)) ∨ (lsE D (fwO D) = 0 ∧ lsE (moO D c k) (fwO (moO D c k)) = 0 ∧ lsV (moO D c k) (fwO (moO D c k)) ≤ lsV D (fwO D))) ∧
    ((arE D f = 3 ∧ (arE (moO D c k) f = 3 ∨ arE (moO D c k) f = 0)) ∨ (arE D f = 0 ∧ arE (moO D c k) f = 0 ∧ subB (arV D f) (arV (moO D c k) f) = true)) ∧ (arV D f).length ≤ 200 ∧ (arV (moO D c k) f).length ≤ 200 := by
  have hsub : ∀ a, a ∈ arL D f → a ∈ arL (moO D c k) f := fun a ha => by
    rw [mem_arL (dsp_ok hD)] at ha
    rw [mem_arL (dsp_ok hP)]
    obtain ⟨t, ht, h1, h2⟩ := arB_iff.1 ha
    exact arB_iff.2 ⟨t, isT_more hk ht, h1, h2⟩
  have v1 : arV D f = arL D f := by unfold arV; rw [if_pos ⟨hD, hf⟩]
  have v2 : arV (moO D c k) f = arL (moO D c k) f := by unfold arV; rw [if_pos ⟨hP, hf⟩]
  have e1 : arE D f = if arL D f = [] then 3 else 0 := by unfold arE; rw [if_pos hD, if_pos hf]
  have e2 : arE (moO D c k) f = if arL (moO D c k) f = [] then 3 else 0 := by unfold arE; rw [if_pos hP, if_pos hf]
  refine ⟨?_, ?_, by rw [v1]; exact arL_len D hg f, by rw [v2]; exact arL_len (moO D c k) hg f⟩
  · rcases fw_cases hD with ⟨a1, b1, no1⟩ | ⟨t, ht, a1, b1, -⟩ <;> rcases fw_cases hP with ⟨a2, b2, no2⟩ | ⟨u, hu, a2, b2, -⟩
    · exact .inl ⟨a1, .inl a2⟩
    · exact .inl ⟨a1, .inr a2⟩
    · exact absurd (isT_more hk ht.1) (no2 t)
    · have := hu.2 t (isT_more hk ht.1)
      exact .inr ⟨a1, a2, by rw [b1, b2]; omega⟩
  · by_cases h0 : arL D f = []
    · rw [if_pos h0] at e1
      refine .inl ⟨e1, ?_⟩
      by_cases h1 : arL (moO D c k) f = []
      · rw [if_pos h1] at e2; exact .inl e2
      · rw [if_neg h1] at e2; exact .inr e2
    · have h1 : arL (moO D c k) f ≠ [] := by
        obtain ⟨a, ha⟩ := List.exists_mem_of_ne_nil _ h0
        exact List.ne_nil_of_mem (hsub a ha)
      rw [if_neg h0] at e1
      rw [if_neg h1] at e2
      exact .inr ⟨e1, e2, by rw [v1, v2]; exact sub_ints (nodup_of_lt (arL_sorted D f)) hsub⟩
end
end Go.Proofs.YthijegacjboclaaGreat
