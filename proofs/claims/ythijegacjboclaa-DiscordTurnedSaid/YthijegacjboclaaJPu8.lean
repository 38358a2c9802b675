/- Plain: what a dispute with one walk more, or with a corner that can be off by more, answers. -/
import Derived.Test.YthijegacjboclaaPb8
import Derived.Test.YthijegacjboclaaAra
import Derived.Test.YthijegacjboclaaJTut
namespace Go.Proofs.Ythijegacjboclaa

def moW (D : Dsp) (x : Wk) : Dsp := ⟨D.cs, D.offs, D.unit, D.wh, D.wks ++ [x]⟩
def moO (D : Dsp) (c : Nat) (k : Int) : Dsp := ⟨D.cs, D.offs.set c (iat D.offs c + k), D.unit, D.wh, D.wks⟩
section
variable {D : Dsp}
theorem wat_app {l : List Wk} {x : Wk} {i : Nat} (h : i < l.length) : wat (l ++ [x]) i = wat l i := by
  simp [wat, List.getElem?_append_left h]
theorem ww_more (x : Wk) (a s : Int) : ∃ r : List Nat, r.length ≤ 1 ∧ wwL (moW D x) a s = wwL D a s ++ r := by
  refine ⟨[D.wks.length].filter (wwB (moW D x) a s), by have := List.length_filter_le (wwB (moW D x) a s) [D.wks.length]; simpa using this, ?_⟩
  unfold wwL
  rw [show (moW D x).wks.length = D.wks.length + 1 by simp [moW], List.range_succ, List.filter_append]
  congr 1
  refine List.filter_congr fun i hi => ?_
  unfold wwB
  rw [show wat (moW D x).wks i = wat D.wks i from wat_app (List.mem_range.1 hi)]
  rfl
theorem many_more (x : Wk) (l : List Pt) (s : Int) : (tldOf D l s).many ≤ (tldOf (moW D x) l s).many ∧ (tldOf (moW D x) l s).many ≤ (tldOf D l s).many + 1 := by
  obtain ⟨r, h1, h2⟩ := ww_more (D := D) x (arD D l) s
  have e1 : (tldOf D l s).many = (wcL D l).length + (wwL D (arD D l) s).length := rfl
  have e2 : (tldOf (moW D x) l s).many = (wcL D l).length + (wwL (moW D x) (arD D l) s).length := rfl
  rw [e1, e2, h2, List.length_append]
  omega
theorem lsE_of {o : Option Nat} (hD : dspB D = true) : (o = none → lsE D o = 3 ∧ lsV D o = 0) ∧ ∀ n, o = some n → lsE D o = 0 ∧ lsV D o = n := by
  constructor
  · rintro rfl
    exact ⟨by unfold lsE; rw [if_pos hD], by unfold lsV; rw [if_pos hD]⟩
  · rintro n rfl
    exact ⟨by unfold lsE; rw [if_pos hD], by unfold lsV; rw [if_pos hD]⟩
/-- Fewest of a valid dispute. -/
theorem fw_cases (hD : dspB D = true) : (lsE D (fwO D) = 3 ∧ lsV D (fwO D) = 0 ∧ ∀ t, ¬ isT D t) ∨ ∃ t, minT D t ∧ lsE D (fwO D) = 0 ∧ lsV D (fwO D) = t.many ∧ t.many ≤ 14 := by
  rcases fw_spec (D := D) with ⟨e, h⟩ | ⟨t, ht, e⟩
  · exact .inl ⟨((lsE_of hD).1 e).1, ((lsE_of hD).1 e).2, h⟩
  · have h := dsp_ok hD
    have h6 := h.l6
    have h8 := h.l8
    have hl := isT_len ht.1
    have m1 : t.many = t.wc.length + t.ww.length := rfl
    exact .inr ⟨t, ht, ((lsE_of hD).2 _ e).1, ((lsE_of hD).2 _ e).2, by omega⟩
theorem more_law {x : Wk} (hD : dspB D = true) (hO : dspB (moW D x) = true) :
    lsE (moW D x) (fwO (moW D x)) = lsE D (fwO D) ∧ lsV D (fwO D) ≤ lsV (moW D x) (fwO (moW D x)) ∧ lsV (moW D x) (fwO (moW D x)) ≤ lsV D (fwO D) + 1 := by
  rcases fw_cases hD with ⟨e1, v1, no1⟩ | ⟨t, ht, e1, v1, -⟩ <;> rcases fw_cases hO with ⟨e2, v2, no2⟩ | ⟨u, hu, e2, v2, -⟩
  · rw [e1, e2, v1, v2]; omega
  · obtain ⟨l, s, h1, h2, h3, rfl⟩ := hu.1
    exact absurd ⟨l, s, h1, h2, h3, rfl⟩ (no1 (tldOf D l s))
  · obtain ⟨l, s, h1, h2, h3, rfl⟩ := ht.1
    exact absurd ⟨l, s, h1, h2, h3, rfl⟩ (no2 (tldOf (moW D x) l s))
  · have ht1 := ht.1
    have hu1 := hu.1
    obtain ⟨l, s, h1, h2, h3, el⟩ := ht1
    obtain ⟨l', s', h1', h2', h3', el'⟩ := hu1
    have a1 := hu.2 (tldOf (moW D x) l s) ⟨l, s, h1, h2, h3, rfl⟩
    have a2 := ht.2 (tldOf D l' s') ⟨l', s', h1', h2', h3', rfl⟩
    have b1 := (many_more (D := D) x l s).2
    have b2 := (many_more (D := D) x l' s').1
    rw [← el] at b1
    rw [← el'] at b2
    rw [e1, e2, v1, v2]
    omega
theorem oat_more {c : Nat} {k : Int} (hk : 0 ≤ k) (i : Nat) : oat D i ≤ oat (moO D c k) i := by
  unfold oat moO
  simp only [List.getD_eq_getElem?_getD, List.getElem?_set]
  by_cases h : c = i
  · subst h
    by_cases hc : c < D.offs.length
    · simp [hc, iat]; omega
    · simp [hc]
  · simp [h]
theorem isT_more {c : Nat} {k : Int} (hk : 0 ≤ k) {t : Tld} (h : isT D t) : isT (moO D c k) t := by
  obtain ⟨l, s, ⟨h1, h2, h3⟩, h4, h5, rfl⟩ := h
  refine ⟨l, s, ⟨h1, fun i hi => ?_, h3⟩, h4, h5, rfl⟩
  obtain ⟨a, b, c', d⟩ := h2 i hi
  have ho := oat_more (D := D) (c := c) hk i
  have e : (moO D c k).cs = D.cs := rfl
  exact ⟨by rw [e]; omega, by rw [e]; omega, by rw [e]; omega, by rw [e]; omega⟩
theorem arL_len (D : Dsp) (h : D.wh.ghi - D.wh.glo < 200) (k : Int) : (arL D k).length ≤ 200 := by
  unfold arL
  refine Nat.le_trans (List.length_filter_le _ _) ?_
  rw [List.length_map, List.length_range]
  omega
theorem sub_ints {l m : List Int} (hn : l.Nodup) (h : ∀ i ∈ l, i ∈ m) : subB l m = true := by
  unfold subB
  rw [Bool.and_eq_true]
  refine ⟨?_, ?_⟩
  · rw [List.all_eq_true]
    intro x hx
    rw [decide_eq_true_eq]
    exact h x hx
  · rw [decide_eq_true_eq]
    exact hn.length_le_of_subset h
theorem wide_law {c : Nat} {k : Int} (hk : 0 ≤ k) (hD : dspB D = true) (hP : dspB (moO D c k) = true) (hg : D.wh.ghi - D.wh.glo < 200) {f : Int} (hf : within f 0 14 = true) :
    ((lsE D (fwO D) = 3 ∧ (lsE (moO D c k) (fwO (moO D c k)) = 3 ∨ lsE (moO D c k) (fwO (moO D c k)) = 0)) ∨ (lsE D (fwO D) = 0 ∧ lsE (moO D c k) (fwO (moO D c k)) = 0 ∧ lsV (moO D c k) (fwO (moO D c k)) ≤ lsV D (fwO D))) ∧
    ((arE D f = 3 ∧ (arE (moO D c k) f = 3 ∨ arE (moO D c k) f = 0)) ∨ (arE D f = 0 ∧ arE (moO D c k) f = 0 ∧ subB (arV D f) (arV (moO D c k) f) = true)) ∧ (arV D f).length ≤ 200 ∧ (arV (moO D c k) f).length ≤ 200 := by
  have hsub : ∀ a, a ∈ arL D f → a ∈ arL (moO D c k) f := fun a ha => by
    rw [mem_arL (dsp_ok hD)] at ha
    rw [mem_arL (dsp_ok hP)]
    obtain ⟨t, ht, h1, h2⟩ := arB_iff.1 ha
    exact arB_iff.2 ⟨t, isT_more hk ht, h1, h2⟩
  have v1 : arV D f = arL D f := by unfold arV; rw [if_pos ⟨hD, hf⟩]
  have v2 : arV (moO D c k) f = arL (moO D c k) f := by unfold arV; rw [if_pos ⟨hP, hf⟩]
  have e1 : arE D f = if arL D f = [] then 3 else 0 := by unfold arE; rw [if_pos hD, if_pos hf]
  have e2 : arE (moO D c k) f = if arL (moO D c k) f = [] then 3 else 0 := by unfold arE; rw [if_pos hP, if_pos hf]
  refine ⟨?_, ?_, by rw [v1]; exact arL_len D hg f, by rw [v2]; exact arL_len (moO D c k) hg f⟩
  · rcases fw_cases hD with ⟨a1, b1, no1⟩ | ⟨t, ht, a1, b1, -⟩ <;> rcases fw_cases hP with ⟨a2, b2, no2⟩ | ⟨u, hu, a2, b2, -⟩
    · exact .inl ⟨a1, .inl a2⟩
    · exact .inl ⟨a1, .inr a2⟩
    · exact absurd (isT_more hk ht.1) (no2 t)
    · have := hu.2 t (isT_more hk ht.1)
      exact .inr ⟨a1, a2, by rw [b1, b2]; omega⟩
  · by_cases h0 : arL D f = []
    · rw [if_pos h0] at e1
      refine .inl ⟨e1, ?_⟩
      by_cases h1 : arL (moO D c k) f = []
      · rw [if_pos h1] at e2; exact .inl e2
      · rw [if_neg h1] at e2; exact .inr e2
    · have h1 : arL (moO D c k) f ≠ [] := by
        obtain ⟨a, ha⟩ := List.exists_mem_of_ne_nil _ h0
        exact List.ne_nil_of_mem (hsub a ha)
      rw [if_neg h0] at e1
      rw [if_neg h1] at e2
      exact .inr ⟨e1, e2, by rw [v1, v2]; exact sub_ints (nodup_of_lt (arL_sorted D f)) hsub⟩
end
end Go.Proofs.Ythijegacjboclaa
/- Plain: a dispute whose corners begin with another one, or whose walks come in another order, or whose X and Y are exchanged, is answered the same. -/
namespace Go.Proofs.Ythijegacjboclaa

/-- Each story of D is one of E, with as many faults of either kind. -/
def Sim (D E : Dsp) : Prop := ∀ t, isT D t → ∃ u, isT E u ∧ u.area = t.area ∧ u.wc.length = t.wc.length ∧ u.ww.length = t.ww.length
theorem lst_sim {P Q : Tld → Prop} (h1 : ∀ t, P t → ∃ u, Q u ∧ u.many = t.many) (h2 : ∀ t, Q t → ∃ u, P u ∧ u.many = t.many) : lst Q Tld.many = lst P Tld.many := by
  have h := lst_ok P Tld.many
  refine lst_of (o := lst P Tld.many) ?_
  generalize lst P Tld.many = o at h
  cases o with
  | none =>
    intro u hu
    obtain ⟨t, ht, _⟩ := h2 u hu
    exact h t ht
  | some n =>
    obtain ⟨⟨t, ht, rfl⟩, hm⟩ := h
    obtain ⟨u, hu, e⟩ := h1 t ht
    refine ⟨⟨u, hu, e⟩, fun v hv => ?_⟩
    obtain ⟨w, hw, e2⟩ := h2 v hv
    rw [← e2]
    exact hm w hw
theorem many_def (t : Tld) : t.many = t.wc.length + t.ww.length := rfl
theorem nil_len {l m : List Nat} (h : l.length = m.length) (hm : m = []) : l = [] := by
  subst hm
  exact List.length_eq_zero_iff.1 h
section
variable {D E : Dsp} (h1 : Sim D E) (h2 : Sim E D)
include h1 h2
theorem sim_fw : fwO E = fwO D :=
  lst_sim (fun t ht => by obtain ⟨u, hu, _, a, b⟩ := h1 t ht; exact ⟨u, hu, by rw [many_def, many_def, a, b]⟩) (fun t ht => by obtain ⟨u, hu, _, a, b⟩ := h2 t ht; exact ⟨u, hu, by rw [many_def, many_def, a, b]⟩)
theorem sim_cn : cnO E = cnO D :=
  lst_sim (fun t ht => by obtain ⟨u, hu, _, a, b⟩ := h1 t ht.1; exact ⟨u, ⟨hu, nil_len b ht.2⟩, by rw [many_def, many_def, a, b]⟩) (fun t ht => by obtain ⟨u, hu, _, a, b⟩ := h2 t ht.1; exact ⟨u, ⟨hu, nil_len b ht.2⟩, by rw [many_def, many_def, a, b]⟩)
theorem sim_wl : wlO E = wlO D :=
  lst_sim (fun t ht => by obtain ⟨u, hu, _, a, b⟩ := h1 t ht.1; exact ⟨u, ⟨hu, nil_len a ht.2⟩, by rw [many_def, many_def, a, b]⟩) (fun t ht => by obtain ⟨u, hu, _, a, b⟩ := h2 t ht.1; exact ⟨u, ⟨hu, nil_len a ht.2⟩, by rw [many_def, many_def, a, b]⟩)
theorem sim_ar (hw : E.wh = D.wh) (k : Int) : arL E k = arL D k := by
  have e : arB E k = arB D k := by
    funext a
    rw [Bool.eq_iff_iff, arB_iff, arB_iff]
    constructor
    · rintro ⟨t, ht, hk, ha⟩
      obtain ⟨u, hu, a0, a1, a2⟩ := h2 t ht
      exact ⟨u, hu, by rw [many_def, a1, a2]; exact hk, by rw [a0]; exact ha⟩
    · rintro ⟨t, ht, hk, ha⟩
      obtain ⟨u, hu, a0, a1, a2⟩ := h1 t ht
      exact ⟨u, hu, by rw [many_def, a1, a2]; exact hk, by rw [a0]; exact ha⟩
  unfold arL
  rw [e, hw]
end
/-- What two disputes say alike. -/
structure Same8 (D E : Dsp) : Prop where
  fv : lsV E (fwO E) = lsV D (fwO D)
  fe : lsE E (fwO E) = lsE D (fwO D)
  cv : lsV E (cnO E) = lsV D (cnO D)
  ce : lsE E (cnO E) = lsE D (cnO D)
  wv : lsV E (wlO E) = lsV D (wlO D)
  we : lsE E (wlO E) = lsE D (wlO D)
  av : ∀ k, arV E k = arV D k
  ae : ∀ k, arE E k = arE D k
theorem same_of {D E : Dsp} (hD : dspB D = true) (hE : dspB E = true) (h1 : Sim D E) (h2 : Sim E D) (hw : E.wh = D.wh) : Same8 D E := by
  have e1 := sim_fw h1 h2
  have e2 := sim_cn h1 h2
  have e3 := sim_wl h1 h2
  have e4 := sim_ar h1 h2 hw
  constructor
  · unfold lsV; rw [if_pos hD, if_pos hE, e1]
  · unfold lsE; rw [if_pos hD, if_pos hE, e1]
  · unfold lsV; rw [if_pos hD, if_pos hE, e2]
  · unfold lsE; rw [if_pos hD, if_pos hE, e2]
  · unfold lsV; rw [if_pos hD, if_pos hE, e3]
  · unfold lsE; rw [if_pos hD, if_pos hE, e3]
  · intro k; unfold arV; simp only [hD, hE, e4]
  · intro k; unfold arE; rw [if_pos hD, if_pos hE, e4]

/-- X and Y exchanged. -/
def swD (D : Dsp) : Dsp := ⟨D.cs.map swp, D.offs, D.unit, D.wh, D.wks⟩
theorem swD_swD (D : Dsp) : swD (swD D) = D := by
  obtain ⟨cs, o, u, wh, k⟩ := D
  unfold swD
  simp only [List.map_map, Dsp.mk.injEq, and_true]
  exact List.map_id _
theorem swD_ok {D : Dsp} (h : dspB D = true) : dspB (swD D) = true := by
  simp only [dspB, Bool.and_eq_true, decide_eq_true_eq] at h ⊢
  obtain ⟨⟨⟨⟨⟨h1, h2⟩, h3⟩, h4⟩, h5⟩, h6⟩ := h
  exact ⟨⟨⟨⟨⟨ok_swp h1, by simpa [swD] using h2⟩, by simpa [swD] using h3⟩, h4⟩, h5⟩, h6⟩
theorem arD_swp (D : Dsp) (l : List Pt) : arD (swD D) (l.map swp) = arD D l := by
  unfold arD
  rw [tw_swp, show max (-tw l) (- -tw l) = max (tw l) (-tw l) by omega]
  rfl
theorem sim_swD {D : Dsp} : Sim D (swD D) := by
  rintro _ ⟨l, s, ⟨h1, h2, h3⟩, h4, h5, rfl⟩
  have hlen : (swD D).cs.length = D.cs.length := List.length_map _
  have hw : wcL (swD D) (l.map swp) = wcL D l := by
    unfold wcL
    rw [hlen]
    refine List.filter_congr fun i hi => ?_
    have hi := List.mem_range.1 hi
    unfold wcB
    rw [show (swD D).cs = D.cs.map swp from rfl, pat_swp hi, pat_swp (by omega)]
    congr 1
    refine decide_eq_decide.2 ⟨fun h => ?_, fun h => by rw [h]⟩
    rw [← swp_swp (pat l i), h, swp_swp]
  refine ⟨tldOf (swD D) (l.map swp) s, ⟨l.map swp, s, ⟨by rw [hlen, List.length_map, h1], fun i hi => ?_, ok_swp h3⟩, ?_, h5, rfl⟩, ?_, ?_, ?_⟩
  · rw [hlen] at hi
    obtain ⟨a, b, c, d⟩ := h2 i hi
    unfold near
    rw [show (swD D).cs = D.cs.map swp from rfl, pat_swp hi, pat_swp (by omega)]
    exact ⟨c, d, a, b⟩
  · unfold gesP
    rw [arD_swp]
    exact h4
  · exact arD_swp D l
  · show (wcL (swD D) (l.map swp)).length = (wcL D l).length
    rw [hw]
  · show (wwL (swD D) (arD (swD D) (l.map swp)) s).length = (wwL D (arD D l) s).length
    rw [arD_swp]
    rfl
theorem same_swD {D : Dsp} (h : dspB D = true) : Same8 D (swD D) :=
  same_of h (swD_ok h) sim_swD (by have := sim_swD (D := swD D); rwa [swD_swD] at this) rfl

/-- The list that begins with element f. -/
def rotL {α : Type} (l : List α) (f : Nat) : List α := l.drop f ++ l.take f
theorem rotL_len {α : Type} (l : List α) (f : Nat) : (rotL l f).length = l.length := by
  unfold rotL
  simp
  omega
theorem rotL_at {α : Type} {l : List α} {f i : Nat} (hf : f < l.length) (hi : i < l.length) : (rotL l f)[i]? = l[(f + i) % l.length]? := by
  unfold rotL
  rw [List.getElem?_append, List.length_drop]
  split
  · rw [List.getElem?_drop, Nat.mod_eq_of_lt (by omega)]
  · rw [List.getElem?_take, if_pos (by omega), Nat.mod_eq_sub_mod (by omega), Nat.mod_eq_of_lt (by omega)]
    congr 1
    omega
theorem rotL_rotL {α : Type} {l : List α} {f : Nat} (hf : f < l.length) : rotL (rotL l f) ((l.length - f) % l.length) = l := by
  rcases Nat.eq_zero_or_pos f with rfl | hp
  · rw [Nat.sub_zero, Nat.mod_self]
    simp [rotL]
  · rw [Nat.mod_eq_of_lt (by omega)]
    unfold rotL
    rw [show l.length - f = (l.drop f).length by simp, List.drop_left', List.take_left']
    · exact List.take_append_drop f l
    · rfl
    · rfl
theorem rotL_map {α β : Type} (g : α → β) (l : List α) (f : Nat) : (rotL l f).map g = rotL (l.map g) f := by
  simp [rotL, List.map_drop, List.map_take]
theorem rotL_perm {α : Type} (l : List α) (f : Nat) : (rotL l f).Perm l := by
  unfold rotL
  have h := List.perm_append_comm (l₁ := l.drop f) (l₂ := l.take f)
  rwa [List.take_append_drop] at h
theorem range_rot {n f : Nat} (hf : f < n) : (List.range n).map (fun i => (f + i) % n) = rotL (List.range n) f := by
  refine List.ext_getElem? fun i => ?_
  by_cases hi : i < n
  · rw [rotL_at (by simpa using hf) (by simpa using hi), List.length_range, List.getElem?_map, List.getElem?_range hi, List.getElem?_range (Nat.mod_lt _ (by omega))]
    rfl
  · rw [List.getElem?_eq_none (by simp; omega), List.getElem?_eq_none (by rw [rotL_len]; simp; omega)]
/-- As many numbers are so, from whichever one they are counted. -/
theorem fil_rot {n f : Nat} (hf : f < n) (p : Nat → Bool) : ((List.range n).filter fun i => p ((f + i) % n)).length = ((List.range n).filter p).length := by
  have h : ((List.range n).map (fun i => (f + i) % n)).filter p = ((List.range n).filter fun i => p ((f + i) % n)).map (fun i => (f + i) % n) := by
    rw [List.filter_map]
    rfl
  rw [← List.length_map (f := fun i => (f + i) % n), ← h, range_rot hf]
  exact ((rotL_perm _ f).filter p).length_eq
theorem fil_rev {n : Nat} (p : Nat → Bool) : ((List.range n).filter fun i => p (n - 1 - i)).length = ((List.range n).filter p).length := by
  have e : (List.range n).map (fun i => n - 1 - i) = (List.range n).reverse := by
    refine List.ext_getElem? fun i => ?_
    by_cases hi : i < n
    · rw [List.getElem?_map, List.getElem?_range hi, List.getElem?_reverse (by simpa using hi), List.length_range, List.getElem?_range (by omega)]
      rfl
    · rw [List.getElem?_eq_none (by simp; omega), List.getElem?_eq_none (by simp; omega)]
  have h : ((List.range n).map (fun i => n - 1 - i)).filter p = ((List.range n).filter fun i => p (n - 1 - i)).map (fun i => n - 1 - i) := by
    rw [List.filter_map]
    rfl
  rw [← List.length_map (f := fun i => n - 1 - i), ← h, e]
  exact ((List.reverse_perm _).filter p).length_eq
/-- Another corner first, the walks backwards. -/
def roD (D : Dsp) (f : Nat) : Dsp := ⟨rotL D.cs f, rotL D.offs f, D.unit, D.wh, D.wks.reverse⟩
theorem ok_rotL {l : List Pt} (h : Ok l) (f : Nat) : Ok (rotL l f) := by
  unfold rotL
  exact ok_rot (by rwa [List.take_append_drop])
theorem tw_rotL (l : List Pt) (f : Nat) : tw (rotL l f) = tw l := by
  have h : (ring l).Perm (ring (rotL l f)) := by
    unfold rotL
    have := ring_rot (l.take f) (l.drop f)
    rwa [List.take_append_drop] at this
  exact (sum_perm oneF h).symm
theorem pat_rotL {l : List Pt} {f i : Nat} (hf : f < l.length) (hi : i < l.length) : pat (rotL l f) i = pat l ((f + i) % l.length) := by
  unfold pat
  rw [List.getD_eq_getElem?_getD, List.getD_eq_getElem?_getD, rotL_at hf hi]
theorem wat_rev {l : List Wk} {i : Nat} (hi : i < l.length) : wat l.reverse i = wat l (l.length - 1 - i) := by
  unfold wat
  rw [List.getD_eq_getElem?_getD, List.getD_eq_getElem?_getD, List.getElem?_reverse hi]
theorem roD_ok {D : Dsp} (h : dspB D = true) (f : Nat) : dspB (roD D f) = true := by
  simp only [dspB, Bool.and_eq_true, decide_eq_true_eq] at h ⊢
  obtain ⟨⟨⟨⟨⟨h1, h2⟩, h3⟩, h4⟩, h5⟩, h6⟩ := h
  refine ⟨⟨⟨⟨⟨ok_rotL h1 f, by rw [show (roD D f).cs = rotL D.cs f from rfl, rotL_len]; exact h2⟩, by rw [show (roD D f).cs = rotL D.cs f from rfl, show (roD D f).offs = rotL D.offs f from rfl, rotL_len, rotL_len]; exact h3⟩, ?_⟩, h5⟩, ?_⟩
  · rw [List.all_eq_true] at h4 ⊢
    intro x hx
    exact h4 x ((rotL_perm D.offs f).mem_iff.1 hx)
  · have e : whE (roD D f).wh (roD D f).wks = whE D.wh D.wks := by
      show whE D.wh D.wks.reverse = whE D.wh D.wks
      unfold whE
      rw [List.length_reverse, List.all_reverse]
    rw [e]
    exact h6
theorem roD_back {D : Dsp} (hl : D.offs.length = D.cs.length) {f : Nat} (hf : f < D.cs.length) : roD (roD D f) ((D.cs.length - f) % D.cs.length) = D := by
  obtain ⟨cs, o, u, wh, k⟩ := D
  simp only at hl hf
  simp only [roD, Dsp.mk.injEq, List.reverse_reverse, and_true, true_and]
  refine ⟨rotL_rotL hf, ?_⟩
  rw [← hl]
  exact rotL_rotL (by omega)
theorem arD_rot (D : Dsp) (f : Nat) (l : List Pt) : arD (roD D f) (rotL l f) = arD D l := by
  unfold arD
  rw [tw_rotL]
  rfl
theorem sim_roD {D : Dsp} (hl : D.offs.length = D.cs.length) {f : Nat} (hf : f < D.cs.length) : Sim D (roD D f) := by
  rintro _ ⟨l, s, ⟨h1, h2, h3⟩, h4, h5, rfl⟩
  have hlen : (roD D f).cs.length = D.cs.length := rotL_len _ _
  have hfl : f < l.length := by omega
  have ecs : (roD D f).cs = rotL D.cs f := rfl
  have ho : ∀ i, i < D.cs.length → oat (roD D f) i = oat D ((f + i) % D.cs.length) := fun i hi => by
    unfold oat
    rw [show (roD D f).offs = rotL D.offs f from rfl, List.getD_eq_getElem?_getD, List.getD_eq_getElem?_getD, rotL_at (by omega) (by omega), hl]
  refine ⟨tldOf (roD D f) (rotL l f) s, ⟨rotL l f, s, ⟨by rw [hlen, rotL_len, h1], fun i hi => ?_, ok_rotL h3 f⟩, ?_, h5, rfl⟩, ?_, ?_, ?_⟩
  · rw [hlen] at hi
    have := h2 ((f + i) % D.cs.length) (Nat.mod_lt _ (by omega))
    unfold near at this ⊢
    rw [ecs, pat_rotL hf hi, pat_rotL hfl (by omega), ho i hi, h1]
    exact this
  · unfold gesP
    rw [arD_rot]
    exact h4
  · exact arD_rot D f l
  · show (wcL (roD D f) (rotL l f)).length = (wcL D l).length
    unfold wcL
    rw [hlen, ← fil_rot hf (wcB D l)]
    congr 1
    refine List.filter_congr fun i hi => ?_
    have hi := List.mem_range.1 hi
    unfold wcB
    rw [ecs, pat_rotL hf hi, pat_rotL hfl (by omega), h1]
  · show (wwL (roD D f) (arD (roD D f) (rotL l f)) s).length = (wwL D (arD D l) s).length
    rw [arD_rot]
    unfold wwL
    rw [show (roD D f).wks.length = D.wks.length from List.length_reverse, ← fil_rev (wwB D (arD D l) s)]
    congr 1
    refine List.filter_congr fun i hi => ?_
    have hi := List.mem_range.1 hi
    unfold wwB
    rw [show (roD D f).wks = D.wks.reverse from rfl, wat_rev hi]
    rfl
theorem same_roD {D : Dsp} (h : dspB D = true) {f : Nat} (hf : f < D.cs.length) : Same8 D (roD D f) := by
  have hl := (dsp_ok h).lo
  have hk := roD_ok h f
  have hl2 := (dsp_ok hk).lo
  have hlen : (roD D f).cs.length = D.cs.length := rotL_len _ _
  refine same_of h hk (sim_roD hl hf) ?_ rfl
  have h2 := sim_roD (D := roD D f) hl2 (f := (D.cs.length - f) % D.cs.length) (by rw [hlen]; exact Nat.mod_lt _ (by omega))
  rw [roD_back hl hf] at h2
  exact h2
end Go.Proofs.Ythijegacjboclaa
