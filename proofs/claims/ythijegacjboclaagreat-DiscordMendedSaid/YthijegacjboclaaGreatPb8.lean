/- Plain: what the laws of the blame and of one side alone say of a valid dispute. -/
import Derived.Test.YthijegacjboclaaGreatBlm
import Derived.Test.YthijegacjboclaaGreatLa8
namespace Go.Proofs.YthijegacjboclaaGreat

theorem mem_natI {l : List Nat} {n : Nat} : (n : Int) ∈ natI l ↔ n ∈ l := by
  unfold natI
  rw [List.mem_map]
  constructor
  · rintro ⟨m, hm, e⟩
    have : m = n := by omega
    rwa [← this]
  · exact fun h => ⟨n, h, rfl⟩
theorem sub_natI {l m : List Nat} (hn : l.Nodup) (h : ∀ i ∈ l, i ∈ m) : subB (natI l) (natI m) = true := by
  unfold subB
  rw [Bool.and_eq_true]
  constructor
  · rw [List.all_eq_true]
    intro x hx
    obtain ⟨i, hi, rfl⟩ := List.mem_map.1 (show x ∈ l.map fun n : Nat => (n : Int) from hx)
    rw [decide_eq_true_eq, mem_natI]
    exact h i hi
  · rw [natI_len, natI_len, decide_eq_true_eq]
    exact hn.length_le_of_subset h
theorem fil_nodup (p : Nat → Bool) (k : Nat) : ((List.range k).filter p).Nodup := List.nodup_range.filter _
theorem fil_sub {p q : Nat → Bool} {k : Nat} (h : ∀ i, p i = true → q i = true) : ∀ i ∈ (List.range k).filter p, i ∈ (List.range k).filter q := fun i hi => by
  rw [List.mem_filter] at hi ⊢
  exact ⟨hi.1, h i hi.2⟩
section
variable {D : Dsp}
/-- A story's wrong corners and walks, in the ranges. -/
theorem isT_lists {t : Tld} (h : isT D t) : (∃ p, t.wc = (List.range D.cs.length).filter p) ∧ ∃ p, t.ww = (List.range D.wks.length).filter p := by
  obtain ⟨l, s, _, _, _, rfl⟩ := h
  exact ⟨⟨wcB D l, rfl⟩, wwB D (arD D l) s, rfl⟩
theorem le_of_mem {t : Tld} (h : isT D t) {p q : Nat → Bool} (hp : ∀ i ∈ t.wc, p i = true) (hq : ∀ i ∈ t.ww, q i = true) : t.wc.length ≤ ((List.range D.cs.length).filter p).length ∧ t.ww.length ≤ ((List.range D.wks.length).filter q).length := by
  obtain ⟨⟨p0, h1⟩, q0, h2⟩ := isT_lists h
  constructor
  · refine List.Nodup.length_le_of_subset (by rw [h1]; exact fil_nodup _ _) fun i hi => ?_
    have h3 := hp i hi
    rw [h1, List.mem_filter] at hi
    exact List.mem_filter.2 ⟨hi.1, h3⟩
  · refine List.Nodup.length_le_of_subset (by rw [h2]; exact fil_nodup _ _) fun i hi => ?_
    have h3 := hq i hi
    rw [h2, List.mem_filter] at hi
    exact List.mem_filter.2 ⟨hi.1, h3⟩
theorem ge_of_mem {t : Tld} (h : isT D t) {p q : Nat → Bool} (hp : ∀ i, p i = true → i ∈ t.wc) (hq : ∀ i, q i = true → i ∈ t.ww) : ((List.range D.cs.length).filter p).length ≤ t.wc.length ∧ ((List.range D.wks.length).filter q).length ≤ t.ww.length :=
  ⟨List.Nodup.length_le_of_subset (fil_nodup _ _) fun i hi => hp i (List.mem_filter.1 hi).2, List.Nodup.length_le_of_subset (fil_nodup _ _) fun i hi => hq i (List.mem_filter.1 hi).2⟩
theorem fw_spec : (fwO D = none ∧ ∀ t, ¬ isT D t) ∨ ∃ t, minT D t ∧ fwO D = some t.many := by
  have h := lst_ok (isT D) Tld.many
  change Lst (isT D) Tld.many (fwO D) at h
  cases e : fwO D with
  | none => rw [e] at h; exact .inl ⟨rfl, h⟩
  | some n =>
    rw [e] at h
    obtain ⟨⟨t, ht, rfl⟩, h2⟩ := h
    exact .inr ⟨t, ⟨ht, h2⟩, rfl⟩
theorem fil_len8 (p : Nat → Bool) (k : Nat) : ((List.range k).filter p).length ≤ k := by
  have := List.length_filter_le p (List.range k)
  simpa using this
/-- What Fewest, Blamed and Sure say of each other. -/
theorem blame_law (hD : dspB D = true) : ((bcL D).length ≤ 40 ∧ (bwL D).length ≤ 40 ∧ (scL D).length ≤ 40 ∧ (swL D).length ≤ 40) ∧
    ((lsE D (fwO D) = 3 ∧ lsV D (fwO D) = 0 ∧ bcL D = [] ∧ bwL D = [] ∧ scL D = [] ∧ swL D = []) ∨
     ∃ n : Nat, lsE D (fwO D) = 0 ∧ lsV D (fwO D) = n ∧ n ≤ 14 ∧ subB (natI (scL D)) (natI (bcL D)) = true ∧ subB (natI (swL D)) (natI (bwL D)) = true ∧ n ≤ (bcL D).length + (bwL D).length ∧ (scL D).length + (swL D).length ≤ n ∧ (n = 0 ↔ (bcL D).length + (bwL D).length = 0)) := by
  have hok := dsp_ok hD
  have h6 := hok.l6
  have h8 := hok.l8
  have l1 : ∀ p : Nat → Bool, ((List.range D.cs.length).filter p).length ≤ 40 := fun p => by have := fil_len8 p D.cs.length; omega
  have l2 : ∀ p : Nat → Bool, ((List.range D.wks.length).filter p).length ≤ 40 := fun p => by have := fil_len8 p D.wks.length; omega
  refine ⟨⟨?_, ?_, ?_, ?_⟩, ?_⟩
  · unfold bcL; split
    · exact l1 _
    · simp
  · unfold bwL; split
    · exact l2 _
    · simp
  · unfold scL; split
    · exact l1 _
    · simp
  · unfold swL; split
    · exact l2 _
    · simp
  rcases fw_spec (D := D) with ⟨e, hno⟩ | ⟨t, ht, e⟩
  · have e1 : lsE D (fwO D) = 3 := by unfold lsE; rw [if_pos hD, e]
    have e2 : lsV D (fwO D) = 0 := by unfold lsV; rw [if_pos hD, e]
    have hn : ¬ lsE D (fwO D) = 0 := by rw [e1]; decide
    exact .inl ⟨e1, e2, if_neg hn, if_neg hn, if_neg hn, if_neg hn⟩
  · have e1 : lsE D (fwO D) = 0 := by unfold lsE; rw [if_pos hD, e]
    have e2 : lsV D (fwO D) = t.many := by unfold lsV; rw [if_pos hD, e]
    have b1 : bcL D = (List.range D.cs.length).filter (blC D) := if_pos e1
    have b2 : bwL D = (List.range D.wks.length).filter (blW D) := if_pos e1
    have b3 : scL D = (List.range D.cs.length).filter (suC D) := if_pos e1
    have b4 : swL D = (List.range D.wks.length).filter (suW D) := if_pos e1
    have hl := isT_len ht.1
    have m1 : t.many = t.wc.length + t.ww.length := rfl
    obtain ⟨p1, p2⟩ := le_of_mem ht.1 (p := blC D) (q := blW D) (fun i hi => blC_iff.2 ⟨t, ht, hi⟩) (fun i hi => blW_iff.2 ⟨t, ht, hi⟩)
    obtain ⟨q1, q2⟩ := ge_of_mem ht.1 (p := suC D) (q := suW D) (fun i hi => suC_iff.1 hi t ht) (fun i hi => suW_iff.1 hi t ht)
    refine .inr ⟨t.many, e1, e2, by omega, ?_, ?_, ?_, ?_, ?_⟩
    · rw [b1, b3]; exact sub_natI (fil_nodup _ _) (fil_sub fun i hi => blC_iff.2 ⟨t, ht, suC_iff.1 hi t ht⟩)
    · rw [b2, b4]; exact sub_natI (fil_nodup _ _) (fil_sub fun i hi => blW_iff.2 ⟨t, ht, suW_iff.1 hi t ht⟩)
    · rw [b1, b2]; omega
    · rw [b3, b4]; omega
    · rw [b1, b2]
      constructor
      · intro h0
        have key : ∀ u, minT D u → u.many = 0 := fun u hu => by have := hu.2 t ht.1; omega
        have z1 : (List.range D.cs.length).filter (blC D) = [] := by
          rw [List.filter_eq_nil_iff]
          intro i _ hi
          obtain ⟨u, hu, hm⟩ := blC_iff.1 hi
          have := key u hu
          have := List.length_pos_of_mem hm
          have m2 : u.many = u.wc.length + u.ww.length := rfl
          omega
        have z2 : (List.range D.wks.length).filter (blW D) = [] := by
          rw [List.filter_eq_nil_iff]
          intro i _ hi
          obtain ⟨u, hu, hm⟩ := blW_iff.1 hi
          have := key u hu
          have := List.length_pos_of_mem hm
          have m2 : u.many = u.wc.length + u.ww.length := rfl
          omega
        rw [z1, z2]; rfl
      · intro h0
        omega
theorem cn_spec (o : Option Nat) (Q : Tld → Prop) (ho : o = lst (fun t => isT D t ∧ Q t) Tld.many) : (o = none ∧ ∀ t, isT D t → ¬ Q t) ∨ ∃ t, isT D t ∧ Q t ∧ o = some t.many ∧ ∀ u, isT D u → Q u → t.many ≤ u.many := by
  have h := lst_ok (fun t => isT D t ∧ Q t) Tld.many
  rw [← ho] at h
  cases o with
  | none => exact .inl ⟨rfl, fun t h1 h2 => h t ⟨h1, h2⟩⟩
  | some n =>
    obtain ⟨⟨t, ht, rfl⟩, h2⟩ := h
    exact .inr ⟨t, ht.1, ht.2, rfl, fun u h3 h4 => h2 u ⟨h3, h4⟩⟩
/-- What Fewest, Corners and Walks say of each other. -/
theorem sides_law (hD : dspB D = true) :
    (lsE D (fwO D) = 3 ∧ lsV D (fwO D) = 0 ∧ lsE D (cnO D) = 3 ∧ lsE D (wlO D) = 3) ∨
    ∃ n : Nat, lsE D (fwO D) = 0 ∧ lsV D (fwO D) = n ∧ n ≤ 14 ∧
      ((lsE D (cnO D) = 3 ∧ n ≠ 0) ∨ ∃ c : Nat, lsE D (cnO D) = 0 ∧ lsV D (cnO D) = c ∧ n ≤ c ∧ c ≤ D.cs.length ∧ (n = 0 ↔ c = 0)) ∧
      ((lsE D (wlO D) = 3 ∧ n ≠ 0) ∨ ∃ c : Nat, lsE D (wlO D) = 0 ∧ lsV D (wlO D) = c ∧ n ≤ c ∧ c ≤ D.wks.length ∧ (n = 0 ↔ c = 0)) := by
  have hok := dsp_ok hD
  have h6 := hok.l6
  have h8 := hok.l8
  have L3 : ∀ o : Option Nat, o = none → lsE D o = 3 ∧ lsV D o = 0 := fun o h => by subst h; exact ⟨by unfold lsE; rw [if_pos hD], by unfold lsV; rw [if_pos hD]⟩
  have L0 : ∀ (o : Option Nat) (n : Nat), o = some n → lsE D o = 0 ∧ lsV D o = n := fun o n h => by subst h; exact ⟨by unfold lsE; rw [if_pos hD], by unfold lsV; rw [if_pos hD]⟩
  have hC := cn_spec (D := D) (cnO D) (fun t => t.ww = []) rfl
  have hW := cn_spec (D := D) (wlO D) (fun t => t.wc = []) rfl
  rcases fw_spec (D := D) with ⟨e, hno⟩ | ⟨t, ht, e⟩
  · refine .inl ⟨(L3 _ e).1, (L3 _ e).2, ?_, ?_⟩
    · rcases hC with ⟨h, _⟩ | ⟨u, hu, _⟩
      · exact (L3 _ h).1
      · exact absurd hu (hno u)
    · rcases hW with ⟨h, _⟩ | ⟨u, hu, _⟩
      · exact (L3 _ h).1
      · exact absurd hu (hno u)
  · have hl := isT_len ht.1
    have m1 : t.many = t.wc.length + t.ww.length := rfl
    have h0 : t.many = 0 → t.wc = [] ∧ t.ww = [] := fun h => ⟨List.length_eq_zero_iff.1 (by omega), List.length_eq_zero_iff.1 (by omega)⟩
    refine .inr ⟨t.many, (L0 _ _ e).1, (L0 _ _ e).2, by omega, ?_, ?_⟩
    · rcases hC with ⟨h, hn⟩ | ⟨u, hu, hq, h, hm⟩
      · exact .inl ⟨(L3 _ h).1, fun hz => hn t ht.1 (h0 hz).2⟩
      · have hlu := isT_len hu
        have m2 : u.many = u.wc.length + u.ww.length := rfl
        rw [hq] at m2
        have h1 := ht.2 u hu
        refine .inr ⟨u.many, (L0 _ _ h).1, (L0 _ _ h).2, h1, by simp only [List.length_nil] at m2; omega, fun hz => ?_, fun hz => by omega⟩
        have := hm t ht.1 (h0 hz).2
        omega
    · rcases hW with ⟨h, hn⟩ | ⟨u, hu, hq, h, hm⟩
      · exact .inl ⟨(L3 _ h).1, fun hz => hn t ht.1 (h0 hz).1⟩
      · have hlu := isT_len hu
        have m2 : u.many = u.wc.length + u.ww.length := rfl
        rw [hq] at m2
        have h1 := ht.2 u hu
        refine .inr ⟨u.many, (L0 _ _ h).1, (L0 _ _ h).2, h1, by simp only [List.length_nil] at m2; omega, fun hz => ?_, fun hz => by omega⟩
        have := hm t ht.1 (h0 hz).1
        omega
end
end Go.Proofs.YthijegacjboclaaGreat
