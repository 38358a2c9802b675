/- A stage of a region that draws its order, walked once for each operation, whatever the order: six operations, three of which come one behind the other. No conditions of the program's. -/
import Derived.Test.YthijegacjboclaaQci
namespace Go.Proofs.Ythijegacjboclaa
open Go.RowKit

section
variable {P : Program} {ops : Array Oper} {Q : Exit → Act → World → Prop} {C : World → Prop}
theorem wpOp_of {i : Nat} {oi : Oper} {a : Act} {w : World} {I : Act → World → Prop} (hi : ops[i]? = some oi) (hw : Region.wanted oi (yielded ops a.tmps) = true)
    (h : ∀ K : Act → World → Prop, (∀ a' w', I a' w' → K a' w') → oi.wp P a w K Q) : wpOp P ops Q i I a w := by
  unfold Go.wpOp
  simp only [hi, hw, if_true]
  exact .inl (h _ fun _ _ h => h)
theorem wpAnyC_stage (I : Nat → Array Bool → Act → World → Prop) (f0 : Nat) (hC : ∀ m l a w, I m l a w → C w) (h0 : ∀ l a w, I 0 l a w → wpAnyC P ops Q C f0 l a w)
    (hs : ∀ m l a w, I (m + 1) l a w → Region.ready .any ops l ≠ [] ∧ ∀ i ∈ Region.ready .any ops l, wpOp P ops Q i (fun a' w' => I m (l.setIfInBounds i true) a' w') a w) :
    ∀ m l a w, I m l a w → wpAnyC P ops Q C (f0 + m) l a w
  | 0, l, a, w, h => h0 l a w h
  | m + 1, l, a, w, h => by
    obtain ⟨h1, h2⟩ := hs m l a w h
    exact ⟨hC _ _ _ _ h, fun e => absurd e h1, fun i hi => wpOp_mono (fun a' w' h' => wpAnyC_stage I f0 hC h0 hs m _ a' w' h') (h2 i hi)⟩

/-- What is listed of the twelve operations of the region. -/
def six (b1 b3 b5 b6 b7 b8 : Bool) : Array Bool := #[true, b1, true, b3, true, b5, b6, b7, b8, false, false, false]
def sixR (b1 b3 b5 b6 b7 b8 : Bool) : List Nat := (if b1 then (if b3 then (if b5 then [] else [5]) else [3]) else [1]) ++ ((if b6 then [] else [6]) ++ ((if b7 then [] else [7]) ++ (if b8 then [] else [8])))
def sixC (ops : Array Oper) (b1 b3 b5 b6 b7 b8 : Bool) : Bool := (b3 && !b1) || (b5 && !b3) || (b1 && b3 && b5 && b6 && b7 && b8) || (Region.ready .any ops (six b1 b3 b5 b6 b7 b8) == sixR b1 b3 b5 b6 b7 b8)
def sixAll (ops : Array Oper) : Bool := [true, false].all fun b1 => [true, false].all fun b3 => [true, false].all fun b5 => [true, false].all fun b6 => [true, false].all fun b7 => [true, false].all fun b8 => sixC ops b1 b3 b5 b6 b7 b8
theorem sixAll_at (h : sixAll ops = true) (b1 b3 b5 b6 b7 b8 : Bool) : sixC ops b1 b3 b5 b6 b7 b8 = true := by
  have m : ∀ b : Bool, b ∈ [true, false] := fun b => by cases b <;> simp
  unfold sixAll at h
  exact List.all_eq_true.1 (List.all_eq_true.1 (List.all_eq_true.1 (List.all_eq_true.1 (List.all_eq_true.1 (List.all_eq_true.1 h b1 (m _)) b3 (m _)) b5 (m _)) b6 (m _)) b7 (m _)) b8 (m _)
def bc (b : Bool) : Nat := if b then 0 else 1

theorem six_mem {b1 b3 b5 b6 b7 b8 : Bool} {i : Nat} (h31 : b3 = true → b1 = true) (h53 : b5 = true → b3 = true) (hi : i ∈ sixR b1 b3 b5 b6 b7 b8) :
    (i = 1 ∧ b1 = false ∧ b3 = false ∧ b5 = false) ∨ (i = 3 ∧ b1 = true ∧ b3 = false ∧ b5 = false) ∨ (i = 5 ∧ b1 = true ∧ b3 = true ∧ b5 = false) ∨ (i = 6 ∧ b6 = false) ∨ (i = 7 ∧ b7 = false) ∨ (i = 8 ∧ b8 = false) := by
  unfold sixR at hi
  rcases List.mem_append.1 hi with hi | hi
  · cases b1
    · have h3 : b3 = false := by cases b3 <;> simp_all
      have h5 : b5 = false := by cases b5 <;> simp_all
      simp at hi
      exact .inl ⟨hi, rfl, h3, h5⟩
    · cases b3
      · have h5 : b5 = false := by cases b5 <;> simp_all
        simp at hi
        exact .inr (.inl ⟨hi, rfl, rfl, h5⟩)
      · cases b5
        · simp at hi
          exact .inr (.inr (.inl ⟨hi, rfl, rfl, rfl⟩))
        · simp at hi
  rcases List.mem_append.1 hi with hi | hi
  · cases b6
    · simp at hi
      exact .inr (.inr (.inr (.inl ⟨hi, rfl⟩)))
    · simp at hi
  rcases List.mem_append.1 hi with hi | hi
  · cases b7
    · simp at hi
      exact .inr (.inr (.inr (.inr (.inl ⟨hi, rfl⟩))))
    · simp at hi
  · cases b8
    · simp at hi
      exact .inr (.inr (.inr (.inr (.inr ⟨hi, rfl⟩))))
    · simp at hi
theorem put_self (a : Act) (d : Nat) : a.put (some d) (a.tmps.getD d undef) = a := by
  unfold Act.put
  simp only
  have : a.tmps.setIfInBounds d (a.tmps.getD d undef) = a.tmps := by
    apply Array.ext
    · simp
    · intro i h1 h2
      rw [Array.getElem_setIfInBounds (by simpa using h1)]
      split
      · rename_i e; subst e; simp [Array.getD, h2]
      · rfl
  rw [this]
/-- An activation with six slots given anew. -/
def sixA (d1 d3 d5 d6 d7 d8 : Nat) (a : Act) (v1 v3 v5 v6 v7 v8 : Value) : Act := (((((a.put (some d1) v1).put (some d3) v3).put (some d5) v5).put (some d6) v6).put (some d7) v7).put (some d8) v8
theorem sixA_self (d1 d3 d5 d6 d7 d8 : Nat) (a : Act) : sixA d1 d3 d5 d6 d7 d8 a (a.tmps.getD d1 undef) (a.tmps.getD d3 undef) (a.tmps.getD d5 undef) (a.tmps.getD d6 undef) (a.tmps.getD d7 undef) (a.tmps.getD d8 undef) = a := by
  unfold sixA
  rw [put_self, put_self, put_self, put_self, put_self, put_self]
set_option maxHeartbeats 2000000 in
theorem wpAnyC_six (J : Bool → Bool → Bool → Bool → Bool → Bool → Value → Value → Value → Value → Value → Value → World → Prop) (d1 d3 d5 d6 d7 d8 : Nat) {f0 : Nat} {a0 : Act} {w0 : World} (hr : sixAll ops = true)
    (hC : ∀ b1 b3 b5 b6 b7 b8 v1 v3 v5 v6 v7 v8 w, J b1 b3 b5 b6 b7 b8 v1 v3 v5 v6 v7 v8 w → C w)
    (h0 : ∀ v1 v3 v5 v6 v7 v8, J false false false false false false v1 v3 v5 v6 v7 v8 w0)
    (s1 : ∀ b6 b7 b8 v1 v3 v5 v6 v7 v8 w, J false false false b6 b7 b8 v1 v3 v5 v6 v7 v8 w → wpOp P ops Q 1 (fun a' w' => ∃ v, a' = sixA d1 d3 d5 d6 d7 d8 a0 v v3 v5 v6 v7 v8 ∧ J true false false b6 b7 b8 v v3 v5 v6 v7 v8 w') (sixA d1 d3 d5 d6 d7 d8 a0 v1 v3 v5 v6 v7 v8) w)
    (s3 : ∀ b6 b7 b8 v1 v3 v5 v6 v7 v8 w, J true false false b6 b7 b8 v1 v3 v5 v6 v7 v8 w → wpOp P ops Q 3 (fun a' w' => ∃ v, a' = sixA d1 d3 d5 d6 d7 d8 a0 v1 v v5 v6 v7 v8 ∧ J true true false b6 b7 b8 v1 v v5 v6 v7 v8 w') (sixA d1 d3 d5 d6 d7 d8 a0 v1 v3 v5 v6 v7 v8) w)
    (s5 : ∀ b6 b7 b8 v1 v3 v5 v6 v7 v8 w, J true true false b6 b7 b8 v1 v3 v5 v6 v7 v8 w → wpOp P ops Q 5 (fun a' w' => ∃ v, a' = sixA d1 d3 d5 d6 d7 d8 a0 v1 v3 v v6 v7 v8 ∧ J true true true b6 b7 b8 v1 v3 v v6 v7 v8 w') (sixA d1 d3 d5 d6 d7 d8 a0 v1 v3 v5 v6 v7 v8) w)
    (s6 : ∀ b1 b3 b5 b7 b8 v1 v3 v5 v6 v7 v8 w, J b1 b3 b5 false b7 b8 v1 v3 v5 v6 v7 v8 w → wpOp P ops Q 6 (fun a' w' => ∃ v, a' = sixA d1 d3 d5 d6 d7 d8 a0 v1 v3 v5 v v7 v8 ∧ J b1 b3 b5 true b7 b8 v1 v3 v5 v v7 v8 w') (sixA d1 d3 d5 d6 d7 d8 a0 v1 v3 v5 v6 v7 v8) w)
    (s7 : ∀ b1 b3 b5 b6 b8 v1 v3 v5 v6 v7 v8 w, J b1 b3 b5 b6 false b8 v1 v3 v5 v6 v7 v8 w → wpOp P ops Q 7 (fun a' w' => ∃ v, a' = sixA d1 d3 d5 d6 d7 d8 a0 v1 v3 v5 v6 v v8 ∧ J b1 b3 b5 b6 true b8 v1 v3 v5 v6 v v8 w') (sixA d1 d3 d5 d6 d7 d8 a0 v1 v3 v5 v6 v7 v8) w)
    (s8 : ∀ b1 b3 b5 b6 b7 v1 v3 v5 v6 v7 v8 w, J b1 b3 b5 b6 b7 false v1 v3 v5 v6 v7 v8 w → wpOp P ops Q 8 (fun a' w' => ∃ v, a' = sixA d1 d3 d5 d6 d7 d8 a0 v1 v3 v5 v6 v7 v ∧ J b1 b3 b5 b6 b7 true v1 v3 v5 v6 v7 v w') (sixA d1 d3 d5 d6 d7 d8 a0 v1 v3 v5 v6 v7 v8) w)
    (hf : ∀ v1 v3 v5 v6 v7 v8 w, J true true true true true true v1 v3 v5 v6 v7 v8 w → wpAnyC P ops Q C f0 (six true true true true true true) (sixA d1 d3 d5 d6 d7 d8 a0 v1 v3 v5 v6 v7 v8) w) :
    wpAnyC P ops Q C (f0 + 6) (six false false false false false false) a0 w0 := by
  refine wpAnyC_stage (fun m l a w => ∃ b1 b3 b5 b6 b7 b8 v1 v3 v5 v6 v7 v8, l = six b1 b3 b5 b6 b7 b8 ∧ (b3 = true → b1 = true) ∧ (b5 = true → b3 = true) ∧ m = bc b1 + bc b3 + bc b5 + bc b6 + bc b7 + bc b8 ∧ a = sixA d1 d3 d5 d6 d7 d8 a0 v1 v3 v5 v6 v7 v8 ∧ J b1 b3 b5 b6 b7 b8 v1 v3 v5 v6 v7 v8 w) f0 ?_ ?_ ?_ 6 _ a0 w0
    ⟨false, false, false, false, false, false, _, _, _, _, _, _, rfl, (fun h => by cases h), (fun h => by cases h), rfl, (sixA_self d1 d3 d5 d6 d7 d8 a0).symm, h0 _ _ _ _ _ _⟩
  · rintro m l a w ⟨b1, b3, b5, b6, b7, b8, v1, v3, v5, v6, v7, v8, -, -, -, -, -, hJ⟩
    exact hC _ _ _ _ _ _ _ _ _ _ _ _ _ hJ
  · rintro l a w ⟨b1, b3, b5, b6, b7, b8, v1, v3, v5, v6, v7, v8, rfl, -, -, hm, rfl, hJ⟩
    cases b1 <;> cases b3 <;> cases b5 <;> cases b6 <;> cases b7 <;> cases b8 <;> first | exact hf _ _ _ _ _ _ _ hJ | (simp [bc] at hm)
  · rintro m l a w ⟨b1, b3, b5, b6, b7, b8, v1, v3, v5, v6, v7, v8, rfl, h31, h53, hm, rfl, hJ⟩
    have hc := sixAll_at hr b1 b3 b5 b6 b7 b8
    have hrd : Region.ready .any ops (six b1 b3 b5 b6 b7 b8) = sixR b1 b3 b5 b6 b7 b8 := by
      cases b1 <;> cases b3 <;> cases b5 <;> cases b6 <;> cases b7 <;> cases b8 <;> first | (simp [bc] at hm; done) | (simp at h31; done) | (simp at h53; done) | simpa [sixC] using hc
    rw [hrd]
    refine ⟨?_, fun i hi => ?_⟩
    · cases b1 <;> cases b3 <;> cases b5 <;> cases b6 <;> cases b7 <;> cases b8 <;> first | (simp [bc] at hm; done) | simp [sixR]
    · have hcase := six_mem h31 h53 hi
      rcases hcase with ⟨rfl, rfl, rfl, rfl⟩ | ⟨rfl, rfl, rfl, rfl⟩ | ⟨rfl, rfl, rfl, rfl⟩ | ⟨rfl, rfl⟩ | ⟨rfl, rfl⟩ | ⟨rfl, rfl⟩
      · refine wpOp_mono ?_ (s1 _ _ _ _ _ _ _ _ _ _ hJ)
        rintro a' w' ⟨v, rfl, hJ'⟩
        exact ⟨true, false, false, b6, b7, b8, _, _, _, _, _, _, rfl, (fun h => by cases h), (fun h => by cases h), by simp [bc] at hm ⊢; omega, rfl, hJ'⟩
      · refine wpOp_mono ?_ (s3 _ _ _ _ _ _ _ _ _ _ hJ)
        rintro a' w' ⟨v, rfl, hJ'⟩
        exact ⟨true, true, false, b6, b7, b8, _, _, _, _, _, _, rfl, (fun h => rfl), (fun h => by cases h), by simp [bc] at hm ⊢; omega, rfl, hJ'⟩
      · refine wpOp_mono ?_ (s5 _ _ _ _ _ _ _ _ _ _ hJ)
        rintro a' w' ⟨v, rfl, hJ'⟩
        exact ⟨true, true, true, b6, b7, b8, _, _, _, _, _, _, rfl, (fun h => rfl), (fun h => rfl), by simp [bc] at hm ⊢; omega, rfl, hJ'⟩
      · refine wpOp_mono ?_ (s6 _ _ _ _ _ _ _ _ _ _ _ _ hJ)
        rintro a' w' ⟨v, rfl, hJ'⟩
        exact ⟨b1, b3, b5, true, b7, b8, _, _, _, _, _, _, rfl, h31, h53, by simp [bc] at hm ⊢; omega, rfl, hJ'⟩
      · refine wpOp_mono ?_ (s7 _ _ _ _ _ _ _ _ _ _ _ _ hJ)
        rintro a' w' ⟨v, rfl, hJ'⟩
        exact ⟨b1, b3, b5, b6, true, b8, _, _, _, _, _, _, rfl, h31, h53, by simp [bc] at hm ⊢; omega, rfl, hJ'⟩
      · refine wpOp_mono ?_ (s8 _ _ _ _ _ _ _ _ _ _ _ _ hJ)
        rintro a' w' ⟨v, rfl, hJ'⟩
        exact ⟨b1, b3, b5, b6, b7, true, _, _, _, _, _, _, rfl, h31, h53, by simp [bc] at hm ⊢; omega, rfl, hJ'⟩
end
end Go.Proofs.Ythijegacjboclaa
