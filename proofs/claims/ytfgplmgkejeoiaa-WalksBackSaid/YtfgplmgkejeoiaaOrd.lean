/- Lists of whole numbers in order, each once. No conditions. -/
import Derived.Test.YtfgplmgkejeoiaaSorted
namespace Go.Proofs.Ytfgplmgkejeoiaa

def Up (l : List Int) : Prop := l.Pairwise (· < ·)
theorem up_ext : ∀ {l m : List Int}, Up l → Up m → (∀ x, x ∈ l ↔ x ∈ m) → l = m
  | [], [], _, _, _ => rfl
  | [], b :: _, _, _, h => absurd ((h b).2 List.mem_cons_self) List.not_mem_nil
  | a :: _, [], _, _, h => absurd ((h a).1 List.mem_cons_self) List.not_mem_nil
  | a :: s, b :: t, hl, hm, h => by
    have h1 := List.pairwise_cons.1 hl
    have h2 := List.pairwise_cons.1 hm
    have hab : a = b := by
      rcases List.mem_cons.1 ((h a).1 List.mem_cons_self) with e | ha
      · exact e
      rcases List.mem_cons.1 ((h b).2 List.mem_cons_self) with e | hb
      · exact e.symm
      have h3 := h2.1 a ha
      have h4 := h1.1 b hb
      omega
    subst hab
    rw [up_ext h1.2 h2.2 fun x => ⟨fun hx => ?_, fun hx => ?_⟩]
    · rcases List.mem_cons.1 ((h x).1 (List.mem_cons_of_mem _ hx)) with e | h3
      · have := h1.1 x hx; omega
      · exact h3
    · rcases List.mem_cons.1 ((h x).2 (List.mem_cons_of_mem _ hx)) with e | h3
      · have := h2.1 x hx; omega
      · exact h3
theorem up_of : ∀ {l : List Int}, l.Pairwise (fun a b => decide (a ≤ b) = true) → l.Nodup → Up l
  | [], _, _ => List.Pairwise.nil
  | a :: t, h, n => List.pairwise_cons.2 ⟨fun b hb => by
      have h1 := (List.pairwise_cons.1 h).1 b hb
      have h2 : a ≠ b := fun e => (List.nodup_cons.1 n).1 (e ▸ hb)
      rw [decide_eq_true_eq] at h1
      omega, up_of (List.pairwise_cons.1 h).2 (List.nodup_cons.1 n).2⟩
theorem up_srt (l : List Int) : Up (srt l) := by
  refine up_of (List.pairwise_mergeSort (fun a b c h1 h2 => ?_) (fun a b => ?_) _) ((List.mergeSort_perm _ _).nodup_iff.2 (nodup_ddp l))
  · rw [decide_eq_true_eq] at h1 h2 ⊢
    omega
  · simp only [Bool.or_eq_true, decide_eq_true_eq]
    omega
theorem srt_ext {l m : List Int} (h : ∀ x, x ∈ l ↔ x ∈ m) : srt l = srt m := up_ext (up_srt l) (up_srt m) fun x => by rw [mem_srt, mem_srt, h]
/-- A list with a number at its place. -/
def ins (n : Int) (l : List Int) : List Int := if n ∈ l then l else l.filter (fun x => decide (x < n)) ++ n :: l.filter fun x => !decide (x < n)
theorem mem_ins {n x : Int} {l : List Int} : x ∈ ins n l ↔ x ∈ l ∨ x = n := by
  unfold ins
  split
  · rename_i h
    constructor
    · exact .inl
    · rintro (h1 | rfl)
      · exact h1
      · exact h
  · rw [List.mem_append, List.mem_cons, List.mem_filter, List.mem_filter]
    constructor
    · rintro (h | h | h)
      · exact .inl h.1
      · exact .inr h
      · exact .inl h.1
    · rintro (h | h)
      · by_cases h1 : x < n
        · exact .inl ⟨h, decide_eq_true h1⟩
        · exact .inr (.inr ⟨h, by rw [decide_eq_false h1]; rfl⟩)
      · exact .inr (.inl h)
theorem up_ins {n : Int} {l : List Int} (h : Up l) : Up (ins n l) := by
  unfold ins
  split
  · exact h
  · rename_i hn
    refine List.pairwise_append.2 ⟨List.Pairwise.filter _ h, List.pairwise_cons.2 ⟨fun b hb => ?_, List.Pairwise.filter _ h⟩, fun a ha b hb => ?_⟩
    · rw [List.mem_filter] at hb
      have h1 : b ≠ n := fun e => hn (e ▸ hb.1)
      have h2 := hb.2
      simp at h2
      omega
    · rw [List.mem_filter, decide_eq_true_eq] at ha
      rcases List.mem_cons.1 hb with rfl | hb
      · exact ha.2
      · rw [List.mem_filter] at hb
        have h2 := hb.2
        simp at h2
        omega
theorem srt_snoc (l : List Int) (n : Int) : srt (l ++ [n]) = ins n (srt l) :=
  up_ext (up_srt _) (up_ins (up_srt l)) fun x => by rw [mem_srt, mem_ins, mem_srt, List.mem_append, List.mem_singleton]
theorem srt_nil : srt [] = [] := by
  cases h : srt [] with
  | nil => rfl
  | cons a t =>
    have h1 : a ∈ srt [] := by rw [h]; exact List.mem_cons_self
    rw [mem_srt] at h1
    cases h1
/-- All numbers with the other sign come backwards. -/
theorem srt_neg (l : List Int) : srt (l.map fun x => -x) = ((srt l).map fun x => -x).reverse := by
  refine up_ext (up_srt _) (List.pairwise_reverse.2 (List.pairwise_map.2 ?_)) fun x => ?_
  · have h1 : ∀ {l : List Int}, Up l → l.Pairwise fun a b => -b < -a := fun {l} => by
      induction l with
      | nil => exact fun _ => List.Pairwise.nil
      | cons a t ih => exact fun h => List.pairwise_cons.2 ⟨fun b hb => by have := (List.pairwise_cons.1 h).1 b hb; omega, ih (List.pairwise_cons.1 h).2⟩
    exact h1 (up_srt l)
  · rw [mem_srt, List.mem_reverse, List.mem_map, List.mem_map]
    constructor
    · rintro ⟨a, h, rfl⟩
      exact ⟨a, (mem_srt l).2 h, rfl⟩
    · rintro ⟨a, h, rfl⟩
      exact ⟨a, (mem_srt l).1 h, rfl⟩
end Go.Proofs.Ytfgplmgkejeoiaa
