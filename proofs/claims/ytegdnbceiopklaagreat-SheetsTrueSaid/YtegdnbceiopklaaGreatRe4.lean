/- The reference's functions Strange and Factors of sheets. -/
import Derived.Test.YtegdnbceiopklaaGreatRd4
import Derived.Test.YtegdnbceiopklaaGreatFc4
import Derived.Test.YtegdnbceiopklaaGreatQsk
namespace Go.Proofs.YtegdnbceiopklaaGreat
open Go.RowKit Go.Shelf
attribute [local go_sem] After.cell After.frozen

theorem knw_two {p : Pt → Bool} {l : List Pt} (h : l ≠ []) : (knw p l == 2) = (cnt p l == 0) := by
  have hl : l.length ≠ 0 := fun h' => h (List.eq_nil_of_length_eq_zero h')
  unfold knw
  by_cases h1 : cnt p l = l.length
  · rw [if_pos h1, h1]
    simp [hl, h]
  · rw [if_neg h1]
    by_cases h2 : cnt p l = 0
    · rw [if_pos h2, h2]; rfl
    · rw [if_neg h2]
      simp [h2]
/-- The numbers from 900 on, k of them, that are in a list. -/
def rfTo (l : List Int) (k : Nat) : List Int := ((List.range k).filter fun i : Nat => decide (900 + (i : Int) ∈ l)).map fun i : Nat => 900 + (i : Int)
theorem rfTo_succ (l : List Int) (k : Nat) : rfTo l (k + 1) = rfTo l k ++ (if 900 + (k : Int) ∈ l then [900 + (k : Int)] else []) := by
  unfold rfTo
  rw [List.range_succ, List.filter_append, List.map_append, List.filter_cons]
  by_cases h : 900 + (k : Int) ∈ l <;> simp [h]
theorem rfTo_len (l : List Int) (k : Nat) : (rfTo l k).length ≤ k := by
  unfold rfTo
  rw [List.length_map]
  have := List.length_filter_le (fun i : Nat => decide (900 + (i : Int) ∈ l)) (List.range k)
  rwa [List.length_range] at this
theorem rfTo_lt (l : List Int) (k : Nat) : (rfTo l k).Pairwise fun x y => x < y := by
  unfold rfTo
  rw [List.pairwise_map]
  exact ((List.pairwise_lt_range (n := k)).filter _).imp fun h => by omega
theorem mem_rfTo {l : List Int} {x : Int} (hl : ∀ x ∈ l, 900 ≤ x ∧ x ≤ 1100) : x ∈ rfTo l 201 ↔ x ∈ l := by
  unfold rfTo
  rw [List.mem_map]
  constructor
  · rintro ⟨i, hi, rfl⟩
    simpa using (List.mem_filter.1 hi).2
  · intro h
    have := hl x h
    refine ⟨(x - 900).toNat, List.mem_filter.2 ⟨List.mem_range.2 (by omega), ?_⟩, by omega⟩
    rw [decide_eq_true_eq, show 900 + ((x - 900).toNat : Int) = x by omega]
    exact h
theorem srt_eq {l : List Int} (hl : ∀ x ∈ l, 900 ≤ x ∧ x ≤ 1100) : srt l = rfTo l 201 := by
  have h1 := rfTo_lt l 201
  have h2 : (ddp l).Perm (rfTo l 201) := (List.perm_ext_iff_of_nodup (nodup_ddp l) (h1.imp fun h => by omega)).2 fun x => by rw [mem_ddp, mem_rfTo hl]
  have h3 : (rfTo l 201).mergeSort (fun x y => decide (x ≤ y)) = rfTo l 201 := List.mergeSort_of_pairwise (h1.imp fun h => by simp; omega)
  unfold srt
  rw [← h3]
  exact mergeSort_of_perm_i h2
theorem fcTo_bd {S : Sht} (hS : ShtOk S) (way : Int) (k : Nat) : ∀ x ∈ fcTo S way k, 900 ≤ x ∧ x ≤ 1100 := by
  intro x hx
  obtain ⟨f, hf, rfl⟩ := List.mem_map.1 hx
  exact fac_bd (trs_ok hS (List.mem_of_mem_take hf)) way
theorem fcS_eq {S : Sht} (hS : ShtOk S) (way : Int) : fcS S way = rfTo ((trs S).map fun f => fac f way) 201 := by
  have h := srt_eq (fcTo_bd hS way (trs S).length)
  unfold fcS
  rw [h]
  unfold fcTo
  rw [List.take_length]
end Go.Proofs.YtegdnbceiopklaaGreat
