/- A fraction in lowest terms depends on the ratio alone, and its Den is above 0, for any Den that is not 0. -/
import Derived.Test.YtijpolfmiajenaaRatio
namespace Go.Proofs.Ytijpolfmiajenaa

theorem divOf_ne {a b : Int} (hb : b ≠ 0) : divOf a b ≠ 0 := by
  have := gcd_pos (a := a) hb
  unfold divOf
  split <;> omega
theorem divOf_dvd (a b : Int) : divOf a b ∣ a ∧ divOf a b ∣ b := by
  unfold divOf
  split
  · exact ⟨Int.neg_dvd.2 (Int.gcd_dvd_left ..), Int.neg_dvd.2 (Int.gcd_dvd_right ..)⟩
  · exact ⟨Int.gcd_dvd_left .., Int.gcd_dvd_right ..⟩
theorem low_exact (a b : Int) : a = divOf a b * (lowOf a b).1 ∧ b = divOf a b * (lowOf a b).2 := by
  obtain ⟨h1, h2⟩ := divOf_dvd a b
  exact ⟨(Int.mul_tdiv_cancel' h1).symm, (Int.mul_tdiv_cancel' h2).symm⟩
theorem low_den {a b : Int} (hb : b ≠ 0) : 1 ≤ (lowOf a b).2 := by
  obtain ⟨_, h⟩ := low_exact a b
  have hg := gcd_pos (a := a) hb
  refine Int.not_lt.1 fun hn => ?_
  have hle : (lowOf a b).2 ≤ 0 := by omega
  by_cases hlt : b < 0
  · have e : divOf a b = - (Int.gcd a b : Int) := if_pos hlt
    rw [e] at h
    have := Int.mul_nonneg_of_nonpos_of_nonpos (show -(Int.gcd a b : Int) ≤ 0 by omega) hle
    omega
  · have e : divOf a b = (Int.gcd a b : Int) := if_neg hlt
    rw [e] at h
    have := Int.mul_nonpos_of_nonneg_of_nonpos (show 0 ≤ (Int.gcd a b : Int) by omega) hle
    omega
theorem low_bd {a b A B : Int} (ha : -A ≤ a ∧ a ≤ A) (hb : -B ≤ b ∧ b ≤ B) : (-A ≤ (lowOf a b).1 ∧ (lowOf a b).1 ≤ A) ∧ (-B ≤ (lowOf a b).2 ∧ (lowOf a b).2 ≤ B) :=
  ⟨tdiv_bd ha.1 ha.2, tdiv_bd hb.1 hb.2⟩
theorem divOf_mul {c a b : Int} (hc : c ≠ 0) (hb : b ≠ 0) : divOf (c * a) (c * b) = c * divOf a b := by
  unfold divOf
  rw [Int.gcd_mul_left]
  simp only [Int.natCast_mul]
  have hg := gcd_pos (a := a) hb
  rcases Int.lt_or_gt_of_ne hc with h | h <;> rcases Int.lt_or_gt_of_ne hb with k | k
  · have := Int.mul_pos_of_neg_of_neg h k
    rw [if_neg (by omega), if_pos k, show (c.natAbs : Int) = -c by omega]; grind
  · have := Int.mul_neg_of_neg_of_pos h k
    rw [if_pos (by omega), if_neg (by omega), show (c.natAbs : Int) = -c by omega]; grind
  · have := Int.mul_neg_of_pos_of_neg h k
    rw [if_pos (by omega), if_pos k, show (c.natAbs : Int) = c by omega]; grind
  · have := Int.mul_pos h k
    rw [if_neg (by omega), if_neg (by omega), show (c.natAbs : Int) = c by omega]
theorem low_mul {c a b : Int} (hc : c ≠ 0) (hb : b ≠ 0) : lowOf (c * a) (c * b) = lowOf a b := by
  have hd := divOf_ne (a := a) hb
  obtain ⟨h1, h2⟩ := low_exact (c * a) (c * b)
  obtain ⟨h3, h4⟩ := low_exact a b
  rw [divOf_mul hc hb] at h1 h2
  have hcd : c * divOf a b ≠ 0 := Int.mul_ne_zero hc hd
  refine Prod.ext ?_ ?_
  · refine Int.eq_of_mul_eq_mul_left hcd ?_
    rw [← h1, Int.mul_assoc, ← h3]
  · refine Int.eq_of_mul_eq_mul_left hcd ?_
    rw [← h2, Int.mul_assoc, ← h4]
/-- The lowest terms of k times a fraction, out of its lowest terms. -/
theorem low_times (k : Int) {a b : Int} (hb : b ≠ 0) : lowOf (k * (lowOf a b).1) (lowOf a b).2 = lowOf (k * a) b := by
  have hd := divOf_ne (a := a) hb
  obtain ⟨h3, h4⟩ := low_exact a b
  have hn : (lowOf a b).2 ≠ 0 := by have := low_den (a := a) hb; omega
  have h := low_mul (c := divOf a b) (a := k * (lowOf a b).1) (b := (lowOf a b).2) hd hn
  rw [← h4, show divOf a b * (k * (lowOf a b).1) = k * (divOf a b * (lowOf a b).1) by grind, ← h3] at h
  exact h.symm
end Go.Proofs.Ytijpolfmiajenaa
