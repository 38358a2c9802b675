/- How many points of whole numbers lie on a side, and what the windings have to do with the program's numbers. -/
import Derived.Test.YtijpolfmiajenaaWrs
namespace Go.Proofs.Ytijpolfmiajenaa

/-- Two numbers, and what they have in common. -/
theorem bezout_nat : ∀ m n : Nat, ∃ u v : Int, u * (m : Int) + v * (n : Int) = (Nat.gcd m n : Int) := by
  intro m n
  induction m, n using Nat.gcd.induction with
  | H0 n => exact ⟨0, 1, by rw [Nat.gcd_zero_left]; omega⟩
  | H1 m n hm ih =>
    obtain ⟨u, v, h⟩ := ih
    refine ⟨v - u * ((n / m : Nat) : Int), u, ?_⟩
    rw [Nat.gcd_rec, ← h]
    have e : ((n % m : Nat) : Int) = (n : Int) - (m : Int) * ((n / m : Nat) : Int) := by
      have := Nat.div_add_mod n m
      have h2 : ((m * (n / m) + n % m : Nat) : Int) = (n : Int) := by rw [this]
      rw [Int.natCast_add, Int.natCast_mul] at h2
      omega
    rw [e]
    grind
theorem bezout (a b : Int) : ∃ u v : Int, u * a + v * b = (Int.gcd a b : Int) := by
  obtain ⟨u, v, h⟩ := bezout_nat a.natAbs b.natAbs
  have k : ∀ c : Int, ∃ s : Int, (c.natAbs : Int) = s * c := fun c => by
    rcases Int.natAbs_eq c with e | e
    · exact ⟨1, by omega⟩
    · exact ⟨-1, by omega⟩
  obtain ⟨s, hs⟩ := k a
  obtain ⟨t, ht⟩ := k b
  refine ⟨u * s, v * t, ?_⟩
  rw [Int.mul_assoc, ← hs, Int.mul_assoc, ← ht, h]
  rfl
theorem rs_one {lo c : Int} {n : Nat} (h1 : lo ≤ c) (h2 : c < lo + (n : Int)) (k : Int) : rs (fun x => if x = c then k else 0) lo n = k := by
  rw [rs_sub (p := c) (k := 1) h1 (by omega) fun x hx => if_neg (by omega)]
  simp [rs]
theorem bs_at {c : Pt} {M : Nat} (h : (-(M : Int) ≤ c.1 ∧ c.1 ≤ M) ∧ (-(M : Int) ≤ c.2 ∧ c.2 ≤ M)) (k : Int) : bs (fun p => if p = c then k else 0) M = k := by
  unfold bs
  have e : rs (fun y => rs (fun x => if ((x, y) : Pt) = c then k else 0) (-(M : Int)) (2 * M + 1)) (-(M : Int)) (2 * M + 1) = rs (fun y => if y = c.2 then k else 0) (-(M : Int)) (2 * M + 1) := by
    refine rs_congr _ fun y _ _ => ?_
    by_cases hy : y = c.2
    · rw [if_pos hy]
      refine Eq.trans (rs_congr _ fun x _ _ => ?_) (rs_one (lo := -(M : Int)) (c := c.1) (n := 2 * M + 1) (by omega) (by omega) k)
      by_cases hx : x = c.1
      · rw [if_pos (Prod.ext hx hy), if_pos hx]
      · rw [if_neg fun q => hx (by rw [← q]), if_neg hx]
    · rw [if_neg hy]
      exact rs_zero _ fun x _ _ => if_neg fun q => hy (by rw [← q])
  rw [e]
  exact rs_one (by omega) (by omega) k
/-- Sums of boxes. -/
theorem bs_rs (F : Int → Pt → Int) (M : Nat) (lo : Int) : ∀ n : Nat, bs (fun p => rs (fun k => F k p) lo n) M = rs (fun k => bs (F k) M) lo n
  | 0 => bs_zero M
  | n + 1 => by
    have := bs_rs F M lo n
    simp only [rs]
    rw [bs_add, this]
theorem bs_sm (g : Pt → Int) (M : Nat) : ∀ l : List Pt, (∀ v ∈ l, (-(M : Int) ≤ v.1 ∧ v.1 ≤ M) ∧ (-(M : Int) ≤ v.2 ∧ v.2 ≤ M)) → bs (fun p => sm (fun v => if p = v then g v else 0) l) M = sm g l
  | [], _ => bs_zero M
  | v :: l, h => by
    have h1 := bs_sm g M l fun w hw => h w (List.mem_cons_of_mem _ hw)
    have h2 := bs_at (h v List.mem_cons_self) (g v)
    simp only [sm]
    rw [bs_add, h1, h2]
theorem sm_not {p : Pt} (g : Pt → Int) : ∀ l : List Pt, p ∉ l → sm (fun v => if p = v then g v else 0) l = 0
  | [], _ => rfl
  | v :: l, h => by
    rw [sm, sm_not g l fun q => h (List.mem_cons_of_mem _ q), if_neg fun q => h (by rw [q]; exact List.mem_cons_self)]
    rfl
theorem sm_one {p : Pt} (g : Pt → Int) : ∀ l : List Pt, l.Nodup → p ∈ l → sm (fun v => if p = v then g v else 0) l = g p
  | v :: l, hn, h => by
    rw [List.nodup_cons] at hn
    rw [sm]
    rcases List.mem_cons.1 h with rfl | h
    · rw [if_pos rfl, sm_not g l hn.1]
      omega
    · rw [if_neg fun q => hn.1 (by rw [← q]; exact h), sm_one g l hn.2 h]
      omega

/-- The points of a side, without its first end: p is one of them. -/
def hlfo (a b p : Pt) : Int := if has a b p = true ∧ p ≠ a then 1 else 0
theorem sgn_mul {g q k : Int} (hg : 0 < g) (hq : q ≠ 0) (h : (0 ≤ k * q ∧ k * q ≤ g * q) ∨ (g * q ≤ k * q ∧ k * q ≤ 0)) : 0 ≤ k ∧ k ≤ g := by
  rcases Int.lt_or_gt_of_ne hq with h1 | h1
  · have k1 : ∀ x y : Int, y * q ≤ x * q → x ≤ y := fun x y e => Int.not_lt.1 fun hxy => by
      have := Int.mul_lt_mul_of_neg_right hxy h1
      omega
    rcases h with ⟨h2, h3⟩ | ⟨h2, h3⟩
    · have e1 := k1 k 0 (by rw [Int.zero_mul]; omega)
      have e2 := k1 g k h3
      omega
    · exact ⟨k1 0 k (by rw [Int.zero_mul]; exact h3), k1 k g h2⟩
  · have k1 : ∀ x y : Int, x * q ≤ y * q → x ≤ y := fun x y e => Int.not_lt.1 fun hxy => by
      have := Int.mul_lt_mul_of_pos_right hxy h1
      omega
    rcases h with ⟨h2, h3⟩ | ⟨h2, h3⟩
    · exact ⟨k1 0 k (by rw [Int.zero_mul]; exact h2), k1 k g h3⟩
    · have e1 := k1 k 0 (by rw [Int.zero_mul]; omega)
      have e2 := k1 g k h2
      omega
theorem mul_between {g q k : Int} (h1 : 0 ≤ k) (h2 : k ≤ g) : min 0 (g * q) ≤ k * q ∧ k * q ≤ max 0 (g * q) := by
  rcases Int.le_total 0 q with h | h
  · have e1 := Int.mul_nonneg h1 h
    have e2 := Int.mul_le_mul_of_nonneg_right h2 h
    omega
  · have e1 := Int.mul_nonpos_of_nonneg_of_nonpos h1 h
    have e2 := Int.mul_le_mul_of_nonpos_right h2 h
    omega
/-- As many points as the greatest common divisor says. -/
theorem side_count {a b : Pt} {M : Nat} (hab : a ≠ b) (ha : (-(M : Int) ≤ a.1 ∧ a.1 ≤ M) ∧ (-(M : Int) ≤ a.2 ∧ a.2 ≤ M)) (hb : (-(M : Int) ≤ b.1 ∧ b.1 ≤ M) ∧ (-(M : Int) ≤ b.2 ∧ b.2 ≤ M)) :
    bs (hlfo a b) M = (Int.gcd (b.1 - a.1) (b.2 - a.2) : Int) := by
  obtain ⟨u, v, huv⟩ := bezout (b.1 - a.1) (b.2 - a.2)
  obtain ⟨p, hp⟩ := Int.gcd_dvd_left (a := b.1 - a.1) (b := b.2 - a.2)
  obtain ⟨q, hq⟩ := Int.gcd_dvd_right (a := b.1 - a.1) (b := b.2 - a.2)
  have hg0 : (b.1 - a.1).gcd (b.2 - a.2) ≠ 0 := by
    rw [Ne, Int.gcd_eq_zero_iff]
    intro hh
    exact hab (Prod.ext (by omega) (by omega))
  generalize (b.1 - a.1).gcd (b.2 - a.2) = n at *
  have hn : 0 < (n : Int) := by omega
  have huv1 : u * p + v * q = 1 := by
    rw [hp, hq] at huv
    have e : (n : Int) * (u * p + v * q) = (n : Int) * 1 := by rw [Int.mul_one]; grind
    exact Int.eq_of_mul_eq_mul_left (by omega) e
  have hpq : p ≠ 0 ∨ q ≠ 0 := by
    refine Classical.byContradiction fun k => ?_
    have : p = 0 ∧ q = 0 := by omega
    rw [this.1, this.2, Int.mul_zero, Int.mul_zero] at huv1
    omega
  have key : ∀ c : Pt, hlfo a b c = rs (fun k => if c = (a.1 + k * p, a.2 + k * q) then 1 else 0) 1 n := fun c => by
    by_cases hc : has a b c = true ∧ c ≠ a
    · obtain ⟨h1, h2⟩ := hc
      have ht := has_turn h1
      have hbx := has_box h1
      unfold turn at ht
      rw [hp, hq] at ht
      have ht2 : p * (c.2 - a.2) = q * (c.1 - a.1) := by
        have e : (n : Int) * (p * (c.2 - a.2)) = (n : Int) * (q * (c.1 - a.1)) := by grind
        exact Int.eq_of_mul_eq_mul_left (by omega) e
      have e1 : (u * (c.1 - a.1) + v * (c.2 - a.2)) * p = c.1 - a.1 := by
        have : (u * (c.1 - a.1) + v * (c.2 - a.2)) * p = (u * p + v * q) * (c.1 - a.1) := by grind
        rw [this, huv1, Int.one_mul]
      have e2 : (u * (c.1 - a.1) + v * (c.2 - a.2)) * q = c.2 - a.2 := by
        have : (u * (c.1 - a.1) + v * (c.2 - a.2)) * q = (u * p + v * q) * (c.2 - a.2) := by grind
        rw [this, huv1, Int.one_mul]
      generalize u * (c.1 - a.1) + v * (c.2 - a.2) = k at e1 e2
      have hk : 0 ≤ k ∧ k ≤ (n : Int) := by
        rcases hpq with hh | hh
        · exact sgn_mul hn hh (by rw [e1, ← hp]; omega)
        · exact sgn_mul hn hh (by rw [e2, ← hq]; omega)
      have hk0 : k ≠ 0 := fun q0 => by
        rw [q0, Int.zero_mul] at e1 e2
        exact h2 (Prod.ext (by omega) (by omega))
      have ec : c = (a.1 + k * p, a.2 + k * q) := Prod.ext (by simp only; omega) (by simp only; omega)
      unfold hlfo
      rw [if_pos ⟨h1, h2⟩]
      refine Eq.symm (Eq.trans (rs_congr _ fun j _ _ => ?_) (rs_one (lo := 1) (c := k) (n := n) (by omega) (by omega) 1))
      by_cases hj : j = k
      · rw [if_pos hj, hj, if_pos ec]
      · rw [if_neg hj, if_neg]
        intro q0
        rw [ec] at q0
        injection q0 with q1 q2
        have z1 : k * p = j * p := by omega
        have z2 : k * q = j * q := by omega
        rcases hpq with hh | hh
        · exact hj (Int.eq_of_mul_eq_mul_right hh z1).symm
        · exact hj (Int.eq_of_mul_eq_mul_right hh z2).symm
    · unfold hlfo
      rw [if_neg hc]
      refine (rs_zero _ fun k k1 k2 => if_neg fun ec => hc ?_).symm
      have m1 := mul_between (g := (n : Int)) (q := p) (k := k) (by omega) (by omega)
      have m2 := mul_between (g := (n : Int)) (q := q) (k := k) (by omega) (by omega)
      rw [← hp] at m1
      rw [← hq] at m2
      have c1 : c.1 = a.1 + k * p := by rw [ec]
      have c2 : c.2 = a.2 + k * q := by rw [ec]
      constructor
      · have t : turn a b c = 0 := by
          unfold turn
          rw [hp, hq, c1, c2]
          grind
        simp only [has, within, t, Bool.and_eq_true, decide_eq_true_eq, beq_self_eq_true, true_and]
        omega
      · intro e0
        rw [e0] at c1 c2
        rcases hpq with hh | hh
        · rcases Int.mul_eq_zero.1 (show k * p = 0 by omega) with z | z
          · omega
          · exact hh z
        · rcases Int.mul_eq_zero.1 (show k * q = 0 by omega) with z | z
          · omega
          · exact hh z
  rw [bs_congr key, bs_rs (fun k c => if c = (a.1 + k * p, a.2 + k * q) then 1 else 0), rs_congr (g := fun _ => 1) n fun k k1 k2 => ?_, rs_const, Int.one_mul]
  have m1 := mul_between (g := (n : Int)) (q := p) (k := k) (by omega) (by omega)
  have m2 := mul_between (g := (n : Int)) (q := q) (k := k) (by omega) (by omega)
  rw [← hp] at m1
  rw [← hq] at m2
  exact bs_at (c := (a.1 + k * p, a.2 + k * q)) (by simp only; omega) 1
end Go.Proofs.Ytijpolfmiajenaa
