/- Plain theory of windings: the sides to the right of a point, with their signs; along a line that meets no side the sum over a ring is the same. -/
import Derived.Test.YtijpolfmiajenaaPoly
namespace Go.Proofs.Ytijpolfmiajenaa

/-- Whether a side that goes up is to the right of a point. -/
def upB (a b p : Pt) : Bool := decide (a.2 ≤ p.2) && decide (p.2 < b.2) && decide (0 < turn a b p)
/-- A side to the right of a point: 1 if it goes up, -1 if it goes down, or 0. -/
def cp (a b p : Pt) : Int := (if upB a b p = true then 1 else 0) - (if upB b a p = true then 1 else 0)
theorem cp_anti (a b p : Pt) : cp b a p = - cp a b p := by unfold cp; omega
/-- Whether a corner is to the right of a line that goes up, at one of its heights above the first one. -/
def rtB (p q v : Pt) : Bool := decide (p.2 < v.2) && decide (v.2 ≤ q.2) && decide (turn p q v < 0)
def rt (p q v : Pt) : Int := (if rtB p q v = true then 1 else 0) - (if rtB q p v = true then 1 else 0)
theorem rt_anti (p q v : Pt) : rt q p v = - rt p q v := by unfold rt; omega
theorem turn_bar (a b p q v : Pt) : (b.2 - a.2) * turn p q v = (q.2 - p.2) * turn a b v - (q.2 - v.2) * turn a b p - (v.2 - p.2) * turn a b q := by
  simp only [turn]
  grind
theorem has_row {a b p : Pt} (h : turn a b p = 0) (h0 : a.2 < b.2) (h1 : a.2 ≤ p.2) (h2 : p.2 ≤ b.2) : has a b p = true :=
  between_of 0 1 h (by simp only [lin]; omega) (by simp only [lin]; omega) (by simp only [lin]; omega)
/-- Two lines without a point in common. -/
structure Dj (a b p q : Pt) : Prop where
  hp : has a b p = false
  hq : has a b q = false
  ha : has p q a = false
  hb : has p q b = false
  x : ¬ (turn a b p < 0 ∧ 0 < turn a b q ∧ 0 < turn p q a ∧ turn p q b < 0)
  y : ¬ (0 < turn a b p ∧ turn a b q < 0 ∧ turn p q a < 0 ∧ 0 < turn p q b)
theorem mul_neg' {a b : Int} (ha : 0 < a) (hb : b < 0) : a * b < 0 := Int.mul_neg_of_pos_of_neg ha hb
theorem mul_nn {a b : Int} (ha : 0 ≤ a) (hb : 0 ≤ b) : 0 ≤ a * b := Int.mul_nonneg ha hb
/-- A line within the heights of a side stays on one side of it. -/
theorem dj_in {a b p q : Pt} (h : Dj a b p q) (hab : a.2 < b.2) (hpq : p.2 < q.2) (h1 : a.2 ≤ p.2) (h2 : q.2 ≤ b.2) : 0 < turn a b p ↔ 0 < turn a b q := by
  have np : turn a b p ≠ 0 := fun e => by have := has_row e hab h1 (by omega); rw [h.hp] at this; cases this
  have nq : turn a b q ≠ 0 := fun e => by have := has_row e hab (by omega) h2; rw [h.hq] at this; cases this
  have ia := turn_bar a b p q a
  have ib := turn_bar a b p q b
  rw [turn_aba] at ia
  rw [turn_abb] at ib
  have hd : 0 < b.2 - a.2 := by omega
  constructor
  · intro hp
    refine Int.not_le.1 fun hq => ?_
    have hq' : turn a b q < 0 := by omega
    have k1 := Int.mul_pos (show 0 < q.2 - a.2 by omega) hp
    have k2 := Int.mul_nonneg_of_nonpos_of_nonpos (show a.2 - p.2 ≤ 0 by omega) (show turn a b q ≤ 0 by omega)
    have k3 := Int.mul_nonpos_of_nonpos_of_nonneg (show q.2 - b.2 ≤ 0 by omega) (show 0 ≤ turn a b p by omega)
    have k4 := mul_neg' (show 0 < b.2 - p.2 by omega) hq'
    have sa : turn p q a < 0 := neg_of_mul hd (by omega)
    have sb : 0 < turn p q b := pos_of_mul hd (by omega)
    exact h.y ⟨hp, hq', sa, sb⟩
  · intro hq
    refine Int.not_le.1 fun hp => ?_
    have hp' : turn a b p < 0 := by omega
    have k1 := mul_neg' (show 0 < q.2 - a.2 by omega) hp'
    have k2 := Int.mul_nonpos_of_nonpos_of_nonneg (show a.2 - p.2 ≤ 0 by omega) (show 0 ≤ turn a b q by omega)
    have k3 := Int.mul_nonneg_of_nonpos_of_nonpos (show q.2 - b.2 ≤ 0 by omega) (show turn a b p ≤ 0 by omega)
    have k4 := Int.mul_pos (show 0 < b.2 - p.2 by omega) hq
    have sa : 0 < turn p q a := pos_of_mul hd (by omega)
    have sb : turn p q b < 0 := neg_of_mul hd (by omega)
    exact h.x ⟨hp', hq, sa, sb⟩
theorem Dj.swap {a b p q : Pt} (h : Dj a b p q) : Dj p q a b := ⟨h.ha, h.hb, h.hp, h.hq, fun k => h.y ⟨k.2.2.1, k.2.2.2, k.1, k.2.1⟩, fun k => h.x ⟨k.2.2.1, k.2.2.2, k.1, k.2.1⟩⟩
/-- A line that begins at a height of a side and ends above it: the first point is on the same side of it as its upper corner of the line. -/
theorem dj_top {a b p q : Pt} (h : Dj a b p q) (hab : a.2 < b.2) (hpq : p.2 < q.2) (h1 : a.2 ≤ p.2) (h2 : p.2 < b.2) (h3 : b.2 ≤ q.2) : 0 < turn a b p ↔ turn p q b < 0 := by
  have np : turn a b p ≠ 0 := fun e => by have := has_row e hab h1 (by omega); rw [h.hp] at this; cases this
  have nb : turn p q b ≠ 0 := fun e => by have := has_row e hpq (by omega) h3; rw [h.hb] at this; cases this
  have ib := turn_bar a b p q b
  have ip := turn_bar p q a b p
  rw [turn_abb] at ib
  rw [turn_aba] at ip
  have hd : 0 < b.2 - a.2 := by omega
  have he : 0 < q.2 - p.2 := by omega
  constructor
  · intro hp
    refine Int.not_le.1 fun hb => ?_
    have hb' : 0 < turn p q b := by omega
    have k1 := Int.mul_pos hd hb'
    have k2 := mul_nn (show 0 ≤ q.2 - b.2 by omega) (show 0 ≤ turn a b p by omega)
    have sq : turn a b q < 0 := neg_of_mul (a := b.2 - p.2) (by omega) (by omega)
    have k3 := Int.mul_pos he hp
    have k4 := Int.mul_nonneg (show 0 ≤ p.2 - a.2 by omega) (show 0 ≤ turn p q b by omega)
    have sa : turn p q a < 0 := neg_of_mul (a := b.2 - p.2) (by omega) (by omega)
    exact h.y ⟨hp, sq, sa, hb'⟩
  · intro hb
    refine Int.not_le.1 fun hp => ?_
    have hp' : turn a b p < 0 := by omega
    have k1 := mul_neg' hd hb
    have k2 := Int.mul_nonpos_of_nonneg_of_nonpos (show 0 ≤ q.2 - b.2 by omega) (show turn a b p ≤ 0 by omega)
    have sq : 0 < turn a b q := pos_of_mul (a := b.2 - p.2) (by omega) (by omega)
    have k3 := mul_neg' he hp'
    have k4 := Int.mul_nonpos_of_nonneg_of_nonpos (show 0 ≤ p.2 - a.2 by omega) (show turn p q b ≤ 0 by omega)
    have sa : 0 < turn p q a := pos_of_mul (a := b.2 - p.2) (by omega) (by omega)
    exact h.x ⟨hp', sq, sa, hb⟩
theorem dj_bot {a b p q : Pt} (h : Dj a b p q) (hab : a.2 < b.2) (hpq : p.2 < q.2) (h1 : p.2 < a.2) (h2 : a.2 ≤ q.2) (h3 : q.2 < b.2) : 0 < turn a b q ↔ turn p q a < 0 := by
  have na : turn p q a ≠ 0 := fun e => by have := has_row e hpq (by omega) h2; rw [h.ha] at this; cases this
  have nq : turn a b q ≠ 0 := fun e => by have := has_row e hab h2 (by omega); rw [h.hq] at this; cases this
  rcases Int.lt_or_eq_of_le h2 with h4 | h4
  · have := dj_top h.swap hpq hab (by omega) h4 (by omega)
    omega
  · have ia := turn_bar a b p q a
    rw [turn_aba, h4, Int.sub_self, Int.zero_mul, Int.mul_zero] at ia
    have hd : 0 < b.2 - q.2 := by omega
    have he : 0 < q.2 - p.2 := by omega
    constructor
    · intro k
      have := Int.mul_pos he k
      exact neg_of_mul hd (by omega)
    · intro k
      have := mul_neg' hd k
      exact pos_of_mul he (by omega)
theorem cp_up {a b p : Pt} (h : a.2 < b.2) : cp a b p = if a.2 ≤ p.2 ∧ p.2 < b.2 ∧ 0 < turn a b p then 1 else 0 := by
  have h2 : upB b a p = false := by
    simp only [upB, Bool.and_eq_false_iff, decide_eq_false_iff_not]
    omega
  unfold cp
  rw [h2]
  simp only [upB, Bool.and_eq_true, decide_eq_true_eq, Bool.false_eq_true, if_false, Int.sub_zero, and_assoc]
theorem cp_flat {a b p : Pt} (h : a.2 = b.2) : cp a b p = 0 := by
  have h1 : upB a b p = false := by
    simp only [upB, Bool.and_eq_false_iff, decide_eq_false_iff_not]
    omega
  have h2 : upB b a p = false := by
    simp only [upB, Bool.and_eq_false_iff, decide_eq_false_iff_not]
    omega
  unfold cp
  rw [h1, h2]
  rfl
theorem rt_up {p q v : Pt} (h : p.2 < q.2) : rt p q v = if p.2 < v.2 ∧ v.2 ≤ q.2 ∧ turn p q v < 0 then 1 else 0 := by
  have h2 : rtB q p v = false := by
    simp only [rtB, Bool.and_eq_false_iff, decide_eq_false_iff_not]
    omega
  unfold rt
  rw [h2]
  simp only [rtB, Bool.and_eq_true, decide_eq_true_eq, Bool.false_eq_true, if_false, Int.sub_zero, and_assoc]
theorem rt_flat {p q v : Pt} (h : p.2 = q.2) : rt p q v = 0 := by
  have h1 : rtB p q v = false := by
    simp only [rtB, Bool.and_eq_false_iff, decide_eq_false_iff_not]
    omega
  have h2 : rtB q p v = false := by
    simp only [rtB, Bool.and_eq_false_iff, decide_eq_false_iff_not]
    omega
  unfold rt
  rw [h1, h2]
  rfl
theorem jump_uu {a b p q : Pt} (h : Dj a b p q) (hab : a.2 < b.2) (hpq : p.2 < q.2) : cp a b q - cp a b p = rt p q a - rt p q b := by
  rw [cp_up hab, cp_up hab, rt_up hpq, rt_up hpq]
  rcases Int.lt_or_le p.2 a.2 with h1 | h1
  · rcases Int.lt_or_le q.2 a.2 with h2 | h2
    · rw [if_neg (by omega), if_neg (by omega), if_neg (by omega), if_neg (by omega)]
    · rcases Int.lt_or_le q.2 b.2 with h3 | h3
      · have k := dj_bot h hab hpq h1 h2 h3
        split <;> split <;> split <;> split <;> omega
      · have k := dj_in h.swap hpq hab (by omega) h3
        have na : turn p q a ≠ 0 := fun e => by have := has_row e hpq (by omega) h2; rw [h.ha] at this; cases this
        have nb : turn p q b ≠ 0 := fun e => by have := has_row e hpq (by omega) h3; rw [h.hb] at this; cases this
        split <;> split <;> split <;> split <;> omega
  · rcases Int.lt_or_le p.2 b.2 with h2 | h2
    · rcases Int.lt_or_le q.2 b.2 with h3 | h3
      · have k := dj_in h hab hpq h1 (by omega)
        split <;> split <;> split <;> split <;> omega
      · have k := dj_top h hab hpq h1 h2 h3
        split <;> split <;> split <;> split <;> omega
    · rw [if_neg (by omega), if_neg (by omega), if_neg (by omega), if_neg (by omega)]
theorem Dj.rev {a b p q : Pt} (h : Dj a b p q) : Dj b a p q := by
  refine ⟨by rw [has_comm]; exact h.hp, by rw [has_comm]; exact h.hq, h.hb, h.ha, fun k => ?_, fun k => ?_⟩
  · rw [turn_neg a b p, turn_neg a b q] at k
    exact h.y ⟨by omega, by omega, k.2.2.2, k.2.2.1⟩
  · rw [turn_neg a b p, turn_neg a b q] at k
    exact h.x ⟨by omega, by omega, k.2.2.2, k.2.2.1⟩
theorem Dj.rev2 {a b p q : Pt} (h : Dj a b p q) : Dj a b q p := h.swap.rev.swap
/-- On a row, a point between two others is on their line. -/
theorem has_flat {p q v : Pt} (h : p.2 = q.2) (hv : v.2 = p.2) (hb : (p.1 ≤ v.1 ∧ v.1 ≤ q.1) ∨ (q.1 ≤ v.1 ∧ v.1 ≤ p.1)) : has p q v = true := by
  have e : turn p q v = 0 := by
    simp only [turn]
    rw [hv, ← h, Int.sub_self, Int.mul_zero, Int.zero_mul]
    omega
  simp only [has, within, e, Bool.and_eq_true, decide_eq_true_eq, beq_self_eq_true, true_and]
  omega
theorem turn_row {a b p : Pt} (h : p.2 = a.2) : turn a b p = -((b.2 - a.2) * (p.1 - a.1)) := by
  simp only [turn]
  rw [h, Int.sub_self, Int.mul_zero, Int.zero_sub]
theorem jump_uf {a b p q : Pt} (h : Dj a b p q) (hab : a.2 < b.2) (hpq : p.2 = q.2) : cp a b p = cp a b q := by
  rw [cp_up hab, cp_up hab, ← hpq]
  by_cases hr : a.2 ≤ p.2 ∧ p.2 < b.2
  · have np : turn a b p ≠ 0 := fun e => by have := has_row e hab (by omega) (by omega); rw [h.hp] at this; cases this
    have nq : turn a b q ≠ 0 := fun e => by have := has_row e hab (by omega) (by omega); rw [h.hq] at this; cases this
    have hd : 0 < b.2 - a.2 := by omega
    have ia := turn_bar a b p q a
    have ib := turn_bar a b p q b
    rw [turn_aba, ← hpq] at ia
    rw [turn_abb, ← hpq] at ib
    rw [Int.sub_self, Int.zero_mul] at ia ib
    have k : 0 < turn a b p ↔ 0 < turn a b q := by
      rcases Int.lt_or_eq_of_le hr.1 with h1 | h1
      · constructor
        · intro hp
          refine Int.not_le.1 fun hq => ?_
          have k1 := Int.mul_pos (show 0 < p.2 - a.2 by omega) hp
          have k2 := mul_neg' (show 0 < p.2 - a.2 by omega) (show turn a b q < 0 by omega)
          have k3 := Int.mul_pos (show 0 < b.2 - p.2 by omega) hp
          have k4 := mul_neg' (show 0 < b.2 - p.2 by omega) (show turn a b q < 0 by omega)
          have e1 : (a.2 - p.2) * turn a b q = -((p.2 - a.2) * turn a b q) := by rw [← Int.neg_mul, Int.neg_sub]
          have e2 : (p.2 - b.2) * turn a b p = -((b.2 - p.2) * turn a b p) := by rw [← Int.neg_mul, Int.neg_sub]
          have sa : turn p q a < 0 := neg_of_mul hd (by omega)
          have sb : 0 < turn p q b := pos_of_mul hd (by omega)
          exact h.y ⟨hp, by omega, sa, sb⟩
        · intro hq
          refine Int.not_le.1 fun hp => ?_
          have k1 := mul_neg' (show 0 < p.2 - a.2 by omega) (show turn a b p < 0 by omega)
          have k2 := Int.mul_pos (show 0 < p.2 - a.2 by omega) hq
          have k3 := mul_neg' (show 0 < b.2 - p.2 by omega) (show turn a b p < 0 by omega)
          have k4 := Int.mul_pos (show 0 < b.2 - p.2 by omega) hq
          have e1 : (a.2 - p.2) * turn a b q = -((p.2 - a.2) * turn a b q) := by rw [← Int.neg_mul, Int.neg_sub]
          have e2 : (p.2 - b.2) * turn a b p = -((b.2 - p.2) * turn a b p) := by rw [← Int.neg_mul, Int.neg_sub]
          have sa : 0 < turn p q a := pos_of_mul hd (by omega)
          have sb : turn p q b < 0 := neg_of_mul hd (by omega)
          exact h.x ⟨by omega, hq, sa, sb⟩
      · have tp := turn_row (a := a) (b := b) (p := p) h1.symm
        have tq := turn_row (a := a) (b := b) (p := q) (by omega)
        constructor
        · intro hp
          refine Int.not_le.1 fun hq => ?_
          have x1 : p.1 - a.1 < 0 := neg_of_mul hd (by omega)
          have x2 : 0 < q.1 - a.1 := pos_of_mul hd (by omega)
          have := has_flat hpq (v := a) h1 (.inl ⟨by omega, by omega⟩)
          rw [h.ha] at this
          cases this
        · intro hq
          refine Int.not_le.1 fun hp => ?_
          have x1 : 0 < p.1 - a.1 := pos_of_mul hd (by omega)
          have x2 : q.1 - a.1 < 0 := neg_of_mul hd (by omega)
          have := has_flat hpq (v := a) h1 (.inr ⟨by omega, by omega⟩)
          rw [h.ha] at this
          cases this
    split <;> split <;> omega
  · rw [if_neg (by omega), if_neg (by omega)]
theorem jump_fu {a b p q : Pt} (h : Dj a b p q) (hab : a.2 = b.2) (hpq : p.2 < q.2) : rt p q a = rt p q b := by
  rw [rt_up hpq, rt_up hpq, ← hab]
  by_cases hr : p.2 < a.2 ∧ a.2 ≤ q.2
  · have k : 0 < turn p q a ↔ 0 < turn p q b := by
      have na : turn p q a ≠ 0 := fun e => by have := has_row e hpq (by omega) hr.2; rw [h.ha] at this; cases this
      have nb : turn p q b ≠ 0 := fun e => by have := has_row e hpq (by omega) (by omega); rw [h.hb] at this; cases this
      rcases Int.lt_or_eq_of_le hr.2 with h1 | h1
      · have j := jump_uf h.swap hpq hab
        rw [cp_up hpq, cp_up hpq, ← hab] at j
        revert j
        split <;> split <;> omega
      · have hd : 0 < q.2 - p.2 := by omega
        have ta : turn p q a = -((q.2 - p.2) * (a.1 - q.1)) := by
          simp only [turn]
          rw [h1]
          grind
        have tb : turn p q b = -((q.2 - p.2) * (b.1 - q.1)) := by
          simp only [turn]
          rw [← hab, h1]
          grind
        constructor
        · intro ka
          refine Int.not_le.1 fun kb => ?_
          have x1 : a.1 - q.1 < 0 := neg_of_mul hd (by omega)
          have x2 : 0 < b.1 - q.1 := pos_of_mul hd (by omega)
          have := has_flat hab (v := q) h1.symm (.inl ⟨by omega, by omega⟩)
          rw [h.hq] at this
          cases this
        · intro kb
          refine Int.not_le.1 fun ka => ?_
          have x1 : 0 < a.1 - q.1 := pos_of_mul hd (by omega)
          have x2 : b.1 - q.1 < 0 := neg_of_mul hd (by omega)
          have := has_flat hab (v := q) h1.symm (.inr ⟨by omega, by omega⟩)
          rw [h.hq] at this
          cases this
    have na : turn p q a ≠ 0 := fun e => by have := has_row e hpq (by omega) hr.2; rw [h.ha] at this; cases this
    have nb : turn p q b ≠ 0 := fun e => by have := has_row e hpq (by omega) (by omega); rw [h.hb] at this; cases this
    split <;> split <;> omega
  · rw [if_neg (by omega), if_neg (by omega)]
/-- From one end of a line to the other one, a side that does not meet it changes by what lies to the right of the line. -/
theorem jump {a b p q : Pt} (h : Dj a b p q) : cp a b q - cp a b p = rt p q a - rt p q b := by
  rcases Int.lt_trichotomy a.2 b.2 with h1 | h1 | h1
  · rcases Int.lt_trichotomy p.2 q.2 with h2 | h2 | h2
    · exact jump_uu h h1 h2
    · have := jump_uf h h1 h2
      rw [rt_flat h2, rt_flat h2]
      omega
    · have := jump_uu h.rev2 h1 h2
      rw [rt_anti p q, rt_anti p q] at this
      omega
  · rw [cp_flat h1, cp_flat h1]
    rcases Int.lt_trichotomy p.2 q.2 with h2 | h2 | h2
    · have := jump_fu h h1 h2
      omega
    · rw [rt_flat h2, rt_flat h2]
    · have := jump_fu h.rev2 h1 h2
      rw [rt_anti p q, rt_anti p q] at this
      omega
  · rw [cp_anti b a, cp_anti b a]
    rcases Int.lt_trichotomy p.2 q.2 with h2 | h2 | h2
    · have := jump_uu h.rev h1 h2
      omega
    · have := jump_uf h.rev h1 h2
      rw [rt_flat h2, rt_flat h2]
      omega
    · have := jump_uu h.rev.rev2 h1 h2
      rw [rt_anti p q, rt_anti p q] at this
      omega
end Go.Proofs.Ytijpolfmiajenaa
