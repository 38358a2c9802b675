/- Plain theory of a planimeter's wheel: what is valid, and when a walk is right. -/
import Derived.Test.YthijegacjboclaaGreatGeo
namespace Go.Proofs.YthijegacjboclaaGreat

structure Whl where
  full : Int
  read : Int
  slip : Int
  skew : Int
  circle : Int
  glo : Int
  ghi : Int
  wrong : Int
  deriving DecidableEq, Inhabited
structure Wk where
  sense : Int
  side : Int
  inside : Int
  start : Int
  fin : Int
  deriving DecidableEq, Inhabited
def wkE (x : Wk) : List Int := [x.sense, x.side, x.inside, x.start, x.fin]
theorem wkE_len (x : Wk) : (wkE x).length = 5 := rfl
def wat (l : List Wk) (i : Nat) : Wk := l.getD i default
theorem wat_get {l : List Wk} {i : Nat} (h : i < l.length) : l[i]? = some (wat l i) := by
  simp [wat, h]
theorem wat_eq {l : List Wk} {i : Nat} (h : i < l.length) : l[i] = wat l i := by
  simp [wat, h]
theorem wat_mem {l : List Wk} {i : Nat} (h : i < l.length) : wat l i ∈ l := by rw [← wat_eq h]; exact List.getElem_mem h
def oneB (n : Int) : Bool := (n == 1) || (n == -1)
def whlB (w : Whl) : Bool := within w.full 10 10000 && within w.read 0 20 && within w.slip 0 20 && within w.skew 0 20 && within w.circle 0 9999 && within w.glo 0 w.ghi && decide (w.ghi ≤ 9999) && within w.wrong 0 8
def wkB (w : Whl) (x : Wk) : Bool := oneB x.sense && oneB x.side && within x.inside 0 1 && within x.start 0 (w.full - 1) && within x.fin 0 (w.full - 1)
def whE (w : Whl) (l : List Wk) : Int := if whlB w = true then (if l.length ≤ 8 ∧ l.all (wkB w) = true then 0 else 31) else 30
structure WhlOk (w : Whl) : Prop where
  f0 : 10 ≤ w.full
  f1 : w.full ≤ 10000
  r0 : 0 ≤ w.read
  r1 : w.read ≤ 20
  s0 : 0 ≤ w.slip
  s1 : w.slip ≤ 20
  k0 : 0 ≤ w.skew
  k1 : w.skew ≤ 20
  c0 : 0 ≤ w.circle
  c1 : w.circle ≤ 9999
  g0 : 0 ≤ w.glo
  g1 : w.glo ≤ w.ghi
  g2 : w.ghi ≤ 9999
  w0 : 0 ≤ w.wrong
  w1 : w.wrong ≤ 8
theorem whl_ok {w : Whl} (h : whlB w = true) : WhlOk w := by
  simp only [whlB, within, Bool.and_eq_true, decide_eq_true_eq] at h
  obtain ⟨⟨⟨⟨⟨⟨⟨⟨a1, a2⟩, a3, a4⟩, a5, a6⟩, a7, a8⟩, a9, b1⟩, b2, b3⟩, b4⟩, b5, b6⟩ := h
  exact ⟨a1, a2, a3, a4, a5, a6, a7, a8, a9, b1, b2, b3, b4, b5, b6⟩
structure WkOk (w : Whl) (x : Wk) : Prop where
  sense : x.sense = 1 ∨ x.sense = -1
  side : x.side = 1 ∨ x.side = -1
  i0 : 0 ≤ x.inside
  i1 : x.inside ≤ 1
  s0 : 0 ≤ x.start
  s1 : x.start ≤ w.full - 1
  e0 : 0 ≤ x.fin
  e1 : x.fin ≤ w.full - 1
theorem wk_ok {w : Whl} {x : Wk} (h : wkB w x = true) : WkOk w x := by
  simp only [wkB, oneB, within, Bool.and_eq_true, Bool.or_eq_true, beq_iff_eq, decide_eq_true_eq] at h
  obtain ⟨⟨⟨⟨a1, a2⟩, a3, a4⟩, a5, a6⟩, a7, a8⟩ := h
  exact ⟨a1, a2, a3, a4, a5, a6, a7, a8⟩
theorem whE_zero {w : Whl} {l : List Wk} (h : whE w l = 0) : whlB w = true ∧ l.length ≤ 8 ∧ ∀ x ∈ l, wkB w x = true := by
  unfold whE at h
  split at h
  · rename_i h1
    split at h
    · rename_i h2; exact ⟨h1, h2.1, List.all_eq_true.1 h2.2⟩
    · exact absurd h (by decide)
  · exact absurd h (by decide)
def wkLo (w : Whl) (x : Wk) : Int := if x.sense = 1 then -(2 * w.read) - w.slip else -(2 * w.read)
def wkHi (w : Whl) (x : Wk) : Int := if x.sense = 1 then 2 * w.read else 2 * w.read + w.slip
def wkLf (w : Whl) (x : Wk) (a s : Int) : Int := x.fin - x.start - x.sense * (a - x.inside * w.circle) - x.side * s
/-- Whether a walk is right for an area and a skew. -/
def rgtB (w : Whl) (x : Wk) (a s : Int) : Bool := decide (wkLo w x + (wkLf w x a s - wkLo w x) % w.full ≤ wkHi w x)
theorem emod_le_self {a m : Int} (ha : 0 ≤ a) (hm : 0 < m) : a % m ≤ a := by
  have h1 := Int.emod_add_mul_ediv a m
  have h2 := Int.mul_nonneg (Int.le_of_lt hm) (Int.ediv_nonneg ha (Int.le_of_lt hm))
  omega
theorem rgt_iff {w : Whl} {x : Wk} (h : WhlOk w) (hx : x.sense = 1 ∨ x.sense = -1) (a s : Int) :
    rgtB w x a s = true ↔ ∃ p o : Int, 0 ≤ p ∧ p ≤ w.slip ∧ -(2 * w.read) ≤ o ∧ o ≤ 2 * w.read ∧ w.full ∣ wkLf w x a s + x.sense * p - o := by
  have hf := h.f0
  have hr := h.r0
  have hs := h.s0
  have e1 := Int.emod_nonneg (wkLf w x a s - wkLo w x) (show w.full ≠ 0 by omega)
  have e2 := Int.emod_add_mul_ediv (wkLf w x a s - wkLo w x) w.full
  simp only [rgtB, decide_eq_true_eq]
  constructor
  · intro hle
    generalize hv : wkLo w x + (wkLf w x a s - wkLo w x) % w.full = v at *
    have hd : w.full ∣ wkLf w x a s - v := ⟨(wkLf w x a s - wkLo w x) / w.full, by omega⟩
    rcases hx with hx | hx
    · rw [wkHi, if_pos hx] at hle
      rw [wkLo, if_pos hx] at e1 e2 hv
      refine ⟨max v (-(2 * w.read)) - v, max v (-(2 * w.read)), by omega, by omega, by omega, by omega, ?_⟩
      rw [hx]
      have : wkLf w x a s + 1 * (max v (-(2 * w.read)) - v) - max v (-(2 * w.read)) = wkLf w x a s - v := by omega
      rw [this]; exact hd
    · rw [wkHi, if_neg (by omega)] at hle
      rw [wkLo, if_neg (by omega)] at e1 e2 hv
      refine ⟨v - min v (2 * w.read), min v (2 * w.read), by omega, by omega, by omega, by omega, ?_⟩
      rw [hx]
      have : wkLf w x a s + -1 * (v - min v (2 * w.read)) - min v (2 * w.read) = wkLf w x a s - v := by omega
      rw [this]; exact hd
  · rintro ⟨p, o, p0, p1, o0, o1, k, hk⟩
    have key : ∀ u, wkLo w x ≤ u → u ≤ wkHi w x → wkLf w x a s - u = w.full * k → wkLo w x + (wkLf w x a s - wkLo w x) % w.full ≤ wkHi w x := fun u u0 u1 hu => by
      have e3 : wkLf w x a s - wkLo w x = (u - wkLo w x) + w.full * k := by omega
      rw [e3, Int.add_mul_emod_self_left]
      have := emod_le_self (a := u - wkLo w x) (m := w.full) (by omega) (by omega)
      omega
    rcases hx with hx | hx
    · rw [hx] at hk
      exact key (o - p) (by rw [wkLo, if_pos hx]; omega) (by rw [wkHi, if_pos hx]; omega) (by omega)
    · rw [hx] at hk
      exact key (o + p) (by rw [wkLo, if_neg (by omega)]; omega) (by rw [wkHi, if_neg (by omega)]; omega) (by omega)
/-- The program's way to the remainder. -/
theorem tmod_up {x m : Int} (hm : 0 < m) : (x.tmod m + m).tmod m = x % m := by
  have h1 := Int.tmod_lt_of_pos x hm
  have h2 : -m < x.tmod m := by
    have := Int.lt_tmod_of_pos x hm
    omega
  rw [Int.tmod_eq_emod_of_nonneg (by omega), Int.add_emod_right]
  have h3 := Int.tmod_add_mul_tdiv x m
  have : x = x.tmod m + m * x.tdiv m := h3.symm
  conv => rhs; rw [this]
  rw [Int.add_mul_emod_self_left]
end Go.Proofs.YthijegacjboclaaGreat
