/- Sums over rows and boxes of whole numbers; how many points of a row lie left of a side. -/
import Derived.Test.YtijpolfmiajenaaWcr
namespace Go.Proofs.Ytijpolfmiajenaa

/-- The sum of f over lo, lo + 1, .. (n numbers). -/
def rs (f : Int → Int) (lo : Int) : Nat → Int
  | 0 => 0
  | n + 1 => rs f lo n + f (lo + (n : Int))
theorem rs_congr {f g : Int → Int} {lo : Int} : ∀ n : Nat, (∀ x, lo ≤ x → x < lo + (n : Int) → f x = g x) → rs f lo n = rs g lo n
  | 0, _ => rfl
  | n + 1, h => by
    rw [rs, rs, rs_congr n fun x h1 h2 => h x h1 (by omega), h (lo + n) (by omega) (by omega)]
theorem rs_add (f g : Int → Int) (lo : Int) : ∀ n : Nat, rs (fun x => f x + g x) lo n = rs f lo n + rs g lo n
  | 0 => rfl
  | n + 1 => by rw [rs, rs, rs, rs_add f g lo n]; omega
theorem rs_first (f : Int → Int) (lo : Int) : ∀ n : Nat, rs f lo (n + 1) = f lo + rs f (lo + 1) n
  | 0 => by simp [rs]
  | n + 1 => by
    have h := rs_first f lo n
    rw [rs, h, rs, show lo + 1 + (n : Int) = lo + ((n + 1 : Nat) : Int) by omega]
    omega
/-- Backwards. -/
theorem rs_back (f : Int → Int) (s : Int) : ∀ (n : Nat) (lo : Int), rs (fun x => f (s - x)) lo n = rs f (s - lo - (n : Int) + 1) n
  | 0, _ => rfl
  | n + 1, lo => by
    rw [rs_first f, rs, rs_back f s n lo, show s - lo - ((n + 1 : Nat) : Int) + 1 + 1 = s - lo - (n : Int) + 1 by omega, show s - lo - ((n + 1 : Nat) : Int) + 1 = s - (lo + (n : Int)) by omega]
    omega
theorem rs_zero {f : Int → Int} {lo : Int} (n : Nat) (h : ∀ x, lo ≤ x → x < lo + (n : Int) → f x = 0) : rs f lo n = 0 := by
  rw [rs_congr (g := fun _ => 0) n h]
  induction n with
  | zero => rfl
  | succ n ih => rw [rs, ih fun x h1 h2 => h x h1 (by omega)]; rfl
theorem rs_const (c lo : Int) : ∀ n : Nat, rs (fun _ => c) lo n = c * (n : Int)
  | 0 => by simp [rs]
  | n + 1 => by
    rw [rs, rs_const c lo n, show ((n + 1 : Nat) : Int) = (n : Int) + 1 by omega, Int.mul_add, Int.mul_one]
/-- How many numbers of a window are below e. -/
theorem rs_below (e lo : Int) : ∀ n : Nat, lo ≤ e → e ≤ lo + (n : Int) → rs (fun x => if x < e then 1 else 0) lo n = e - lo
  | 0, h1, h2 => by
    rw [rs]
    simp only [Int.natCast_zero] at h2
    omega
  | n + 1, h1, h2 => by
    rw [rs]
    rcases Int.lt_or_le (lo + (n : Int)) e with k | k
    · have : e = lo + (n : Int) + 1 := by omega
      have h3 : rs (fun x => if x < e then (1 : Int) else 0) lo n = rs (fun _ => 1) lo n := rs_congr n fun x _ hx => if_pos (by omega)
      rw [h3, rs_const, if_pos k]
      omega
    · rw [rs_below e lo n h1 k, if_neg (by omega)]
      omega
/-- There is a number below which just all x lie with h x < K. -/
theorem below_ex {h K : Int} (hh : 0 < h) : ∃ e : Int, ∀ x : Int, h * x < K ↔ x < e := by
  refine ⟨(K + h - 1) / h, fun x => ?_⟩
  constructor
  · intro k
    have : (x + 1) * h ≤ K + h - 1 := by rw [Int.add_mul, Int.mul_comm x h]; omega
    have := (Int.le_ediv_iff_mul_le hh).2 this
    omega
  · intro k
    have k2 : x + 1 ≤ (K + h - 1) / h := by omega
    have := (Int.le_ediv_iff_mul_le hh).1 k2
    rw [Int.add_mul, Int.mul_comm x h] at this
    omega
/-- In a row: the points left of a side that goes up, less those right of it in the row across its middle. -/
theorem row_diff {a b : Pt} {B : Int} {M : Nat} (hab : a.2 < b.2) (ha : -B ≤ a.1 ∧ a.1 ≤ B) (hb : -B ≤ b.1 ∧ b.1 ≤ B) (hM : 3 * B ≤ (M : Int)) {y : Int} (h1 : a.2 ≤ y) (h2 : y < b.2) :
    rs (fun x => if 0 < turn a b (x, y) then 1 else 0) (-(M : Int)) (2 * M + 1) - rs (fun x => if turn a b (x, a.2 + b.2 - y) < 0 then 1 else 0) (-(M : Int)) (2 * M + 1) = a.1 + b.1 := by
  have hh : 0 < b.2 - a.2 := by omega
  obtain ⟨e, he⟩ := below_ex (h := b.2 - a.2) (K := (b.1 - a.1) * (y - a.2) + (b.2 - a.2) * a.1) hh
  have i1 : ∀ x : Int, turn a b (x, y) = (b.1 - a.1) * (y - a.2) + (b.2 - a.2) * a.1 - (b.2 - a.2) * x := fun x => by simp only [turn]; grind
  have i2 : ∀ x : Int, turn a b (x, a.2 + b.2 - y) = (b.2 - a.2) * (a.1 + b.1 - x) - ((b.1 - a.1) * (y - a.2) + (b.2 - a.2) * a.1) := fun x => by simp only [turn]; grind
  have lo1 : min a.1 b.1 ≤ e := by
    have k := (he (min a.1 b.1 - 1)).1 (by
      rcases Int.le_total a.1 b.1 with q | q
      · have k1 := Int.mul_nonneg (show 0 ≤ b.1 - a.1 by omega) (show 0 ≤ y - a.2 by omega)
        have k2 : (b.2 - a.2) * (min a.1 b.1 - 1) < (b.2 - a.2) * a.1 := Int.mul_lt_mul_of_pos_left (by omega) hh
        omega
      · have k1 := Int.mul_le_mul_of_nonpos_left (show b.1 - a.1 ≤ 0 by omega) (show y - a.2 ≤ b.2 - a.2 by omega)
        have k2 : (b.2 - a.2) * (min a.1 b.1 - 1) < (b.2 - a.2) * b.1 := Int.mul_lt_mul_of_pos_left (by omega) hh
        have k3 : (b.1 - a.1) * (b.2 - a.2) = (b.2 - a.2) * b.1 - (b.2 - a.2) * a.1 := by grind
        omega)
    omega
  have hi1 : e ≤ max a.1 b.1 := by
    refine Int.not_lt.1 fun k => ?_
    have k := (he (max a.1 b.1)).2 k
    rcases Int.le_total a.1 b.1 with q | q
    · have k1 := Int.mul_le_mul_of_nonneg_left (show y - a.2 ≤ b.2 - a.2 by omega) (show 0 ≤ b.1 - a.1 by omega)
      have k3 : (b.1 - a.1) * (b.2 - a.2) = (b.2 - a.2) * b.1 - (b.2 - a.2) * a.1 := by grind
      have k4 : max a.1 b.1 = b.1 := by omega
      rw [k4] at k
      omega
    · have k1 := Int.mul_nonpos_of_nonpos_of_nonneg (show b.1 - a.1 ≤ 0 by omega) (show 0 ≤ y - a.2 by omega)
      have k4 : max a.1 b.1 = a.1 := by omega
      rw [k4] at k
      omega
  have r1 : rs (fun x => if 0 < turn a b (x, y) then 1 else 0) (-(M : Int)) (2 * M + 1) = e + (M : Int) := by
    have : rs (fun x => if 0 < turn a b (x, y) then (1 : Int) else 0) (-(M : Int)) (2 * M + 1) = rs (fun x => if x < e then 1 else 0) (-(M : Int)) (2 * M + 1) := rs_congr _ fun x _ _ => by
      have k := he x
      have q := i1 x
      split <;> split <;> omega
    rw [this, rs_below e _ _ (by omega) (by omega)]
    omega
  have r2 : rs (fun x => if turn a b (x, a.2 + b.2 - y) < 0 then 1 else 0) (-(M : Int)) (2 * M + 1) = e - (a.1 + b.1 - (M : Int)) := by
    have : rs (fun x => if turn a b (x, a.2 + b.2 - y) < 0 then (1 : Int) else 0) (-(M : Int)) (2 * M + 1) = rs (fun x => (fun x => if x < e then (1 : Int) else 0) (a.1 + b.1 - x)) (-(M : Int)) (2 * M + 1) := rs_congr _ fun x _ _ => by
      have k := he (a.1 + b.1 - x)
      have q := i2 x
      show _ = (if a.1 + b.1 - x < e then (1 : Int) else 0)
      split <;> split <;> omega
    rw [this, rs_back (fun x => if x < e then (1 : Int) else 0), show a.1 + b.1 - -(M : Int) - ((2 * M + 1 : Nat) : Int) + 1 = a.1 + b.1 - (M : Int) by omega, rs_below e _ _ (by omega) (by omega)]
  rw [r1, r2]
  omega
theorem rs_split (f : Int → Int) (lo : Int) (n : Nat) : ∀ k : Nat, rs f lo (n + k) = rs f lo n + rs f (lo + (n : Int)) k
  | 0 => by simp [rs]
  | k + 1 => by
    rw [← Nat.add_assoc, rs, rs_split f lo n k, rs, show lo + ((n + k : Nat) : Int) = lo + (n : Int) + (k : Int) by omega]
    omega
/-- What is 0 outside of a smaller window. -/
theorem rs_sub {f : Int → Int} {lo p : Int} {n k : Nat} (h1 : lo ≤ p) (h2 : p + (k : Int) ≤ lo + (n : Int)) (h : ∀ x, x < p ∨ p + (k : Int) ≤ x → f x = 0) : rs f lo n = rs f p k := by
  obtain ⟨m, rfl⟩ : ∃ m : Nat, p = lo + (m : Int) := ⟨(p - lo).toNat, by omega⟩
  obtain ⟨r, rfl⟩ : ∃ r : Nat, n = m + (k + r) := ⟨n - m - k, by omega⟩
  rw [rs_split, rs_split, rs_zero m fun x q1 q2 => h x (.inl (by omega)), rs_zero r fun x q1 q2 => h x (.inr (by omega))]
  omega
/-- The sum over a box around the middle. -/
def bs (f : Pt → Int) (M : Nat) : Int := rs (fun y => rs (fun x => f (x, y)) (-(M : Int)) (2 * M + 1)) (-(M : Int)) (2 * M + 1)
theorem bs_congr {f g : Pt → Int} {M : Nat} (h : ∀ p, f p = g p) : bs f M = bs g M := by
  unfold bs
  exact rs_congr _ fun y _ _ => rs_congr _ fun x _ _ => h _
theorem bs_add (f g : Pt → Int) (M : Nat) : bs (fun p => f p + g p) M = bs f M + bs g M := by
  unfold bs
  rw [← rs_add]
  exact rs_congr _ fun y _ _ => rs_add _ _ _ _
theorem edge_up {a b : Pt} {B : Int} {M : Nat} (hab : a.2 < b.2) (ha : (-B ≤ a.1 ∧ a.1 ≤ B) ∧ (-B ≤ a.2 ∧ a.2 ≤ B)) (hb : (-B ≤ b.1 ∧ b.1 ≤ B) ∧ (-B ≤ b.2 ∧ b.2 ≤ B)) (hM : 3 * B ≤ (M : Int)) :
    bs (fun p => cp a b p + cmn a b p) M = (b.2 - a.2) * (a.1 + b.1) := by
  obtain ⟨k, hk⟩ : ∃ k : Nat, b.2 = a.2 + (k : Int) := ⟨(b.2 - a.2).toNat, by omega⟩
  have e1 : bs (fun p => cp a b p) M = rs (fun y => rs (fun x => if 0 < turn a b (x, y) then 1 else 0) (-(M : Int)) (2 * M + 1)) a.2 k := by
    unfold bs
    rw [rs_sub (p := a.2) (k := k) (by omega) (by omega) fun y hy => rs_zero _ fun x _ _ => by
      show cp a b (x, y) = 0
      rw [cp_up hab, if_neg (by simp only; omega)]]
    refine rs_congr _ fun y h1 h2 => rs_congr _ fun x _ _ => ?_
    show cp a b (x, y) = _
    rw [cp_up hab]
    by_cases t : 0 < turn a b (x, y)
    · rw [if_pos ⟨h1, by simp only; omega, t⟩, if_pos t]
    · rw [if_neg (fun q => t q.2.2), if_neg t]
  have e2 : bs (fun p => cmn a b p) M = - rs (fun y => rs (fun x => if turn a b (x, a.2 + b.2 - y) < 0 then 1 else 0) (-(M : Int)) (2 * M + 1)) a.2 k := by
    have n1 : ∀ (f : Int → Int) (lo : Int) (n : Nat), rs (fun x => - f x) lo n = - rs f lo n := fun f lo n => by
      induction n with
      | zero => rfl
      | succ n ih => rw [rs, rs, ih]; omega
    rw [rs_back (fun y => rs (fun x => if turn a b (x, y) < 0 then 1 else 0) (-(M : Int)) (2 * M + 1)) (a.2 + b.2), show a.2 + b.2 - a.2 - (k : Int) + 1 = a.2 + 1 by omega, ← n1]
    unfold bs
    rw [rs_sub (p := a.2 + 1) (k := k) (by omega) (by omega) fun y hy => rs_zero _ fun x _ _ => by
      show cmn a b (x, y) = 0
      rw [cmn_up hab, if_neg (by simp only; omega)]]
    refine rs_congr _ fun y h1 h2 => ?_
    rw [← n1]
    refine rs_congr _ fun x _ _ => ?_
    show cmn a b (x, y) = _
    rw [cmn_up hab]
    by_cases t : turn a b (x, y) < 0
    · rw [if_pos ⟨by simp only; omega, by simp only; omega, t⟩, if_pos t]
    · rw [if_neg (fun q => t q.2.2), if_neg t]
      rfl
  rw [bs_add, e1, e2]
  have hd : rs (fun y => rs (fun x => if 0 < turn a b (x, y) then (1 : Int) else 0) (-(M : Int)) (2 * M + 1)) a.2 k = rs (fun y => rs (fun x => if turn a b (x, a.2 + b.2 - y) < 0 then (1 : Int) else 0) (-(M : Int)) (2 * M + 1) + (a.1 + b.1)) a.2 k := rs_congr _ fun y h1 h2 => by
    have := row_diff (M := M) hab ha.1 hb.1 hM h1 (by omega)
    omega
  rw [hd, rs_add, rs_const, show b.2 - a.2 = (k : Int) by omega, Int.mul_comm (a.1 + b.1)]
  omega
/-- The sum of both windings of a side over a great box. -/
theorem edge_box {a b : Pt} {B : Int} {M : Nat} (ha : (-B ≤ a.1 ∧ a.1 ≤ B) ∧ (-B ≤ a.2 ∧ a.2 ≤ B)) (hb : (-B ≤ b.1 ∧ b.1 ≤ B) ∧ (-B ≤ b.2 ∧ b.2 ≤ B)) (hM : 3 * B ≤ (M : Int)) :
    bs (fun p => cp a b p + cmn a b p) M = (b.2 - a.2) * (a.1 + b.1) := by
  rcases Int.lt_trichotomy a.2 b.2 with h | h | h
  · exact edge_up h ha hb hM
  · rw [bs_congr (g := fun _ => 0) fun p => by rw [cp_flat h, cmn_flat h]; rfl, h, Int.sub_self, Int.zero_mul]
    unfold bs
    exact rs_zero _ fun y _ _ => rs_zero _ fun x _ _ => rfl
  · have k := edge_up h hb ha hM
    have e : bs (fun p => cp a b p + cmn a b p) M + bs (fun p => cp b a p + cmn b a p) M = 0 := by
      rw [← bs_add, bs_congr (g := fun _ => 0) fun p => by rw [cp_anti a b p, cmn_anti a b p]; omega]
      unfold bs
      exact rs_zero _ fun y _ _ => rs_zero _ fun x _ _ => rfl
    have e2 : (b.2 - a.2) * (a.1 + b.1) = -((a.2 - b.2) * (b.1 + a.1)) := by rw [← Int.neg_mul, Int.neg_sub, Int.add_comm b.1]
    omega
theorem bs_zero (M : Nat) : bs (fun _ => 0) M = 0 := by
  unfold bs
  exact rs_zero _ fun y _ _ => rs_zero _ fun x _ _ => rfl
theorem bs_tot (h : Pt → Pt → Pt → Int) (g : Pt → Pt → Int) (M : Nat) : ∀ E : List Edge, (∀ e ∈ E, bs (fun p => h e.1 e.2 p) M = g e.1 e.2) → bs (fun p => tot (fun a b => h a b p) E) M = tot g E
  | [], _ => bs_zero M
  | e :: E, hh => by
    have h1 := bs_tot h g M E fun f hf => hh f (List.mem_cons_of_mem _ hf)
    have h2 := hh e List.mem_cons_self
    simp only [tot]
    rw [bs_add, h1, h2]
/-- The sum of both windings over a great box is the doubled area. -/
theorem wkk_box_sum {P : List Pt} {B : Int} {M : Nat} (hB : ∀ v ∈ P, (-B ≤ v.1 ∧ v.1 ≤ B) ∧ (-B ≤ v.2 ∧ v.2 ≤ B)) (hM : 3 * B ≤ (M : Int)) : bs (wkk P) M = tot (fun a b => a.1 * b.2 - a.2 * b.1) (ring P) := by
  have e1 : bs (wkk P) M = bs (fun p => tot (fun a b => cp a b p + cmn a b p) (ring P)) M := bs_congr fun p => by
    rw [tot_add]
    unfold wkk
    rw [wndm_tot]
    rfl
  rw [e1, bs_tot (fun a b p => cp a b p + cmn a b p) (fun a b => (b.2 - a.2) * (a.1 + b.1)) M (ring P) fun e he => edge_box (hB _ (ring_mem he).1) (hB _ (ring_mem he).2) hM]
  have e2 := tot_add (fun a b => a.1 * b.2 - a.2 * b.1) (fun a b => (fun v : Pt => - (v.1 * v.2)) a - (fun v : Pt => - (v.1 * v.2)) b) (ring P)
  rw [ring_tele] at e2
  rw [← Int.add_zero (tot (fun a b => a.1 * b.2 - a.2 * b.1) (ring P)), ← e2]
  exact tot_congr _ fun a b => by simp only; grind
end Go.Proofs.Ytijpolfmiajenaa
