/- The doubled area of points as a sum along a path: cut into two, with a point that comes twice, or one on a straight side. -/
import Derived.Test.YtfgplmgkejeoiaaDbl
namespace Go.Proofs.Ytfgplmgkejeoiaa
open Go.RowKit

def pth : List Pt → Int
  | [] => 0
  | [_] => 0
  | a :: b :: t => cross a b + pth (b :: t)
theorem pth_cut (p : Pt) (y : List Pt) : ∀ x : List Pt, pth (x ++ p :: y) = pth (x ++ [p]) + pth (p :: y)
  | [] => by simp [pth]
  | [a] => by simp [pth]
  | a :: b :: t => by
    have h := pth_cut p y (b :: t)
    simp only [List.cons_append, pth] at h ⊢
    omega
theorem dblTo_pth (a : Pt) (t : List Pt) : ∀ k, k ≤ (a :: t).length → dblTo (a :: t) k = pth (((a :: t) ++ [a]).take (k + 1))
  | 0, _ => by simp [dblTo, pth]
  | k + 1, hk => by
    have ih := dblTo_pth a t k (by omega)
    have hL : ((a :: t) ++ [a]).length = (a :: t).length + 1 := by simp
    have e1 : ((a :: t) ++ [a])[k]? = some (pat (a :: t) k) := by
      rw [List.getElem?_append_left (by omega)]
      exact pat_get (by omega)
    have e2 : ((a :: t) ++ [a])[k + 1]? = some (pat (a :: t) (nxt (a :: t) k)) := by
      rcases Nat.lt_or_ge (k + 1) (a :: t).length with h | h
      · rw [List.getElem?_append_left h, show nxt (a :: t) k = k + 1 from Nat.mod_eq_of_lt h]
        exact pat_get h
      · have h2 : k + 1 = (a :: t).length := by omega
        rw [List.getElem?_append_right (by omega), h2, Nat.sub_self, show nxt (a :: t) k = 0 from by unfold nxt; rw [h2, Nat.mod_self]]
        rfl
    have s1 : ((a :: t) ++ [a]).take (k + 1) = ((a :: t) ++ [a]).take k ++ [pat (a :: t) k] := by
      rw [List.take_add_one, e1]; rfl
    have s2 : ((a :: t) ++ [a]).take (k + 1 + 1) = ((a :: t) ++ [a]).take k ++ pat (a :: t) k :: [pat (a :: t) (nxt (a :: t) k)] := by
      rw [List.take_add_one, e2, s1]; simp
    rw [dblTo, ih, s1, s2, pth_cut (pat (a :: t) k) [pat (a :: t) (nxt (a :: t) k)]]
    simp only [pth]
    omega
theorem dbl_pth (a : Pt) (t : List Pt) : dbl (a :: t) = pth ((a :: t) ++ [a]) := by
  unfold dbl
  rw [dblTo_pth a t _ (Nat.le_refl _), List.take_of_length_le (by simp)]
def hdP (X : List Pt) (p : Pt) : Pt := match X with | [] => p | a :: _ => a
theorem dbl_mid (X : List Pt) (p : Pt) (R : List Pt) : dbl (X ++ p :: R) = pth (X ++ [p]) + pth (p :: (R ++ [hdP X p])) := by
  cases X with
  | nil =>
    rw [List.nil_append, dbl_pth]
    simp [pth, hdP]
  | cons a t =>
    have e : a :: (t ++ p :: R) ++ [a] = (a :: t) ++ p :: (R ++ [a]) := by simp
    rw [List.cons_append, dbl_pth, e, pth_cut p (R ++ [a]) (a :: t)]
    rfl
theorem cross_anti (a b : Pt) : cross a b + cross b a = 0 := by
  unfold cross
  rw [Int.mul_comm b.1, Int.mul_comm b.2]
  omega
theorem cross_self (a : Pt) : cross a a = 0 := by have := cross_anti a a; omega
theorem dbl_cut (X : List Pt) (p : Pt) (Y : List Pt) (q : Pt) (Z : List Pt) : dbl (p :: (Y ++ [q])) + dbl (X ++ p :: q :: Z) = dbl (X ++ p :: (Y ++ q :: Z)) := by
  rw [dbl_mid X p (q :: Z), dbl_mid X p (Y ++ q :: Z), dbl_pth]
  have h1 : p :: (Y ++ [q]) ++ [p] = (p :: Y) ++ q :: [p] := by simp
  have h2 : p :: (Y ++ q :: Z ++ [hdP X p]) = (p :: Y) ++ q :: (Z ++ [hdP X p]) := by simp
  have h3 := cross_anti p q
  rw [h1, h2, pth_cut q [p], pth_cut q (Z ++ [hdP X p])]
  simp only [List.cons_append, pth]
  omega
theorem dbl_twice (X : List Pt) (p : Pt) (R : List Pt) : dbl (X ++ p :: p :: R) = dbl (X ++ p :: R) := by
  rw [dbl_mid X p (p :: R), dbl_mid X p R, List.cons_append, pth, cross_self]
  omega
theorem dbl_flat (X : List Pt) (p c q : Pt) (R : List Pt) (h : cross p c + cross c q = cross p q) : dbl (X ++ p :: c :: q :: R) = dbl (X ++ p :: q :: R) := by
  rw [dbl_mid X p (c :: q :: R), dbl_mid X p (q :: R)]
  simp only [List.cons_append, pth]
  omega
theorem cross_half {p c q : Pt} (hx : 2 * c.1 = p.1 + q.1) (hy : 2 * c.2 = p.2 + q.2) : cross p c + cross c q = cross p q := by
  have h1 : 2 * cross p c = cross p q := by
    have a1 : 2 * (p.1 * c.2) = p.1 * (p.2 + q.2) := by rw [← hy, Int.mul_left_comm]
    have a2 : 2 * (p.2 * c.1) = p.2 * (p.1 + q.1) := by rw [← hx, Int.mul_left_comm]
    rw [Int.mul_add] at a1 a2
    have a3 := Int.mul_comm p.1 p.2
    unfold cross
    omega
  have h2 : 2 * cross c q = cross p q := by
    have a1 : 2 * (c.1 * q.2) = (p.1 + q.1) * q.2 := by rw [← hx, Int.mul_assoc]
    have a2 : 2 * (c.2 * q.1) = (p.2 + q.2) * q.1 := by rw [← hy, Int.mul_assoc]
    rw [Int.add_mul] at a1 a2
    have a3 := Int.mul_comm q.1 q.2
    unfold cross
    omega
  omega
/-- A list around its places a and b. -/
theorem split_at {l : List Pt} {a : Nat} (h : a < l.length) : l = l.take a ++ pat l a :: l.drop (a + 1) := by
  rw [← pat_eq h, List.getElem_cons_drop, List.take_append_drop]
theorem cut_lists {l : List Pt} {a b : Nat} (hab : a < b) (hb : b < l.length) :
    dbl ((l.drop a).take (b + 1 - a)) + dbl (l.take (a + 1) ++ l.drop b) = dbl l := by
  have e0 := split_at (l := l) (a := a) (by omega)
  have e1 := split_at (l := l.drop (a + 1)) (a := b - a - 1) (by simp; omega)
  have eq1 : pat (l.drop (a + 1)) (b - a - 1) = pat l b := by
    unfold pat
    simp only [List.getD_eq_getElem?_getD, List.getElem?_drop]
    rw [show a + 1 + (b - a - 1) = b by omega]
  have eq2 : (l.drop (a + 1)).drop (b - a - 1 + 1) = l.drop (b + 1) := by
    rw [List.drop_drop]; congr 1; omega
  rw [eq1, eq2] at e1
  have h := dbl_cut (l.take a) (pat l a) ((l.drop (a + 1)).take (b - a - 1)) (pat l b) (l.drop (b + 1))
  rw [← e1, ← e0] at h
  have g1 : (l.drop a).take (b + 1 - a) = pat l a :: ((l.drop (a + 1)).take (b - a - 1) ++ [pat l b]) := by
    rw [← List.getElem_cons_drop (by omega : a < l.length), pat_eq (by omega), show b + 1 - a = (b - a - 1 + 1) + 1 by omega, List.take_succ_cons, List.take_add_one]
    congr 2
    rw [List.getElem?_drop, show a + 1 + (b - a - 1) = b by omega, pat_get hb]
    rfl
  have g2 : l.take (a + 1) ++ l.drop b = l.take a ++ pat l a :: pat l b :: l.drop (b + 1) := by
    rw [List.take_add_one, pat_get (by omega), ← List.getElem_cons_drop hb, pat_eq hb]
    simp
  rw [g1, g2, h]
theorem twice_list {l : List Pt} {a : Nat} (h : a < l.length) : dbl (l.take (a + 1) ++ [pat l a] ++ l.drop (a + 1)) = dbl l := by
  have e0 := split_at h
  have g : l.take (a + 1) ++ [pat l a] ++ l.drop (a + 1) = l.take a ++ pat l a :: pat l a :: l.drop (a + 1) := by
    rw [List.take_add_one, pat_get h]; simp
  rw [g, dbl_twice, ← e0]
theorem flat_list {l : List Pt} {a : Nat} {c : Pt} (h : a + 1 < l.length) (hx : 2 * c.1 = (pat l a).1 + (pat l (a + 1)).1) (hy : 2 * c.2 = (pat l a).2 + (pat l (a + 1)).2) : dbl (l.take (a + 1) ++ [c] ++ l.drop (a + 1)) = dbl l := by
  have e0 := split_at (l := l) (a := a) (by omega)
  have e1 : l.drop (a + 1) = pat l (a + 1) :: l.drop (a + 2) := by rw [← List.getElem_cons_drop h, pat_eq h]
  have g : l.take (a + 1) ++ [c] ++ l.drop (a + 1) = l.take a ++ pat l a :: c :: pat l (a + 1) :: l.drop (a + 2) := by
    rw [List.take_add_one, pat_get (by omega), e1]; simp
  rw [g, dbl_flat _ _ _ _ _ (cross_half hx hy), ← e1, ← e0]
end Go.Proofs.Ytfgplmgkejeoiaa
