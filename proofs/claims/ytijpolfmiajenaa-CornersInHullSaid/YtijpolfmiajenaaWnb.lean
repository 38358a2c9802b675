/- The winding of a simple polygon is 0 or its sign, at every point. -/
import Derived.Test.YtijpolfmiajenaaWnd
import Derived.Test.YtijpolfmiajenaaTot
namespace Go.Proofs.Ytijpolfmiajenaa

/-- What each triangle gives not below 0, the polygon does not. -/
theorem Tri.nn {s : Int} {g : Pt → Pt → Int} (hg : ∀ a b, g b a = - g a b) (ht : ∀ a b c, 0 < s * turn a b c → 0 ≤ g a b + g b c + g c a) {P : List Pt} (h : Tri s P) : 0 ≤ tot g (ring P) := by
  induction h with
  | tri a b c hp =>
    have := ht a b c hp
    show 0 ≤ g a b + (g b c + (g c a + 0))
    omega
  | cut x A z B hne h1 h2 ih1 ih2 =>
    have k3 := ring_split g x A z B
    have k4 := hg x z
    omega
  | rot A B h ih => rwa [tot_perm g (ring_rot A B)] at ih
theorem cp_le (a b p : Pt) : -1 ≤ cp a b p ∧ cp a b p ≤ 1 := by
  unfold cp
  split <;> split <;> omega
theorem cp_cases (a b p : Pt) : (cp a b p = 1 ∧ a.2 ≤ p.2 ∧ p.2 < b.2 ∧ 0 < turn a b p) ∨ (cp a b p = -1 ∧ b.2 ≤ p.2 ∧ p.2 < a.2 ∧ turn a b p < 0) ∨ cp a b p = 0 := by
  rcases Int.lt_trichotomy a.2 b.2 with h | h | h
  · rw [cp_up h]
    split
    · rename_i k
      exact .inl ⟨rfl, k⟩
    · exact .inr (.inr rfl)
  · exact .inr (.inr (cp_flat h))
  · have e := cp_anti b a p
    rw [cp_up h] at e
    revert e
    split
    · rename_i k
      intro e
      rw [turn_neg b a p]
      exact .inr (.inl ⟨e, k.1, k.2.1, by omega⟩)
    · intro e
      exact .inr (.inr (by omega))
theorem cp_out {a b p : Pt} (h : (a.2 ≤ p.2 ∧ b.2 ≤ p.2) ∨ (p.2 < a.2 ∧ p.2 < b.2)) : cp a b p = 0 := by
  rcases cp_cases a b p with k | k | k <;> omega
theorem cp_one {a b p : Pt} (h1 : a.2 ≤ p.2) (h2 : p.2 < b.2) (h3 : 0 < turn a b p) : cp a b p = 1 := by
  rw [cp_up (by omega), if_pos ⟨h1, h2, h3⟩]
/-- A triangle that goes around to the left: where a side goes down to the right of a point, another one goes up. -/
theorem cp_key {a b c p : Pt} (h : 0 < turn a b c) (hd : cp a b p = -1) : cp b c p + cp c a p = 1 := by
  rcases cp_cases a b p with ⟨k, _⟩ | ⟨_, h1, h2, h3⟩ | k
  · omega
  · have hp : 0 < turn b a p := by rw [turn_neg a b p]; omega
    have hc : turn b a c < 0 := by rw [turn_neg a b c]; omega
    have hab : 0 < a.2 - b.2 := by omega
    rcases Int.lt_or_le p.2 c.2 with h4 | h4
    · have i1 := turn_bar b a b c p
      rw [turn_aba b a, Int.mul_zero, Int.sub_zero] at i1
      have k1 := Int.mul_pos (show 0 < c.2 - b.2 by omega) hp
      have k2 := Int.mul_nonpos_of_nonneg_of_nonpos (show 0 ≤ p.2 - b.2 by omega) (show turn b a c ≤ 0 by omega)
      have k3 : 0 < turn b c p := pos_of_mul hab (by omega)
      rw [cp_one h1 h4 k3, cp_out (a := c) (b := a) (.inr ⟨h4, h2⟩)]
      rfl
    · have i1 := turn_bar b a c a p
      rw [turn_abb b a, Int.mul_zero, Int.sub_zero] at i1
      have k1 := Int.mul_pos (show 0 < a.2 - c.2 by omega) hp
      have k2 := mul_neg' (show 0 < a.2 - p.2 by omega) hc
      have k3 : 0 < turn c a p := pos_of_mul hab (by omega)
      rw [cp_one h4 h2 k3, cp_out (a := b) (b := c) (.inl ⟨h1, h4⟩)]
      rfl
  · omega
theorem cp_tri {a b c : Pt} (h : 0 < turn a b c) (p : Pt) : 0 ≤ cp a b p + cp b c p + cp c a p := by
  have h1 := cp_le a b p
  have h2 := cp_le b c p
  have h3 := cp_le c a p
  by_cases k1 : cp a b p = -1
  · have := cp_key h k1; omega
  · by_cases k2 : cp b c p = -1
    · have := cp_key (by rw [turn_rot]; exact h) k2; omega
    · by_cases k3 : cp c a p = -1
      · have := cp_key (by rw [turn_rot, turn_rot]; exact h) k3; omega
      · omega
/-- The winding of the sides of a ring around a point. -/
def wnd (P : List Pt) (p : Pt) : Int := tot (fun a b => cp a b p) (ring P)
theorem wnd_pos {P : List Pt} (h : Tri 1 P) (p : Pt) : 0 ≤ wnd P p :=
  h.nn (g := fun a b => cp a b p) (fun a b => cp_anti a b p) fun a b c hp => cp_tri (by omega) p
theorem wnd_rev (P : List Pt) (p : Pt) : wnd P.reverse p = - wnd P p := tot_rev (g := fun a b => cp a b p) (fun a b => cp_anti a b p) P
end Go.Proofs.Ytijpolfmiajenaa
