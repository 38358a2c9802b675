/- A simple polygon with more than three corners has an ear at a corner that a side does not have: a corner whose triangle has no other corner. Cut off, it leaves a simple polygon. -/
import Derived.Test.YtijpolfmiajenaaWcr
namespace Go.Proofs.Ytijpolfmiajenaa

/-- Turned and stretched. -/
def gm (g v : Pt) : Pt := (g.1 * v.1 + g.2 * v.2, g.1 * v.2 - g.2 * v.1)
def nrm (g : Pt) : Int := g.1 * g.1 + g.2 * g.2
theorem sq_nn (a : Int) : 0 ≤ a * a := by
  rcases Int.le_total 0 a with h | h
  · exact Int.mul_nonneg h h
  · exact Int.mul_nonneg_of_nonpos_of_nonpos h h
theorem sq_pos {a : Int} (h : a ≠ 0) : 0 < a * a := by
  rcases Int.lt_or_gt_of_ne h with h | h
  · exact Int.mul_pos_of_neg_of_neg h h
  · exact Int.mul_pos h h
theorem nrm_pos {g : Pt} (h : g.1 ≠ 0 ∨ g.2 ≠ 0) : 0 < nrm g := by
  have h1 := sq_nn g.1
  have h2 := sq_nn g.2
  unfold nrm
  rcases h with h | h
  · have := sq_pos h; omega
  · have := sq_pos h; omega
theorem turn_gm (g a b c : Pt) : turn (gm g a) (gm g b) (gm g c) = nrm g * turn a b c := by
  simp only [turn, gm, nrm]
  grind
/-- What a product of the ways to both ends says. -/
def dotF (a b p : Pt) : Int := (p.1 - a.1) * (p.1 - b.1) + (p.2 - a.2) * (p.2 - b.2)
theorem dot_gm (g a b p : Pt) : dotF (gm g a) (gm g b) (gm g p) = nrm g * dotF a b p := by
  simp only [dotF, gm, nrm]
  grind
theorem side_not {x1 x2 y1 y2 : Int} (hc : x1 * y2 = y1 * x2) (hd : x1 * x2 + y1 * y2 ≤ 0) : ¬ (0 < x1 ∧ 0 < x2) ∧ ¬ (x1 < 0 ∧ x2 < 0) := by
  have key : ∀ x1 x2 y1 y2 : Int, x1 * y2 = y1 * x2 → x1 * x2 + y1 * y2 ≤ 0 → 0 < x1 → 0 < x2 → False := by
    intro x1 x2 y1 y2 hc hd h1 h2
    have h3 := Int.mul_pos h1 h2
    have h4 : y1 * y2 < 0 := by omega
    rcases Int.lt_trichotomy y1 0 with k | k | k
    · have k2 : 0 < y2 := Int.not_le.1 fun q => by
        have := Int.mul_nonneg_of_nonpos_of_nonpos (Int.le_of_lt k) q
        omega
      have := Int.mul_pos h1 k2
      have := Int.mul_neg_of_neg_of_pos k h2
      omega
    · rw [k, Int.zero_mul] at h4
      omega
    · have k2 : y2 < 0 := Int.not_le.1 fun q => by
        have := Int.mul_nonneg (Int.le_of_lt k) q
        omega
      have := mul_neg' h1 k2
      have := Int.mul_pos k h2
      omega
  refine ⟨fun h => key x1 x2 y1 y2 hc hd h.1 h.2, fun h => key (-x1) (-x2) (-y1) (-y2) (by rw [Int.neg_mul_neg, Int.neg_mul_neg]; exact hc) (by rw [Int.neg_mul_neg, Int.neg_mul_neg]; exact hd) (by omega) (by omega)⟩
theorem has_dot (a b p : Pt) : has a b p = true ↔ turn a b p = 0 ∧ dotF a b p ≤ 0 := by
  constructor
  · intro h
    refine ⟨has_turn h, ?_⟩
    have hb := has_box h
    have k : ∀ x a b : Int, min a b ≤ x → x ≤ max a b → (x - a) * (x - b) ≤ 0 := by
      intro x a b h1 h2
      rcases Int.le_total a b with q | q
      · exact Int.mul_nonpos_of_nonneg_of_nonpos (by omega) (by omega)
      · exact Int.mul_nonpos_of_nonpos_of_nonneg (by omega) (by omega)
    have k1 := k p.1 a.1 b.1 (by omega) (by omega)
    have k2 := k p.2 a.2 b.2 (by omega) (by omega)
    unfold dotF
    omega
  · rintro ⟨h, hd⟩
    have hc : (p.1 - a.1) * (p.2 - b.2) = (p.2 - a.2) * (p.1 - b.1) := by
      simp only [turn] at h
      grind
    unfold dotF at hd
    have k1 := side_not hc hd
    have k2 := side_not (x1 := p.2 - a.2) (x2 := p.2 - b.2) (y1 := p.1 - a.1) (y2 := p.1 - b.1) hc.symm (by omega)
    simp only [has, within, h, Bool.and_eq_true, decide_eq_true_eq, beq_self_eq_true, true_and]
    omega
theorem has_gm {g : Pt} (hg : 0 < nrm g) (a b p : Pt) : has (gm g a) (gm g b) (gm g p) = has a b p := by
  rw [Bool.eq_iff_iff, has_dot, has_dot, turn_gm, dot_gm]
  constructor
  · rintro ⟨h1, h2⟩
    refine ⟨zero_of_mul hg h1, Int.not_lt.1 fun k => ?_⟩
    have := Int.mul_pos hg k
    omega
  · rintro ⟨h1, h2⟩
    exact ⟨by rw [h1, Int.mul_zero], Int.mul_nonpos_of_nonneg_of_nonpos (Int.le_of_lt hg) h2⟩
theorem crs2_gm {g : Pt} (hg : 0 < nrm g) (a b c d : Pt) : crs2 (gm g a) (gm g b) (gm g c) (gm g d) ↔ crs2 a b c d := by
  unfold crs2
  rw [turn_gm, turn_gm, turn_gm, turn_gm]
  have k : ∀ x y : Int, nrm g * x * (nrm g * y) < 0 ↔ x * y < 0 := fun x y => by
    have e : nrm g * x * (nrm g * y) = (nrm g * nrm g) * (x * y) := by grind
    rw [e]
    have h2 := Int.mul_pos hg hg
    exact ⟨fun h => neg_of_mul h2 h, fun h => mul_neg' h2 h⟩
  rw [k, k]
theorem gm_inj {g : Pt} (hg : 0 < nrm g) {a b : Pt} (h : gm g a = gm g b) : a = b := by
  have h1 : g.1 * a.1 + g.2 * a.2 = g.1 * b.1 + g.2 * b.2 := congrArg Prod.fst h
  have h2 : g.1 * a.2 - g.2 * a.1 = g.1 * b.2 - g.2 * b.1 := congrArg Prod.snd h
  have e1 : nrm g * (a.1 - b.1) = 0 := by unfold nrm; grind
  have e2 : nrm g * (a.2 - b.2) = 0 := by unfold nrm; grind
  have := zero_of_mul hg e1
  have := zero_of_mul hg e2
  exact Prod.ext (by omega) (by omega)
theorem chain_gm (g : Pt) : ∀ (x : Pt) (t : List Pt), (chain x t).map (fun e => (gm g e.1, gm g e.2)) = chain (gm g x) (t.map (gm g))
  | _, [] => rfl
  | x, y :: t => by rw [chain, List.map_cons, chain_gm g y t]; rfl
theorem ring_gm (g : Pt) (P : List Pt) : ring (P.map (gm g)) = (ring P).map fun e => (gm g e.1, gm g e.2) := by
  cases P with
  | nil => rfl
  | cons x t =>
    rw [List.map_cons, ring_cons, ring_cons, chain_gm]
    simp
theorem simp_gm {g : Pt} (hg : 0 < nrm g) {P : List Pt} (h : Simp P) : Simp (P.map (gm g)) := by
  refine ⟨by rw [List.length_map]; exact h.len, List.Pairwise.map _ (fun a b hab e => hab (gm_inj hg e)) h.nodup, ?_⟩
  rw [ring_gm]
  refine ⟨fun e he v hv hh => ?_, fun e he f hf hc => ?_, fun e he => ?_⟩
  · obtain ⟨e0, he0, rfl⟩ := List.mem_map.1 he
    obtain ⟨u, hu, rfl⟩ := List.mem_map.1 hv
    simp only at hh ⊢
    rw [has_gm hg] at hh
    rcases h.good.vert e0 he0 u hu hh with rfl | rfl
    · exact .inl rfl
    · exact .inr rfl
  · obtain ⟨e0, he0, rfl⟩ := List.mem_map.1 he
    obtain ⟨f0, hf0, rfl⟩ := List.mem_map.1 hf
    exact h.good.nocross e0 he0 f0 hf0 ((crs2_gm hg _ _ _ _).1 hc)
  · obtain ⟨e0, he0, rfl⟩ := List.mem_map.1 he
    exact ⟨List.mem_map_of_mem (h.good.ends e0 he0).1, List.mem_map_of_mem (h.good.ends e0 he0).2⟩
theorem tri_gm {g : Pt} (hg : 0 < nrm g) {s : Int} {P : List Pt} (h : Tri s P) : Tri s (P.map (gm g)) := by
  induction h with
  | tri a b c hp =>
    refine .tri _ _ _ ?_
    rw [turn_gm, show s * (nrm g * turn a b c) = nrm g * (s * turn a b c) by grind]
    exact Int.mul_pos hg hp
  | cut x A z B hne h1 h2 ih1 ih2 =>
    rw [List.map_cons, List.map_append, List.map_cons]
    exact .cut _ _ _ _ (fun e => hne (gm_inj hg e)) (by simpa using ih1) (by simpa using ih2)
  | rot A B h ih =>
    rw [List.map_append] at ih ⊢
    exact .rot _ _ ih
/-- Both windings, after a turn by g. -/
def wkg (g : Pt) (P : List Pt) (v : Pt) : Int := wkk (P.map (gm g)) (gm g v)
theorem wkg_nn {g : Pt} (hg : 0 < nrm g) {P : List Pt} (h : Tri 1 P) (v : Pt) : 0 ≤ wkg g P v := wkk_nn (tri_gm hg h) _
theorem wkg_le {g : Pt} (hg : 0 < nrm g) {P : List Pt} (hS : Simp P) (h : Tri 1 P) (v : Pt) : wkg g P v ≤ 2 := by
  have h1 := wnd_of (simp_gm hg hS) (.inl rfl) (tri_gm hg h) (gm g v)
  have h2 := wndm_of (simp_gm hg hS) (.inl rfl) (tri_gm hg h) (gm g v)
  unfold wkg wkk
  omega
theorem wkg_cut (g x : Pt) (A : List Pt) (z : Pt) (B : List Pt) (v : Pt) : wkg g (x :: (A ++ z :: B)) v = wkg g (x :: (A ++ [z])) v + wkg g (x :: z :: B) v := by
  unfold wkg
  simp only [List.map_cons, List.map_append, List.map_nil]
  exact wkk_cut _ _ _ _ _
theorem wkg_perm (g : Pt) {P Q : List Pt} (h : (ring P).Perm (ring Q)) (v : Pt) : wkg g P v = wkg g Q v := by
  refine wkk_perm ?_ _
  rw [ring_gm, ring_gm]
  exact h.map _
/-- A corner of a triangle lies between the others after some turn. -/
theorem tri_turn {a b c : Pt} (h : 0 < turn a b c) : ∃ g, 0 < nrm g ∧ 1 ≤ wkg g [a, b, c] b := by
  have e1 : (c.1 - b.1) * (a.2 - b.2) - (c.2 - b.2) * (a.1 - b.1) = turn a b c := by simp only [turn]; grind
  refine ⟨(a.1 + c.1 - 2 * b.1, a.2 + c.2 - 2 * b.2), ?_, ?_⟩
  · refine nrm_pos (Classical.byContradiction fun k => ?_)
    have k1 : a.1 - b.1 = -(c.1 - b.1) := by simp only at k; omega
    have k2 : a.2 - b.2 = -(c.2 - b.2) := by simp only at k; omega
    have : turn a b c = 0 := by rw [← e1, k1, k2]; grind
    omega
  · have hg : 0 < nrm (a.1 + c.1 - 2 * b.1, a.2 + c.2 - 2 * b.2) := by
      refine nrm_pos (Classical.byContradiction fun k => ?_)
      have k1 : a.1 - b.1 = -(c.1 - b.1) := by simp only at k; omega
      have k2 : a.2 - b.2 = -(c.2 - b.2) := by simp only at k; omega
      have : turn a b c = 0 := by rw [← e1, k1, k2]; grind
      omega
    unfold wkg
    simp only [List.map_cons, List.map_nil]
    refine tri_mid (by rw [turn_gm]; exact Int.mul_pos hg h) (.inr ⟨?_, ?_⟩)
    · rw [lwB_iff]
      left
      have : (gm (a.1 + c.1 - 2 * b.1, a.2 + c.2 - 2 * b.2) b).2 - (gm (a.1 + c.1 - 2 * b.1, a.2 + c.2 - 2 * b.2) c).2 = turn a b c := by simp only [gm, turn]; grind
      omega
    · rw [lwB_iff]
      left
      have : (gm (a.1 + c.1 - 2 * b.1, a.2 + c.2 - 2 * b.2) a).2 - (gm (a.1 + c.1 - 2 * b.1, a.2 + c.2 - 2 * b.2) b).2 = turn a b c := by simp only [gm, turn]; grind
      omega
/-- At each corner of a polygon there is something of it, after some turn. -/
theorem corner_turn {P : List Pt} (h : Tri 1 P) : ∀ v ∈ P, ∃ g, 0 < nrm g ∧ 1 ≤ wkg g P v := by
  generalize hs : (1 : Int) = s at h
  induction h with
  | tri a b c hp =>
    subst hs
    have hp : 0 < turn a b c := by omega
    intro v hv
    simp only [List.mem_cons, List.not_mem_nil, or_false] at hv
    rcases hv with rfl | rfl | rfl
    · obtain ⟨g, h1, h2⟩ := tri_turn (a := c) (b := v) (c := b) (by rw [← turn_rot c v b]; exact hp)
      have e := wkg_perm g (P := [v, b, c]) (Q := [c, v, b]) (ring_rot [v, b] [c]) v
      exact ⟨g, h1, by rw [e]; exact h2⟩
    · exact tri_turn hp
    · obtain ⟨g, h1, h2⟩ := tri_turn (a := b) (b := v) (c := a) (by rw [turn_rot]; exact hp)
      have e := wkg_perm g (P := [a, b, v]) (Q := [b, v, a]) (ring_rot [a] [b, v]) v
      exact ⟨g, h1, by rw [e]; exact h2⟩
  | cut x A z B hne h1 h2 ih1 ih2 =>
    subst hs
    intro v hv
    have hv2 : v ∈ x :: (A ++ [z]) ∨ v ∈ x :: z :: B := by
      simp only [List.mem_cons, List.mem_append, List.not_mem_nil, or_false] at hv ⊢
      rcases hv with h | h | h | h
      · exact .inl (.inl h)
      · exact .inl (.inr (.inl h))
      · exact .inl (.inr (.inr h))
      · exact .inr (.inr (.inr h))
    rcases hv2 with k | k
    · obtain ⟨g, g1, g2⟩ := ih1 v k
      refine ⟨g, g1, ?_⟩
      have := wkg_nn g1 h2 v
      rw [wkg_cut]
      omega
    · obtain ⟨g, g1, g2⟩ := ih2 v k
      refine ⟨g, g1, ?_⟩
      have := wkg_nn g1 h1 v
      rw [wkg_cut]
      omega
  | rot A B h ih =>
    intro v hv
    obtain ⟨g, g1, g2⟩ := ih v (by simp only [List.mem_append] at hv ⊢; exact hv.symm)
    exact ⟨g, g1, by rw [wkg_perm g (ring_rot B A)]; exact g2⟩
/-- Strictly within a triangle both windings are 1. -/
theorem wnd_in {a b c v : Pt} (h1 : 0 < turn a b v) (h2 : 0 < turn b c v) (h3 : 0 < turn c a v) : wnd [a, b, c] v = 1 := by
  have e : wnd [a, b, c] v = cp a b v + (cp b c v + (cp c a v + 0)) := rfl
  rw [e]
  have up : ∀ a b : Pt, 0 < turn a b v → cp a b v = if a.2 ≤ v.2 ∧ v.2 < b.2 then 1 else 0 := fun a b h => by
    rcases cp_cases a b v with ⟨k, k1, k2, _⟩ | ⟨_, _, _, k⟩ | k
    · rw [k, if_pos ⟨k1, k2⟩]
    · omega
    · rw [k]
      split
      · rename_i q
        have := cp_one q.1 q.2 h
        omega
      · rfl
  rw [up a b h1, up b c h2, up c a h3]
  have s := bary_sum a b c v
  have l := bary_lin 0 1 a b c v
  simp only [lin, Int.zero_mul, Int.one_mul, Int.zero_add] at l
  have l2 : turn b c v * (a.2 - v.2) + turn c a v * (b.2 - v.2) + turn a b v * (c.2 - v.2) = 0 := by
    rw [← s] at l
    grind
  by_cases ka : a.2 ≤ v.2 <;> by_cases kb : b.2 ≤ v.2 <;> by_cases kc : c.2 ≤ v.2
  · exfalso
    have m1 := Int.mul_nonpos_of_nonneg_of_nonpos (Int.le_of_lt h2) (show a.2 - v.2 ≤ 0 by omega)
    have m2 := Int.mul_nonpos_of_nonneg_of_nonpos (Int.le_of_lt h3) (show b.2 - v.2 ≤ 0 by omega)
    have m3 := Int.mul_nonpos_of_nonneg_of_nonpos (Int.le_of_lt h1) (show c.2 - v.2 ≤ 0 by omega)
    have z1 := zero_of_mul h2 (show turn b c v * (a.2 - v.2) = 0 by omega)
    have z2 := zero_of_mul h3 (show turn c a v * (b.2 - v.2) = 0 by omega)
    have : turn a b v = 0 := by
      simp only [turn]
      rw [show b.2 - a.2 = 0 by omega, show v.2 - a.2 = 0 by omega]
      simp
    omega
  · rw [if_neg (by omega), if_pos (by omega), if_neg (by omega)]; rfl
  · rw [if_pos (by omega), if_neg (by omega), if_neg (by omega)]; rfl
  · rw [if_pos (by omega), if_neg (by omega), if_neg (by omega)]; rfl
  · rw [if_neg (by omega), if_neg (by omega), if_pos (by omega)]; rfl
  · rw [if_neg (by omega), if_pos (by omega), if_neg (by omega)]; rfl
  · rw [if_neg (by omega), if_neg (by omega), if_pos (by omega)]; rfl
  · exfalso
    have m1 := Int.mul_pos h2 (show 0 < a.2 - v.2 by omega)
    have m2 := Int.mul_pos h3 (show 0 < b.2 - v.2 by omega)
    have m3 := Int.mul_pos h1 (show 0 < c.2 - v.2 by omega)
    omega
theorem wkg_in {g : Pt} (hg : 0 < nrm g) {a b c v : Pt} (h1 : 0 < turn a b v) (h2 : 0 < turn b c v) (h3 : 0 < turn c a v) : wkg g [a, b, c] v = 2 := by
  have k1 : 0 < turn (gm g a) (gm g b) (gm g v) := by rw [turn_gm]; exact Int.mul_pos hg h1
  have k2 : 0 < turn (gm g b) (gm g c) (gm g v) := by rw [turn_gm]; exact Int.mul_pos hg h2
  have k3 : 0 < turn (gm g c) (gm g a) (gm g v) := by rw [turn_gm]; exact Int.mul_pos hg h3
  have w1 := wnd_in k1 k2 k3
  have w2 := wnd_in (a := neg (gm g a)) (b := neg (gm g b)) (c := neg (gm g c)) (v := neg (gm g v)) (by rw [turn_negs]; exact k1) (by rw [turn_negs]; exact k2) (by rw [turn_negs]; exact k3)
  unfold wkg wkk wndm
  simp only [List.map_cons, List.map_nil]
  rw [w1, w2]
  rfl
/-- On a side of a triangle, and not at its ends. -/
theorem wkg_on {g : Pt} (hg : 0 < nrm g) {a b c v : Pt} (h : 0 < turn a b c) (hh : has c a v = true) (h1 : has a b v = false) (h2 : has b c v = false) : 1 ≤ wkg g [a, b, c] v := by
  have hT : Tri 1 [a, b, c] := .tri a b c (by omega)
  have k1 := wnd_pos (tri_gm hg hT) (gm g v)
  have k2 := wnd_pos (tri_gm hg hT).negs (neg (gm g v))
  have hd := wnd_diff ([a, b, c].map (gm g)) (gm g v)
  have e : tot (fun x y => dl x y (gm g v)) (ring ([a, b, c].map (gm g))) = dl (gm g a) (gm g b) (gm g v) + (dl (gm g b) (gm g c) (gm g v) + (dl (gm g c) (gm g a) (gm g v) + 0)) := rfl
  rw [e] at hd
  have d1 : dl (gm g a) (gm g b) (gm g v) = 0 := by unfold dl; rw [has_gm hg, h1]; rfl
  have d2 : dl (gm g b) (gm g c) (gm g v) = 0 := by unfold dl; rw [has_gm hg, h2]; rfl
  have na : v ≠ a := fun q => by rw [q, has_left] at h1; cases h1
  have nc : v ≠ c := fun q => by rw [q, has_right] at h2; cases h2
  have nac : a ≠ c := fun q => by rw [q, turn_aba] at h; omega
  have d3 : dl (gm g c) (gm g a) (gm g v) = 1 ∨ dl (gm g c) (gm g a) (gm g v) = -1 := by
    unfold dl
    rw [has_gm hg, if_pos hh, if_neg (fun q => nc (gm_inj hg q)), if_neg (fun q => na (gm_inj hg q))]
    rcases lw_tri (gm g c) (gm g a) (fun q => nac (gm_inj hg q).symm) with q | q
    · rw [if_pos q]; exact .inr rfl
    · split
      · exact .inr rfl
      · exact .inl rfl
  unfold wkg wkk wndm at *
  omega
end Go.Proofs.Ytijpolfmiajenaa
namespace Go.Proofs.Ytijpolfmiajenaa

theorem res_same {P : List Pt} (h : Simp P) {s t : Int} (h1 : Res P s) (h2 : Res P t) : s = t := by
  obtain ⟨x, y, z, ⟨hx, ex⟩, -⟩ := three_ext h
  obtain ⟨w, M, u, A, B, rfl, hBA⟩ := rotate_to h.len hx
  have r1 := Res.rot h1
  have r2 := Res.rot h2
  have hQ := h.rot
  rw [hBA] at r1 r2 hQ
  obtain ⟨q1, q2, -⟩ := first_facts hQ
  have ex2 : Ext (x :: w :: (M ++ [u])) x := ex.mono fun v hv => by
    rw [← hBA] at hv
    simp only [List.mem_append] at hv ⊢
    exact hv.symm
  have k1 := r1.2.2 u x w q1 q2 ex2
  have k2 := r2.2.2 u x w q1 q2 ex2
  rw [sign_of r1.1] at k1
  rw [sign_of r2.1] at k2
  omega
/-- A corner whose triangle goes around to the left, and has no other corner. -/
def Ear (P : List Pt) (y : Pt) : Prop := ∃ u w, (u, y) ∈ ring P ∧ (y, w) ∈ ring P ∧ 0 < turn u y w ∧ ∀ z ∈ P, 0 ≤ turn u y z → 0 ≤ turn y w z → 0 ≤ turn w u z → z = u ∨ z = y ∨ z = w
theorem Ear.perm {P Q : List Pt} {y : Pt} (hp : ∀ v, v ∈ Q → v ∈ P) (hr : (ring P).Perm (ring Q)) (h : Ear P y) : Ear Q y := by
  obtain ⟨u, w, h1, h2, h3, h4⟩ := h
  exact ⟨u, w, hr.mem_iff.1 h1, hr.mem_iff.1 h2, h3, fun z hz => h4 z (hp z hz)⟩
theorem tot_snd' (P : List Pt) (v : Pt) (h : v ∈ P) : ∃ f ∈ ring P, f.2 = v := by
  have h1 : v ∈ ((ring P.reverse).map Prod.fst) := by rw [ring_fst]; exact List.mem_reverse.2 h
  obtain ⟨e, he, rfl⟩ := List.mem_map.1 h1
  have := (ring_rev P).mem_iff.1 he
  obtain ⟨f, hf, rfl⟩ := List.mem_map.1 this
  exact ⟨f, hf, rfl⟩
/-- What is left when an ear is cut off. -/
theorem ear_drop {x w u : Pt} {M : List Pt} (hM : M ≠ []) (hQ : Simp (x :: w :: (M ++ [u]))) (hR : Res (x :: w :: (M ++ [u])) 1) (hd : 0 < turn u x w)
    (hem : ∀ z ∈ x :: w :: (M ++ [u]), 0 ≤ turn u x z → 0 ≤ turn x w z → 0 ≤ turn w u z → z = u ∨ z = x ∨ z = w) : Simp (w :: (M ++ [u])) ∧ Res (w :: (M ++ [u])) 1 := by
  obtain ⟨q1, q2, q3, q4, q5, q6⟩ := first_facts hQ
  have pos : ∀ a : Int, 0 ≤ a * turn u x w → 0 ≤ a := fun a h => Int.not_lt.1 fun k => by
    have := Int.mul_neg_of_neg_of_pos k hd
    omega
  have hem2 : ∀ z ∈ x :: w :: (M ++ [u]), 0 ≤ turn u x z * turn u x w → 0 ≤ turn x w z * turn u x w → 0 ≤ turn w u z * turn u x w → z = u ∨ z = x ∨ z = w := fun z hz h1 h2 h3 => hem z hz (pos _ h1) (pos _ h2) (pos _ h3)
  have S : SegGood (x :: w :: (M ++ [u])) (ring (x :: w :: (M ++ [u]))) u w := by
    rcases dich' hQ.good (.inr q1) (.inl q2) q6 (by omega) with ⟨z, hz, h1, h2, h3, h4, h5, h6, h7⟩ | ⟨-, h2⟩
    · rcases hem2 z hz (Int.le_of_lt h4) (Int.le_of_lt h5) h6 with k | k | k
      · exact absurd k h1
      · exact absurd k h2
      · exact absurd k h3
    · exact h2
  obtain ⟨SR, k⟩ := ear_parts rfl hM hQ (by omega) hem2 S
  obtain ⟨t, ht⟩ := simp_tri _ _ rfl SR
  obtain ⟨t0, -, c⟩ := k t ht
  have : t = 1 := by
    obtain ⟨a, b, -, ⟨ha, ea⟩, ⟨hb, eb⟩, -, hab, -⟩ := three_ext hQ
    have key : ∀ a, a ∈ x :: w :: (M ++ [u]) → Ext (x :: w :: (M ++ [u])) a → a ≠ x → t = 1 := fun a ha ea hax => by
      have m1 : a ∈ (ring (x :: w :: (M ++ [u]))).map Prod.fst := by rw [ring_fst]; exact ha
      obtain ⟨e, he, rfl⟩ := List.mem_map.1 m1
      have m2 := tot_snd' (x :: w :: (M ++ [u])) e.1 ha
      obtain ⟨f, hf, hfe⟩ := m2
      have k1 := c f.1 e.1 e.2 (by rw [← hfe]; exact hf) he ea hax
      have k2 := hR.2.2 f.1 e.1 e.2 (by rw [← hfe]; exact hf) he ea
      rw [sign_of t0] at k1
      omega
    by_cases hax : a = x
    · exact key b hb eb (fun q => hab (hax.trans q.symm))
    · exact key a ha ea hax
  subst this
  exact ⟨SR, ht⟩
/-- Within the closed triangle, on the line of a side: on the side. -/
theorem on_edge {u y w v : Pt} (h : 0 < turn u y w) (h0 : turn u y v = 0) (h1 : 0 ≤ turn y w v) (h2 : 0 ≤ turn w u v) : has u y v = true := by
  have e : ∀ p, lin (-(u.2 - w.2)) (u.1 - w.1) p = turn w u p + lin (-(u.2 - w.2)) (u.1 - w.1) w := by
    intro p; simp only [lin, turn]; grind
  have s := bary_sum u y w v
  have t0 := turn_abb w u
  have t1 : turn w u y = turn u y w := (turn_rot w u y).symm
  refine between_of (-(u.2 - w.2)) (u.1 - w.1) h0 ?_ ?_ ?_
  · rw [e u, e v]; omega
  · rw [e v, e y]; omega
  · rw [e u, e y]; omega
/-- No corner of what lies on the other side of a diagonal is in an ear's triangle. -/
theorem ear_out {Q O I : List Pt} (hQ : Simp Q) (rQ : Tri 1 Q) (tO : Tri 1 O) (hI : Simp I) (rI : Res I 1) (hw : ∀ g v, wkg g Q v = wkg g O v + wkg g I v)
    {y u w v : Pt} (i1 : (u, y) ∈ ring I) (i2 : (y, w) ∈ ring I) (e1 : (u, y) ∈ ring Q) (e2 : (y, w) ∈ ring Q) (hp : 0 < turn u y w)
    (hem : ∀ z ∈ I, 0 ≤ turn u y z → 0 ≤ turn y w z → 0 ≤ turn w u z → z = u ∨ z = y ∨ z = w) (h3 : I.length = 3 → ∀ v ∈ Q, has w u v = true → v = w ∨ v = u)
    (vO : v ∈ O) (vQ : v ∈ Q) (vI : v ∉ I) (c1 : 0 ≤ turn u y v) (c2 : 0 ≤ turn y w v) (c3 : 0 ≤ turn w u v) : False := by
  have yI : y ∈ I := (ring_mem i1).2
  have uI : u ∈ I := (ring_mem i1).1
  have wI : w ∈ I := (ring_mem i2).2
  have r1 : turn y w u = turn u y w := turn_rot u y w
  have r2 : turn w u y = turn u y w := (turn_rot w u y).symm
  have n1 : has u y v = false := by
    cases q : has u y v with
    | false => rfl
    | true => exact ((hQ.good.vert _ e1 v vQ q).elim (fun k => vI (k ▸ uI)) (fun k => vI (k ▸ yI))).elim
  have n2 : has y w v = false := by
    cases q : has y w v with
    | false => rfl
    | true => exact ((hQ.good.vert _ e2 v vQ q).elim (fun k => vI (k ▸ yI)) (fun k => vI (k ▸ wI))).elim
  have p1 : 0 < turn u y v := Int.not_le.1 fun k => by
    rw [on_edge hp (by omega) c2 c3] at n1
    cases n1
  have p2 : 0 < turn y w v := Int.not_le.1 fun k => by
    rw [on_edge (u := y) (y := w) (w := u) (by omega) (by omega) c3 c1] at n2
    cases n2
  obtain ⟨g, hg, k1⟩ := corner_turn tO v vO
  have k2 := wkg_le hg hQ rQ v
  have k3 := hw g v
  have k4 : wkg g I v ≤ 1 := by omega
  obtain ⟨w', M, u', A, B, rfl, hBA⟩ := rotate_to hI.len yI
  have hI2 := hI.rot
  have rI2 := rI.rot
  have g1 := (ring_rot A B).mem_iff.1 i1
  have g2 := (ring_rot A B).mem_iff.1 i2
  have eI := wkg_perm g (ring_rot A B) v
  have hm : ∀ z, z ∈ B ++ A → z ∈ A ++ B := fun z hz => by simp only [List.mem_append] at hz ⊢; exact hz.symm
  have hlen : (A ++ B).length = (B ++ A).length := by simp [Nat.add_comm]
  rw [hBA] at hI2 rI2 g1 g2 eI hm hlen
  obtain ⟨f1, f2⟩ := first_sides (q := u) hI2.nodup
  obtain ⟨f3, f4⟩ := first_sides (q := w) hI2.nodup
  obtain rfl := f1 g1
  obtain rfl := f4 g2
  by_cases hM : M = []
  · subst hM
    have k := h3 (by rw [hlen]; rfl) v vQ
    have p3 : 0 < turn w u v := Int.not_le.1 fun q => by
      have := k (on_edge (u := w) (y := u) (w := y) (by omega) (by omega) c1 c2)
      exact this.elim (fun q => vI (q ▸ wI)) (fun q => vI (q ▸ uI))
    have k5 := wkg_in hg p1 p2 p3
    have k6 := wkg_perm g (ring_rot [u] [y, w]) v
    rw [eI] at k4
    simp only [List.cons_append, List.nil_append] at k6 k4
    omega
  · obtain ⟨SR, rR⟩ := ear_drop hM hI2 rI2 hp (fun z hz => hem z (hm z hz))
    have k5 := wkg_perm g (ring_rot [u] (y :: w :: M)) v
    have k6 := wkg_cut g u [y] w M v
    have k7 := wkg_perm g (ring_rot [u] (w :: M)) v
    simp only [List.cons_append, List.nil_append] at k5 k6 k7
    have k8 := wkg_nn hg rR.2.1 v
    rcases Int.lt_or_le 0 (turn w u v) with p3 | p3
    · have := wkg_in hg p1 p2 p3
      omega
    · have hh := on_edge (u := w) (y := u) (w := y) (v := v) (by omega) (by omega) c1 c2
      have := wkg_on hg hp hh n1 n2
      have vR : v ∉ w :: (M ++ [u]) := fun q => vI (hm v (List.mem_cons_of_mem _ q))
      have erR : (u, w) ∈ ring (w :: (M ++ [u])) := by
        have : ring (w :: (M ++ [u])) = chain w (M ++ [u]) ++ [(u, w)] := by
          show chain w (M ++ [u] ++ [w]) = _
          rw [show M ++ [u] ++ [w] = M ++ u :: [w] by simp, chain_cut]
          rfl
        rw [this]
        simp
      have k9 := wnd_on (simp_gm hg SR) (.inl rfl) (tri_gm hg rR.2.1) (p := gm g v) (fun q => by
        obtain ⟨v2, hv2, hv3⟩ := List.mem_map.1 q
        exact vR (gm_inj hg hv3 ▸ hv2)) (e := (gm g u, gm g w)) (by rw [ring_gm]; exact List.mem_map.2 ⟨_, erR, rfl⟩) (by simp only; rw [has_gm hg, has_comm]; exact hh)
      have k10 : wkg g (w :: (M ++ [u])) v = 1 := by unfold wkg wkk; omega
      omega
theorem ends_ne' {P : List Pt} (h : Simp P) {a b : Pt} (he : (a, b) ∈ ring P) : a ≠ b := by
  obtain ⟨w, M, u, A, B, rfl, hBA⟩ := rotate_to h.len (ring_mem he).1
  have hQ := h.rot
  have g1 := (ring_rot A B).mem_iff.1 he
  rw [hBA] at hQ g1
  obtain ⟨q1, q2, q3, q4, q5, q6⟩ := first_facts hQ
  have k1 := (first_sides (q := b) hQ.nodup).2 g1
  intro k
  exact q4 (k1.symm.trans k.symm)
/-- An ear of one part of a polygon is one of the whole. -/
theorem sub_ear {Q O I : List Pt} (hQ : Simp Q) (rQ : Tri 1 Q) (tO : Tri 1 O) (hI : Simp I) (rI : Res I 1) (hw : ∀ g v, wkg g Q v = wkg g O v + wkg g I v)
    {x z y : Pt} (hv : ∀ v ∈ Q, has x z v = true → v = x ∨ v = z) (hm : ∀ v ∈ Q, v ∈ I ∨ v ∈ O) (hr : ∀ e ∈ ring I, e ∈ ring Q ∨ e.1 = x ∧ e.2 = z ∨ e.1 = z ∧ e.2 = x) (hx : y ≠ x) (hz : y ≠ z)
    (h3 : I.length = 3 → ∀ p q, p ∈ I → q ∈ I → p ≠ y → q ≠ y → p ≠ q → p = x ∧ q = z ∨ p = z ∧ q = x) (h : Ear I y) : Ear Q y := by
  obtain ⟨u, w, i1, i2, hp, hem⟩ := h
  have e1 : (u, y) ∈ ring Q := by
    rcases hr _ i1 with k | ⟨_, k⟩ | ⟨_, k⟩
    · exact k
    · exact absurd k hz
    · exact absurd k hx
  have e2 : (y, w) ∈ ring Q := by
    rcases hr _ i2 with k | ⟨k, _⟩ | ⟨k, _⟩
    · exact k
    · exact absurd k hx
    · exact absurd k hz
  refine ⟨u, w, e1, e2, hp, fun v hvQ c1 c2 c3 => ?_⟩
  by_cases hvI : v ∈ I
  · exact hem v hvI c1 c2 c3
  · have hvO : v ∈ O := (hm v hvQ).resolve_left hvI
    refine (ear_out hQ rQ tO hI rI hw i1 i2 e1 e2 hp hem (fun hl v hv' hh => ?_) hvO hvQ hvI c1 c2 c3).elim
    have huy : u ≠ y := ends_ne' hI i1
    have hwy : w ≠ y := (ends_ne' hI i2).symm
    have huw : u ≠ w := fun q => by rw [q, turn_aba] at hp; omega
    rcases h3 hl u w (ring_mem i1).1 (ring_mem i2).2 huy hwy huw with ⟨q1, q2⟩ | ⟨q1, q2⟩
    · rw [q1, q2, has_comm] at hh
      rw [q1, q2]
      exact (hv v hv' hh).symm
    · rw [q1, q2] at hh
      rw [q1, q2]
      exact hv v hv' hh
/-- There is an ear, at neither end of a given side. -/
theorem ear_ex : ∀ (n : Nat) (P : List Pt), P.length = n → Simp P → Res P 1 → ∀ e ∈ ring P, ∃ y, y ≠ e.1 ∧ y ≠ e.2 ∧ Ear P y := by
  intro n
  induction n using Nat.strongRecOn with
  | ind n IH =>
    intro P hn h hR e he
    by_cases h4 : 4 ≤ P.length
    · have : ∃ x, x ∈ P ∧ Ext P x ∧ x ≠ e.1 ∧ x ≠ e.2 := by
        obtain ⟨x, y, z, ⟨hx, ex⟩, ⟨hy, ey⟩, ⟨hz, ez⟩, hxy, hxz, hyz⟩ := three_ext h
        by_cases k1 : x ≠ e.1 ∧ x ≠ e.2
        · exact ⟨x, hx, ex, k1⟩
        by_cases k2 : y ≠ e.1 ∧ y ≠ e.2
        · exact ⟨y, hy, ey, k2⟩
        refine ⟨z, hz, ez, ?_⟩
        have q1 : x = e.1 ∨ x = e.2 := Classical.byContradiction fun k => k1 ⟨fun q => k (.inl q), fun q => k (.inr q)⟩
        have q2 : y = e.1 ∨ y = e.2 := Classical.byContradiction fun k => k2 ⟨fun q => k (.inl q), fun q => k (.inr q)⟩
        rcases q1 with q1 | q1 <;> rcases q2 with q2 | q2
        · exact absurd (q1.trans q2.symm) hxy
        · exact ⟨fun q => hxz (q1.trans q.symm), fun q => hyz (q2.trans q.symm)⟩
        · exact ⟨fun q => hyz (q2.trans q.symm), fun q => hxz (q1.trans q.symm)⟩
        · exact absurd (q1.trans q2.symm) hxy
      obtain ⟨x, hx, ex, hxe1, hxe2⟩ := this
      obtain ⟨w, M, u, A0, B0, rfl, hBA⟩ := rotate_to h.len hx
      suffices H : ∃ y, y ≠ e.1 ∧ y ≠ e.2 ∧ Ear (B0 ++ A0) y by
        obtain ⟨y, y1, y2, y3⟩ := H
        exact ⟨y, y1, y2, y3.perm (fun v hv => by simp only [List.mem_append] at hv ⊢; exact hv.symm) (ring_rot B0 A0)⟩
      have hQ := h.rot
      have rQ := hR.rot
      have exQ : Ext (B0 ++ A0) x := ex.mono fun v hv => by simp only [List.mem_append] at hv ⊢; exact hv.symm
      have heQ := (ring_rot A0 B0).mem_iff.1 he
      have hlen : (B0 ++ A0).length = (A0 ++ B0).length := by simp [Nat.add_comm]
      clear h hR ex he hx
      generalize B0 ++ A0 = Q at *
      obtain ⟨q1, q2, q3, q4, q5, q6⟩ := first_facts (hBA ▸ hQ)
      rw [← hBA] at q1 q2 q6
      have hd : 0 < turn u x w := by
        have := rQ.2.2 u x w q1 q2 exQ
        omega
      rcases dich' hQ.good (.inr q1) (.inl q2) q6 (by omega) with ⟨z, hz, h1, h2, h3, h4', h5, h6, h7⟩ | ⟨h1, -⟩
      · obtain ⟨A, B, hwA, huB, eQ, P1, P2, k⟩ := cut_parts hBA hQ exQ hz h1 h2 h3 h4' h5 h6 h7
        obtain ⟨s1, r1⟩ := simp_tri _ _ rfl P1
        obtain ⟨s2, r2⟩ := simp_tri _ _ rfl P2
        obtain ⟨k1, k2⟩ := k s1 s2 r1 r2
        have : s1 = 1 := res_same hQ k2 rQ
        subst this
        subst k1
        have a0 := List.length_pos_of_mem hwA
        have b0 := List.length_pos_of_mem huB
        have hnd := hQ.nodup
        have hlQ : n = A.length + B.length + 2 := by
          have := congrArg List.length eQ
          simp only [List.length_cons, List.length_append] at this
          simp only [List.length_append] at hn hlen
          omega
        clear hBA exQ q1 q2 q6 k k2
        subst eQ
        have er : ring (x :: (A ++ z :: B)) = chain x (A ++ [z]) ++ chain z (B ++ [x]) := by
          show chain x (A ++ z :: B ++ [x]) = _
          rw [show A ++ z :: B ++ [x] = A ++ z :: (B ++ [x]) by simp, chain_cut]
        have er1 : ring (x :: (A ++ [z])) = chain x (A ++ [z]) ++ [(z, x)] := by
          show chain x (A ++ [z] ++ [x]) = _
          rw [show A ++ [z] ++ [x] = A ++ z :: [x] by simp, chain_cut]
          rfl
        have er2 : ring (x :: z :: B) = (x, z) :: chain z (B ++ [x]) := rfl
        have hxA : x ∉ A ++ z :: B := (List.nodup_cons.1 hnd).1
        have hdis : ∀ v, v ∈ A → v ∈ z :: B → False := fun v h1 h2 => (List.nodup_append.1 (List.nodup_cons.1 hnd).2).2.2 v h1 v h2 rfl
        rw [er, List.mem_append] at heQ
        rcases heQ with he | he
        · -- the marked side is of the first part
          obtain ⟨y, y1, y2, y3⟩ := IH (x :: z :: B).length (by simp only [List.length_cons]; omega) (x :: z :: B) rfl P2 r2 (x, z) (by rw [er2]; exact List.mem_cons_self)
          have hyI : y ∈ x :: z :: B := by obtain ⟨u', w', i1, -⟩ := y3; exact (ring_mem i1).2
          have hyB : y ∈ B := by
            simp only [List.mem_cons] at hyI
            exact (hyI.resolve_left y1).resolve_left y2
          have hout : ∀ p, p ∈ x :: (A ++ [z]) → y ≠ p := fun p hp q => by
            subst q
            simp only [List.mem_cons, List.mem_append, List.not_mem_nil, or_false] at hp
            rcases hp with k | k | k
            · exact y1 k
            · exact hdis _ k (List.mem_cons_of_mem _ hyB)
            · exact y2 k
          have hce := chain_mem _ _ _ he
          refine ⟨y, hout _ hce.1, hout _ (List.mem_cons_of_mem _ hce.2), ?_⟩
          refine sub_ear (x := x) (z := z) hQ rQ.2.1 r1.2.1 P2 r2 (fun g v => wkg_cut g x A z B v) h7.vert (fun v hv => ?_) (fun f hf => ?_) y1 y2 (fun hl p q hp hq hpy hqy hpq => ?_) y3
          · simp only [List.mem_cons, List.mem_append, List.not_mem_nil, or_false] at hv ⊢
            rcases hv with k | k | k | k
            · exact .inl (.inl k)
            · exact .inr (.inr (.inl k))
            · exact .inl (.inr (.inl k))
            · exact .inl (.inr (.inr k))
          · rw [er2] at hf
            rw [er]
            rcases List.mem_cons.1 hf with k | k
            · exact .inr (.inl (by rw [k]; exact ⟨rfl, rfl⟩))
            · exact .inl (List.mem_append_right _ k)
          · have hB1 : B = [y] := by
              simp only [List.length_cons] at hl
              match B, hyB, hl with
              | [b], hyB, _ => rw [List.mem_singleton.1 hyB]
            rw [hB1] at hp hq
            simp only [List.mem_cons, List.not_mem_nil, or_false] at hp hq
            rcases hp with rfl | rfl | rfl
            · rcases hq with rfl | rfl | rfl
              · exact absurd rfl hpq
              · exact .inl ⟨rfl, rfl⟩
              · exact absurd rfl hqy
            · rcases hq with rfl | rfl | rfl
              · exact .inr ⟨rfl, rfl⟩
              · exact absurd rfl hpq
              · exact absurd rfl hqy
            · exact absurd rfl hpy
        · -- the marked side is of the second part
          obtain ⟨y, y1, y2, y3⟩ := IH (x :: (A ++ [z])).length (by simp only [List.length_cons, List.length_append, List.length_nil]; omega) (x :: (A ++ [z])) rfl P1 r1 (z, x) (by rw [er1]; simp)
          have hyI : y ∈ x :: (A ++ [z]) := by obtain ⟨u', w', i1, -⟩ := y3; exact (ring_mem i1).2
          have hyA : y ∈ A := by
            simp only [List.mem_cons, List.mem_append, List.not_mem_nil, or_false] at hyI
            exact (hyI.resolve_left y2).resolve_right y1
          have hout : ∀ p, p ∈ z :: (B ++ [x]) → y ≠ p := fun p hp q => by
            subst q
            simp only [List.mem_cons, List.mem_append, List.not_mem_nil, or_false] at hp
            rcases hp with k | k | k
            · exact y1 k
            · exact hdis _ hyA (List.mem_cons_of_mem _ k)
            · exact y2 k
          have hce := chain_mem _ _ _ he
          refine ⟨y, hout _ hce.1, hout _ (List.mem_cons_of_mem _ hce.2), ?_⟩
          refine sub_ear (x := x) (z := z) hQ rQ.2.1 r2.2.1 P1 r1 (fun g v => by rw [wkg_cut g x A z B v]; exact Int.add_comm _ _) h7.vert (fun v hv => ?_) (fun f hf => ?_) y2 y1 (fun hl p q hp hq hpy hqy hpq => ?_) y3
          · simp only [List.mem_cons, List.mem_append, List.not_mem_nil, or_false] at hv ⊢
            rcases hv with k | k | k | k
            · exact .inl (.inl k)
            · exact .inl (.inr (.inl k))
            · exact .inl (.inr (.inr k))
            · exact .inr (.inr (.inr k))
          · rw [er1] at hf
            rw [er]
            rcases List.mem_append.1 hf with k | k
            · exact .inl (List.mem_append_left _ k)
            · exact .inr (.inr (by rw [List.mem_singleton.1 k]; exact ⟨rfl, rfl⟩))
          · have hA1 : A = [y] := by
              simp only [List.length_cons, List.length_append, List.length_nil] at hl
              match A, hyA, hl with
              | [b], hyA, _ => rw [List.mem_singleton.1 hyA]
            rw [hA1] at hp hq
            simp only [List.mem_cons, List.mem_append, List.not_mem_nil, or_false] at hp hq
            rcases hp with rfl | rfl | rfl
            · rcases hq with rfl | rfl | rfl
              · exact absurd rfl hpq
              · exact absurd rfl hqy
              · exact .inl ⟨rfl, rfl⟩
            · exact absurd rfl hpy
            · rcases hq with rfl | rfl | rfl
              · exact .inr ⟨rfl, rfl⟩
              · exact absurd rfl hqy
              · exact absurd rfl hpq
      · refine ⟨x, hxe1, hxe2, u, w, q1, q2, hd, fun v hv c1 c2 c3 => ?_⟩
        exact h1 v hv (Int.mul_nonneg c1 (Int.le_of_lt hd)) (Int.mul_nonneg c2 (Int.le_of_lt hd)) (Int.mul_nonneg c3 (Int.le_of_lt hd))
    · have hl := h.len
      obtain ⟨w, M, u, A0, B0, rfl, hBA⟩ := rotate_to h.len (ring_mem he).1
      have hlen : (B0 ++ A0).length = (A0 ++ B0).length := by simp [Nat.add_comm]
      have hQ := h.rot
      have rQ := hR.rot
      have heQ := (ring_rot A0 B0).mem_iff.1 he
      suffices H : ∃ y, y ≠ e.1 ∧ y ≠ e.2 ∧ Ear (B0 ++ A0) y by
        obtain ⟨y, y1, y2, y3⟩ := H
        exact ⟨y, y1, y2, y3.perm (fun v hv => by simp only [List.mem_append] at hv ⊢; exact hv.symm) (ring_rot B0 A0)⟩
      rw [hBA] at hQ rQ heQ hlen ⊢
      have hM : M = [] := by
        simp only [List.length_cons, List.length_append, List.length_nil] at hlen hl h4
        exact List.eq_nil_of_length_eq_zero (by omega)
      subst hM
      obtain ⟨q1, q2, q3, q4, q5, q6⟩ := first_facts hQ
      have e2 : e.2 = w := (first_sides (q := e.2) hQ.nodup).2 heQ
      refine ⟨u, q3, by rw [e2]; exact q5, w, e.1, by simp [ring, chain], by simp [ring, chain], ?_, fun v hv _ _ _ => ?_⟩
      · obtain ⟨x, y, z, ⟨hx, ex⟩, -⟩ := three_ext hQ
        have r1 : turn w u e.1 = turn e.1 w u := turn_rot e.1 w u
        have r2 : turn u e.1 w = turn e.1 w u := (turn_rot u e.1 w).symm
        simp only [List.nil_append, List.mem_cons, List.not_mem_nil, or_false] at hx
        rcases hx with rfl | rfl | rfl
        · have := rQ.2.2 u _ w q1 q2 ex
          omega
        · have := rQ.2.2 e.1 _ u (by simp [ring, chain]) (by simp [ring, chain]) ex
          omega
        · have := rQ.2.2 w _ e.1 (by simp [ring, chain]) (by simp [ring, chain]) ex
          omega
      · simp only [List.nil_append, List.mem_cons, List.not_mem_nil, or_false] at hv
        rcases hv with k | k | k
        · exact .inr (.inr k)
        · exact .inl k
        · exact .inr (.inl k)
end Go.Proofs.Ytijpolfmiajenaa
