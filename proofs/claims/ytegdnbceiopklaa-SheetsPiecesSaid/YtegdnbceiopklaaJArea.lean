/- The function corners.divisor answers the greatest common divisor of two numbers within four times ten to the eighteenth. -/
import Derived.Test.YtegdnbceiopklaaLeaf
import Derived.Test.YtegdnbceiopklaaMom
import Derived.Test.YtegdnbceiopklaaCheck
import Derived.Test.YtegdnbceiopklaaJErs
import Derived.Test.YtegdnbceiopklaaFanSum
namespace Go.Proofs.Ytegdnbceiopklaa
open Go.RowKit
attribute [local go_sem] After.cell After.frozen

theorem gcd_step (a b : Int) (hb : b ≠ 0) : Int.gcd b (a.tmod b) = Int.gcd a b := by
  unfold Int.gcd
  rw [Int.natAbs_tmod, Nat.gcd_comm b.natAbs, ← Nat.gcd_rec, Nat.gcd_comm]
theorem gcd_zero (a : Int) : (Int.gcd a 0 : Int) = max a (-a) := by
  rw [Int.gcd_zero_right]; omega

end Go.Proofs.Ytegdnbceiopklaa
/- The function corners.Points answers the points of the sides and, by the area, those inside, for a valid polygon; else its error. -/
namespace Go.Proofs.Ytegdnbceiopklaa
open Go.RowKit Go.Shelf
attribute [local go_sem] After.cell After.frozen Oper.semAt_some wide_fn wide_depth Fence.inRound_fn Fence.inRound_depth

/-- The whole-number points of a side, without its first end. -/
def gcdF (a b : Pt) : Int := (Int.gcd (b.1 - a.1) (b.2 - a.2) : Int)
def ownTo (l : List Pt) : Nat → Int
  | 0 => 0
  | k + 1 => ownTo l k + gcdF (pat l k) (pat l (nxt l k))
def ownOf (l : List Pt) : Int := ownTo l l.length
theorem gcdF_bd {a b : Pt} (ha : isPt a = true) (hb : isPt b = true) : 0 ≤ gcdF a b ∧ gcdF a b ≤ 400 := by
  have a0 := isPt_bd ha
  have b0 := isPt_bd hb
  unfold gcdF
  refine ⟨by omega, ?_⟩
  by_cases h : b.1 - a.1 = 0
  · rw [h, Int.gcd_zero_left]; omega
  · have := Int.gcd_le_natAbs_left (b.2 - a.2) h
    omega
theorem ownTo_bd {l : List Pt} (h : ∀ i, i < l.length → isPt (pat l i) = true) : ∀ k, k ≤ l.length → 0 ≤ ownTo l k ∧ ownTo l k ≤ 400 * (k : Int)
  | 0, _ => by simp [ownTo]
  | k + 1, hk => by
    have ih := ownTo_bd h k (by omega)
    have h3 := gcdF_bd (h k (by omega)) (h (nxt l k) (nxt_lt k (by omega)))
    simp only [ownTo]
    omega
/-- The points inside, as the theorem of Pick has them. -/
def pickOf (l : List Pt) : Int := (max (tw l) (- tw l) - ownOf l + 2).tdiv 2

end Go.Proofs.Ytegdnbceiopklaa
/- The area of a valid polygon is not 0, and tells with the points of its sides how many are inside; its centre lies within its corners. -/
namespace Go.Proofs.Ytegdnbceiopklaa

theorem chain_map : ∀ (x : Pt) (t : List Pt), chain x t = (List.range t.length).map fun i => ((x :: t).getD i (0, 0), t.getD i (0, 0))
  | x, [] => rfl
  | x, y :: t => by
    rw [chain, chain_map y t, List.length_cons, List.range_succ_eq_map, List.map_cons, List.map_map]
    rfl
theorem ring_map (l : List Pt) : ring l = (List.range l.length).map fun i => (pat l i, pat l (nxt l i)) := by
  cases l with
  | nil => rfl
  | cons x t =>
    rw [ring, chain_map]
    simp only [List.length_append, List.length_cons, List.length_nil, Nat.zero_add]
    refine List.map_congr_left fun i hi => ?_
    have hi := List.mem_range.1 hi
    have e1 : (x :: (t ++ [x])).getD i (0, 0) = pat (x :: t) i := by
      show (x :: (t ++ [x])).getD i (0, 0) = (x :: t).getD i (0, 0)
      rw [← List.cons_append]
      simp only [List.getD_eq_getElem?_getD]
      rw [List.getElem?_append_left (by simpa using hi)]
    have e2 : (t ++ [x]).getD i (0, 0) = pat (x :: t) (nxt (x :: t) i) := by
      simp only [pat, nxt, List.getD_eq_getElem?_getD, List.length_cons]
      rcases Nat.lt_or_ge (i + 1) (t.length + 1) with h | h
      · rw [Nat.mod_eq_of_lt h, List.getElem?_append_left (by omega), List.getElem?_cons_succ]
      · have : i = t.length := by omega
        subst this
        rw [Nat.mod_self, List.getElem?_append_right (Nat.le_refl _)]
        simp
    rw [e1, e2]

theorem sumTo_tot (f : Pt → Pt → Int) (l : List Pt) : ∀ k, sumTo f l k = tot (gOf f) ((List.range k).map fun i => (pat l i, pat l (nxt l i)))
  | 0 => rfl
  | k + 1 => by
    rw [sumTo, sumTo_tot f l k, List.range_succ, List.map_append, tot_append]
    simp [tot, gOf]
theorem sumOf_tot (f : Pt → Pt → Int) (l : List Pt) : sumOf f l = tot (gOf f) (ring l) := by rw [ring_map]; exact sumTo_tot f l _
theorem ownTo_tot (l : List Pt) : ∀ k, ownTo l k = tot gcdF ((List.range k).map fun i => (pat l i, pat l (nxt l i)))
  | 0 => rfl
  | k + 1 => by
    rw [ownTo, ownTo_tot l k, List.range_succ, List.map_append, tot_append]
    simp [tot]
theorem ownOf_tot (l : List Pt) : ownOf l = tot gcdF (ring l) := by rw [ring_map]; exact ownTo_tot l _
theorem mem_ring {l : List Pt} {e : Edge} : e ∈ ring l ↔ ∃ i, i < l.length ∧ e = (pat l i, pat l (nxt l i)) := by
  rw [ring_map, List.mem_map]
  simp only [List.mem_range]
  exact ⟨fun ⟨i, h, e⟩ => ⟨i, h, e.symm⟩, fun ⟨i, h, e⟩ => ⟨i, h, e.symm⟩⟩
theorem mem_pat {l : List Pt} {v : Pt} : v ∈ l ↔ ∃ i, i < l.length ∧ v = pat l i := by
  rw [List.mem_iff_getElem]
  constructor
  · rintro ⟨i, h, rfl⟩; exact ⟨i, h, pat_eq h⟩
  · rintro ⟨i, h, rfl⟩; exact ⟨i, h, pat_eq h⟩

theorem apart_of {a b p q : Pt} (h : turn a b p * turn a b q < 0) : apart a b p q = true := by
  simp only [apart, Bool.or_eq_true, Bool.and_eq_true, decide_eq_true_eq]
  rcases opp h with h | h
  · exact .inl h
  · exact .inr ⟨h.2, h.1⟩
theorem ok_simp {l : List Pt} (h : Ok l) : Simp l := by
  have hn : 3 ≤ l.length := h.1.1
  refine ⟨hn, ?_, ⟨?_, ?_, fun e he => ring_mem he⟩⟩
  · rw [List.nodup_iff_pairwise_ne, List.pairwise_iff_getElem]
    intro i j hi hj hij
    rw [pat_eq hi, pat_eq hj]
    exact h.2.2.1 j hj i hij
  · intro e he v hv hh
    obtain ⟨i, hi, rfl⟩ := mem_ring.1 he
    obtain ⟨k, hk, rfl⟩ := mem_pat.1 hv
    by_cases h1 : k = i
    · exact .inl (by rw [h1])
    by_cases h2 : k = nxt l i
    · exact .inr (by rw [h2])
    by_cases h3 : nxt l k = i
    · have := (h.2.2.2.1 k hk).2
      rw [h3] at this
      rw [this] at hh; cases hh
    · have := h.2.2.2.2 i hi k hk
      rcases this with h4 | h4 | h4 | h4
      · exact absurd h4 h1
      · exact absurd h4 h2
      · exact absurd h4 h3
      · simp only at hh
        simp [meets, hh] at h4
  · intro e he f hf hc
    obtain ⟨i, hi, rfl⟩ := mem_ring.1 he
    obtain ⟨k, hk, rfl⟩ := mem_ring.1 hf
    obtain ⟨c1, c2⟩ := hc
    simp only at c1 c2
    rcases h.2.2.2.2 i hi k hk with h4 | h4 | h4 | h4
    · rw [h4, turn_aba] at c1; simp at c1
    · rw [h4, turn_abb] at c1; simp at c1
    · rw [h4, turn_aba] at c1; simp at c1
    · simp [meets, apart_of c1, apart_of c2] at h4

/-- What each triangle gives above 0, the polygon gives. -/
theorem Tri.pos {s : Int} {g : Pt → Pt → Int} (hg : ∀ a b, g b a = - g a b) {Q : Pt → Prop} (ht : ∀ a b c, Q a → Q b → Q c → 0 < s * turn a b c → 0 < g a b + g b c + g c a) {P : List Pt} (h : Tri s P) (hQ : ∀ p ∈ P, Q p) : 0 < tot g (ring P) := by
  induction h with
  | tri a b c hp =>
    have := ht a b c (hQ a (by simp)) (hQ b (by simp)) (hQ c (by simp)) hp
    show 0 < g a b + (g b c + (g c a + 0))
    omega
  | cut x A z B hne h1 h2 ih1 ih2 =>
    have k1 := ih1 fun p hp => hQ p (by simp at hp ⊢; rcases hp with h | h | h <;> simp [h])
    have k2 := ih2 fun p hp => hQ p (by simp at hp ⊢; rcases hp with h | h | h <;> simp [h])
    have k3 := ring_split g x A z B
    have k4 := hg x z
    omega
  | rot A B h ih =>
    have := ih fun p hp => hQ p (by simp only [List.mem_append] at hp ⊢; exact hp.symm)
    rwa [tot_perm g (ring_rot A B)] at this

theorem gcdF_pos {a b : Pt} (h : a ≠ b) : 1 ≤ gcdF a b := by
  have : Int.gcd (b.1 - a.1) (b.2 - a.2) ≠ 0 := by
    rw [Ne, Int.gcd_eq_zero_iff]
    intro hh
    exact h (Prod.ext (by omega) (by omega))
  unfold gcdF
  omega
theorem gcdF_comm (a b : Pt) : gcdF b a = gcdF a b := by
  unfold gcdF
  rw [show a.1 - b.1 = -(b.1 - a.1) by omega, show a.2 - b.2 = -(b.2 - a.2) by omega, Int.gcd_neg, Int.neg_gcd]

/-- The product of what divides two ways divides the doubled area. -/
theorem gcd_turn (a b c : Pt) : gcdF a b * gcdF a c ∣ turn a b c := by
  unfold gcdF
  obtain ⟨p, hp⟩ := Int.gcd_dvd_left (a := b.1 - a.1) (b := b.2 - a.2)
  obtain ⟨q, hq⟩ := Int.gcd_dvd_right (a := b.1 - a.1) (b := b.2 - a.2)
  obtain ⟨r, hr⟩ := Int.gcd_dvd_left (a := c.1 - a.1) (b := c.2 - a.2)
  obtain ⟨t, ht⟩ := Int.gcd_dvd_right (a := c.1 - a.1) (b := c.2 - a.2)
  refine ⟨p * t - q * r, ?_⟩
  unfold turn
  generalize ((b.1 - a.1).gcd (b.2 - a.2) : Int) = g at *
  generalize ((c.1 - a.1).gcd (c.2 - a.2) : Int) = h at *
  rw [hp, hq, hr, ht]
  grind
theorem gcd_turn_le {s : Int} (hs : s = 1 ∨ s = -1) {a b c : Pt} (h : 0 < s * turn a b c) : gcdF a b * gcdF a c ≤ s * turn a b c := by
  refine Int.le_of_dvd h ?_
  obtain ⟨k, hk⟩ := gcd_turn a b c
  exact ⟨s * k, by rw [hk]; grind⟩
theorem three_prod {a b c T : Int} (ha : 1 ≤ a) (hb : 1 ≤ b) (hc : 1 ≤ c) (h1 : a * b ≤ T) (h2 : b * c ≤ T) (h3 : a * c ≤ T) : a + b + c - 2 ≤ T := by
  have key : ∀ x y z : Int, 1 ≤ x → x ≤ y → x ≤ z → 1 ≤ y → 1 ≤ z → x + y + z - 2 ≤ y * z := by
    intro x y z hx hxy hxz hy hz
    rcases Int.lt_or_le y 2 with h | h
    · have : y = 1 := by omega
      subst this
      rw [Int.one_mul]; omega
    · have k : 1 * (z - 1) ≤ (y - 1) * (z - 1) := Int.mul_le_mul_of_nonneg_right (by omega) (by omega)
      have k2 : (y - 1) * (z - 1) = y * z - y - z + 1 := by grind
      omega
  by_cases k1 : a ≤ b ∧ a ≤ c
  · have := key a b c ha k1.1 k1.2 hb hc; omega
  · by_cases k2 : b ≤ a ∧ b ≤ c
    · have := key b a c hb k2.1 k2.2 ha hc; omega
    · have := key c a b hc (by omega) (by omega) ha hb; omega

/-- The area is so great that the points inside are not less than 0. -/
theorem Tri.pick {s : Int} (hs : s = 1 ∨ s = -1) {P : List Pt} (h : Tri s P) : tot gcdF (ring P) - 2 ≤ s * tot cross (ring P) := by
  induction h with
  | tri a b c hp =>
    have e : tot cross (ring [a, b, c]) = turn a b c := by
      show cross a b + (cross b c + (cross c a + 0)) = _
      unfold cross turn
      grind
    have e2 : tot gcdF (ring [a, b, c]) = gcdF a b + gcdF b c + gcdF a c := by
      show gcdF a b + (gcdF b c + (gcdF c a + 0)) = _
      rw [gcdF_comm a c]; omega
    rw [e, e2]
    have hab : a ≠ b := by rintro rfl; rw [turn_aab] at hp; omega
    have hac : a ≠ c := by rintro rfl; rw [turn_aba] at hp; omega
    have hbc : b ≠ c := by rintro rfl; rw [turn_abb] at hp; omega
    have r1 := turn_rot a b c
    have r2 := turn_rot b c a
    have k1 := gcd_turn_le hs hp
    have k2 := gcd_turn_le (a := b) (b := c) (c := a) hs (by rw [r1]; exact hp)
    have k3 := gcd_turn_le (a := c) (b := a) (c := b) hs (by rw [r2, r1]; exact hp)
    rw [r1] at k2
    rw [r2, r1] at k3
    rw [gcdF_comm a b] at k2
    rw [gcdF_comm a c, gcdF_comm b c] at k3
    exact three_prod (gcdF_pos hab) (gcdF_pos hbc) (gcdF_pos hac) (by rw [Int.mul_comm]; omega) (by rw [Int.mul_comm]; omega) k1
  | cut x A z B hne h1 h2 ih1 ih2 =>
    have k3 := ring_split cross x A z B
    have k4 : cross z x = - cross x z := by unfold cross; grind
    have k5 := ring_split gcdF x A z B
    have k6 := gcdF_comm x z
    have k7 := gcdF_pos hne
    have : s * tot cross (ring (x :: (A ++ z :: B))) = s * tot cross (ring (x :: (A ++ [z]))) + s * tot cross (ring (x :: z :: B)) := by
      rw [← Int.mul_add]; congr 1; omega
    omega
  | rot A B h ih => rwa [tot_perm _ (ring_rot A B), tot_perm cross (ring_rot A B)] at ih

/-- 1 for points of which a number is odd. -/
def odd (p : Pt) : Int := if p.1 % 2 = 0 ∧ p.2 % 2 = 0 then 0 else 1
theorem edge_par (a b : Pt) : (cross a b + gcdF a b) % 2 = (odd a + odd b) % 2 := by
  have hg : (gcdF a b % 2 = 0) ↔ (b.1 - a.1) % 2 = 0 ∧ (b.2 - a.2) % 2 = 0 := by
    unfold gcdF
    rw [← Int.dvd_iff_emod_eq_zero, ← Int.dvd_iff_emod_eq_zero, ← Int.dvd_iff_emod_eq_zero, Int.dvd_coe_gcd_iff]
  have hc : cross a b % 2 = ((a.1 % 2) * (b.2 % 2) - (a.2 % 2) * (b.1 % 2)) % 2 := by
    unfold cross
    rw [Int.sub_emod, Int.mul_emod, Int.mul_emod a.2, ← Int.sub_emod]
  unfold odd
  have h1 := Int.emod_two_eq a.1
  have h2 := Int.emod_two_eq a.2
  have h3 := Int.emod_two_eq b.1
  have h4 := Int.emod_two_eq b.2
  have h5 := Int.emod_two_eq (gcdF a b)
  rcases h1 with h1 | h1 <;> rcases h2 with h2 | h2 <;> rcases h3 with h3 | h3 <;> rcases h4 with h4 | h4 <;> simp only [h1, h2, h3, h4] at hc ⊢ <;> simp at hc ⊢ <;> omega
theorem chain_par (u : Pt) : ∀ (x : Pt) (l : List Pt), (tot cross (chain x (l ++ [u])) + tot gcdF (chain x (l ++ [u]))) % 2 = (odd x + odd u) % 2
  | x, [] => by
    have := edge_par x u
    simp only [List.nil_append, chain, tot]
    omega
  | x, y :: l => by
    have h1 := edge_par x y
    have h2 := chain_par u y l
    simp only [List.cons_append, chain, tot]
    omega
theorem ring_par (l : List Pt) : (tot cross (ring l) + tot gcdF (ring l)) % 2 = 0 := by
  cases l with
  | nil => rfl
  | cons x t =>
    have := chain_par x x t
    show (tot cross (chain x (t ++ [x])) + tot gcdF (chain x (t ++ [x]))) % 2 = 0
    omega

theorem tw_tot (l : List Pt) : tw l = tot cross (ring l) := by
  show sumOf oneF l = _
  rw [sumOf_tot]
  exact tot_congr _ fun a b => by unfold gOf oneF; omega
/-- What is known of a valid polygon. -/
theorem ok_area {l : List Pt} (h : Ok l) : ∃ s : Int, (s = 1 ∨ s = -1) ∧ Tri s l ∧ 0 < s * tw l := by
  obtain ⟨s, hs, ht, -⟩ := simp_tri _ l rfl (ok_simp h)
  refine ⟨s, hs, ht, ?_⟩
  have := ht.pos (g := fun a b => s * cross a b) (Q := fun _ => True) (fun a b => by unfold cross; grind) (fun a b c _ _ _ hp => by
    have e : s * cross a b + s * cross b c + s * cross c a = s * turn a b c := by unfold cross turn; grind
    omega) (fun _ _ => trivial)
  have e : ∀ E : List Edge, tot (fun a b => s * cross a b) E = s * tot cross E := by
    intro E
    induction E with
    | nil => simp [tot]
    | cons e E ih => simp only [tot, ih, Int.mul_add]
  rw [e, ← tw_tot] at this
  exact this
theorem tw_ne {l : List Pt} (h : Ok l) : tw l ≠ 0 := by
  obtain ⟨s, _, _, h⟩ := ok_area h
  intro h0
  rw [h0, Int.mul_zero] at h
  omega
/-- The theorem of Pick, as the program has it. -/
theorem pick_is {l : List Pt} (h : Ok l) : 0 ≤ pickOf l ∧ max (tw l) (- tw l) = 2 * pickOf l + ownOf l - 2 := by
  obtain ⟨s, hs, ht, h1⟩ := ok_area h
  have h2 := ht.pick hs
  have h3 := ring_par l
  rw [← tw_tot, ← ownOf_tot] at h2 h3
  have h4 : s * tw l = max (tw l) (- tw l) := by rcases hs with rfl | rfl <;> omega
  unfold pickOf
  rw [Int.tdiv_eq_ediv_of_nonneg (by omega)]
  omega
theorem own_ge {l : List Pt} (h : Ok l) : (l.length : Int) ≤ ownOf l := by
  have hk : ∀ k, k ≤ l.length → (k : Int) ≤ ownTo l k := by
    intro k
    induction k with
    | zero => intro _; simp [ownTo]
    | succ k ih =>
      intro hk
      have := ih (by omega)
      have hne : pat l k ≠ pat l (nxt l k) := by
        have hn := nxt_ne h.1.1 (show k < l.length by omega)
        have hn2 := nxt_lt k (show 0 < l.length by omega)
        rcases Nat.lt_or_gt_of_ne hn with h5 | h5
        · exact (h.2.2.1 k (by omega) _ h5).symm
        · exact h.2.2.1 _ hn2 k h5
      have := gcdF_pos hne
      simp only [ownTo]
      omega
  exact hk _ (Nat.le_refl _)
/-- The centre lies within the corners: a bound below, with the sign of the area. -/
theorem moment_gt {l : List Pt} {s : Int} (ht : Tri s l) (α β lo : Int) (hlo : ∀ p ∈ l, lo ≤ lin α β p) (hαβ : α ≠ 0 ∨ β ≠ 0) : 0 < s * tot (fun a b => (lin α β a + lin α β b - 3 * lo) * cross a b) (ring l) := by
  have := ht.pos (g := fun a b => s * ((lin α β a + lin α β b - 3 * lo) * cross a b)) (Q := fun p => lo ≤ lin α β p) (fun a b => by unfold cross lin; grind) (fun a b c ha hb hc hp => by
    have e : s * ((lin α β a + lin α β b - 3 * lo) * cross a b) + s * ((lin α β b + lin α β c - 3 * lo) * cross b c) + s * ((lin α β c + lin α β a - 3 * lo) * cross c a) = s * turn a b c * (lin α β a + lin α β b + lin α β c - 3 * lo) := by unfold cross turn lin; grind
    rw [e]
    refine Int.mul_pos hp ?_
    refine Int.not_le.1 fun hle => ?_
    have e1 : lin α β a = lo := by omega
    have e2 : lin α β b = lo := by omega
    have e3 : lin α β c = lo := by omega
    have z1 : α * turn a b c = 0 := by simp only [lin, turn] at *; grind
    have z2 : β * turn a b c = 0 := by simp only [lin, turn] at *; grind
    have h0 : turn a b c = 0 := by
      rcases hαβ with h | h
      · exact (Int.mul_eq_zero.1 z1).resolve_left h
      · exact (Int.mul_eq_zero.1 z2).resolve_left h
    rw [h0, Int.mul_zero] at hp
    omega) hlo
  have e : ∀ E : List Edge, tot (fun a b => s * ((lin α β a + lin α β b - 3 * lo) * cross a b)) E = s * tot (fun a b => (lin α β a + lin α β b - 3 * lo) * cross a b) E := by
    intro E
    induction E with
    | nil => simp [tot]
    | cons e E ih => simp only [tot, ih, Int.mul_add]
  rw [e] at this
  exact this
end Go.Proofs.Ytegdnbceiopklaa
