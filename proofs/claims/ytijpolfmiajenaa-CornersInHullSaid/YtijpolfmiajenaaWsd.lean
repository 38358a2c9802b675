/- Two sides of a simple polygon have no point in common but corners. -/
import Derived.Test.YtijpolfmiajenaaWmi
namespace Go.Proofs.Ytijpolfmiajenaa

theorem has_same {a p : Pt} (h : has a a p = true) : p = a := by
  have := has_box h
  exact Prod.ext (by omega) (by omega)
/-- On a line through a and b, ordered by f. -/
theorem on_line {a b c : Pt} (α β : Int) (h : turn a b c = 0) (h0 : lin α β a < lin α β b) (h1 : lin α β a ≤ lin α β c) (h2 : lin α β c ≤ lin α β b) : has a b c = true := between_of α β h h1 h2 h0
theorem lin_has (α β : Int) {a b p : Pt} (h : has a b p = true) (hα : (α = 1 ∧ β = 0) ∨ (α = -1 ∧ β = 0) ∨ (α = 0 ∧ β = 1) ∨ (α = 0 ∧ β = -1)) : min (lin α β a) (lin α β b) ≤ lin α β p ∧ lin α β p ≤ max (lin α β a) (lin α β b) := by
  have := has_box h
  rcases hα with ⟨rfl, rfl⟩ | ⟨rfl, rfl⟩ | ⟨rfl, rfl⟩ | ⟨rfl, rfl⟩ <;> simp only [lin] <;> omega
theorem coll_eq {a b c d : Pt} {α β : Int} (hα : (α = 1 ∧ β = 0) ∨ (α = -1 ∧ β = 0) ∨ (α = 0 ∧ β = 1) ∨ (α = 0 ∧ β = -1)) (h0 : lin α β a < lin α β b) (hc : turn a b c = 0) (hd : turn a b d = 0) (he : lin α β c = lin α β d) : c = d := by
  have e : (b.1 - a.1) * (d.2 - c.2) - (b.2 - a.2) * (d.1 - c.1) = 0 := by
    have : (b.1 - a.1) * (d.2 - c.2) - (b.2 - a.2) * (d.1 - c.1) = turn a b d - turn a b c := by simp only [turn]; grind
    omega
  have key : ∀ x y : Int, 0 < x → x * y = 0 → y = 0 := fun x y hx h => zero_of_mul hx h
  rcases hα with ⟨rfl, rfl⟩ | ⟨rfl, rfl⟩ | ⟨rfl, rfl⟩ | ⟨rfl, rfl⟩ <;> simp only [lin] at h0 he
  · have h1 : d.1 - c.1 = 0 := by omega
    rw [h1, Int.mul_zero] at e
    have := key (b.1 - a.1) (d.2 - c.2) (by omega) (by omega)
    exact Prod.ext (by omega) (by omega)
  · have h1 : d.1 - c.1 = 0 := by omega
    rw [h1, Int.mul_zero] at e
    have := key (a.1 - b.1) (d.2 - c.2) (by omega) (by rw [← Int.neg_sub, Int.neg_mul]; omega)
    exact Prod.ext (by omega) (by omega)
  · have h1 : d.2 - c.2 = 0 := by omega
    rw [h1, Int.mul_zero] at e
    have := key (b.2 - a.2) (d.1 - c.1) (by omega) (by omega)
    exact Prod.ext (by omega) (by omega)
  · have h1 : d.2 - c.2 = 0 := by omega
    rw [h1, Int.mul_zero] at e
    have := key (a.2 - b.2) (d.1 - c.1) (by omega) (by rw [← Int.neg_sub, Int.neg_mul]; omega)
    exact Prod.ext (by omega) (by omega)
theorem pick_lin {a b : Pt} (h : a ≠ b) : ∃ α β : Int, ((α = 1 ∧ β = 0) ∨ (α = -1 ∧ β = 0) ∨ (α = 0 ∧ β = 1) ∨ (α = 0 ∧ β = -1)) ∧ lin α β a < lin α β b := by
  rcases Int.lt_trichotomy a.1 b.1 with k | k | k
  · exact ⟨1, 0, .inl ⟨rfl, rfl⟩, by simp only [lin]; omega⟩
  · rcases Int.lt_trichotomy a.2 b.2 with j | j | j
    · exact ⟨0, 1, .inr (.inr (.inl ⟨rfl, rfl⟩)), by simp only [lin]; omega⟩
    · exact absurd (Prod.ext k j) h
    · exact ⟨0, -1, .inr (.inr (.inr ⟨rfl, rfl⟩)), by simp only [lin]; omega⟩
  · exact ⟨-1, 0, .inr (.inl ⟨rfl, rfl⟩), by simp only [lin]; omega⟩
/-- What a point within a line says of a third one's turn: both ends lie on both sides, or on the line. -/
theorem mid_turn {c d p : Pt} (h : has c d p = true) (hc : p ≠ c) (hd : p ≠ d) (a b : Pt) (hp : turn a b p = 0) : (turn a b c = 0 ∧ turn a b d = 0) ∨ (turn a b c < 0 ∧ 0 < turn a b d) ∨ (0 < turn a b c ∧ turn a b d < 0) := by
  have hcd : c ≠ d := fun e => hc (by rw [← e] at h; exact has_same h)
  obtain ⟨N, k, hN, hk0, hkN, e1, e2⟩ := has_par h hcd
  have e := par_turn e1 e2 a b
  have hk : k ≠ 0 := fun q => by
    rw [q, Int.zero_mul] at e1 e2
    have x1 := zero_of_mul hN e1
    have x2 := zero_of_mul hN e2
    exact hc (Prod.ext (by omega) (by omega))
  have hk' : k ≠ N := fun q => by
    rw [q] at e1 e2
    have x1 := zero_of_mul hN (show N * (p.1 - d.1) = 0 by rw [show p.1 - d.1 = (p.1 - c.1) - (d.1 - c.1) by omega, Int.mul_sub]; omega)
    have x2 := zero_of_mul hN (show N * (p.2 - d.2) = 0 by rw [show p.2 - d.2 = (p.2 - c.2) - (d.2 - c.2) by omega, Int.mul_sub]; omega)
    exact hd (Prod.ext (by omega) (by omega))
  rw [hp, Int.mul_zero] at e
  have hA : 0 < N - k := by omega
  have hB : 0 < k := by omega
  generalize N - k = A at *
  rcases Int.lt_trichotomy (turn a b c) 0 with t | t | t
  · have := mul_neg' hA t
    exact .inr (.inl ⟨t, pos_of_mul hB (by omega)⟩)
  · rw [t, Int.mul_zero] at e
    exact .inl ⟨t, zero_of_mul hB (by omega)⟩
  · have := Int.mul_pos hA t
    exact .inr (.inr ⟨t, neg_of_mul hB (by omega)⟩)
theorem crs2_of {a b c d : Pt} (h1 : (turn a b c < 0 ∧ 0 < turn a b d) ∨ (0 < turn a b c ∧ turn a b d < 0)) (h2 : (turn c d a < 0 ∧ 0 < turn c d b) ∨ (0 < turn c d a ∧ turn c d b < 0)) : crs2 a b c d := by
  refine ⟨?_, ?_⟩
  · rcases h1 with ⟨x, y⟩ | ⟨x, y⟩
    · exact Int.mul_neg_of_neg_of_pos x y
    · exact Int.mul_neg_of_pos_of_neg x y
  · rcases h2 with ⟨x, y⟩ | ⟨x, y⟩
    · exact Int.mul_neg_of_neg_of_pos x y
    · exact Int.mul_neg_of_pos_of_neg x y
/-- Two lines with a point in common that is no end of them. -/
theorem two_lines {a b c d p : Pt} (h1 : has a b p = true) (h2 : has c d p = true) (ha : p ≠ a) (hb : p ≠ b) (hc : p ≠ c) (hd : p ≠ d) :
    has a b c = true ∨ has a b d = true ∨ has c d a = true ∨ has c d b = true ∨ crs2 a b c d := by
  have hab : a ≠ b := fun e => ha (by rw [← e] at h1; exact has_same h1)
  have hcd : c ≠ d := fun e => hc (by rw [← e] at h2; exact has_same h2)
  have m1 := mid_turn h2 hc hd a b (has_turn h1)
  have m2 := mid_turn h1 ha hb c d (has_turn h2)
  rcases m1 with ⟨t1, t2⟩ | m1
  · obtain ⟨α, β, hα, hl⟩ := pick_lin hab
    have hne : lin α β c ≠ lin α β d := fun e => hcd (coll_eq hα hl t1 t2 e)
    have l1 := lin_has α β h1 hα
    have l2 := lin_has α β h2 hα
    have sa : turn c d a = 0 ∧ turn c d b = 0 := by
      rcases m2 with k | k
      · exact k
      · exfalso
        have e1 : turn c d a = turn a b d - turn a b c + turn c d b := by simp only [turn]; grind
        rw [t1, t2] at e1
        omega
    by_cases k1 : lin α β a ≤ lin α β c ∧ lin α β c ≤ lin α β b
    · exact .inl (on_line α β t1 hl k1.1 k1.2)
    · by_cases k2 : lin α β a ≤ lin α β d ∧ lin α β d ≤ lin α β b
      · exact .inr (.inl (on_line α β t2 hl k2.1 k2.2))
      · rcases Int.lt_or_gt_of_ne hne with k3 | k3
        · exact .inr (.inr (.inl (on_line α β sa.1 k3 (by omega) (by omega))))
        · have e2 : turn d c a = 0 := by rw [turn_neg c d a]; omega
          refine .inr (.inr (.inl ?_))
          rw [← has_comm]
          exact on_line α β e2 k3 (by omega) (by omega)
  · rcases m2 with ⟨t1, t2⟩ | m2
    · exfalso
      have e1 : turn a b c = turn c d b - turn c d a + turn a b d := by simp only [turn]; grind
      rw [t1, t2] at e1
      omega
    · exact .inr (.inr (.inr (.inr (crs2_of m1 m2))))
theorem share {V : List Pt} {E : List Edge} (G : Good V E) {x y w p : Pt} (h1 : adj E x y) (h2 : adj E x w) (hp : p ∉ V) (k1 : has x y p = true) (k2 : has x w p = true) : y = w := by
  obtain ⟨mx, my⟩ := G.ends' h1
  obtain ⟨-, mw⟩ := G.ends' h2
  have hx : p ≠ x := fun k => hp (k ▸ mx)
  have hw : p ≠ w := fun k => hp (k ▸ mw)
  have hxy : x ≠ y := fun k => hx (by rw [← k] at k1; exact has_same k1)
  have hxw : x ≠ w := fun k => hx (by rw [← k] at k2; exact has_same k2)
  obtain ⟨α, β, hα, hl⟩ := pick_lin hxy
  have t : turn x y w = 0 := by
    rcases mid_turn k2 hx hw x y (has_turn k1) with k | k | k
    · exact k.2
    · have := turn_aba x y; omega
    · have := turn_aba x y; omega
  have l1 := lin_has α β k1 hα
  have l2 := lin_has α β k2 hα
  have l3 : lin α β x ≠ lin α β p := fun e => hx (coll_eq hα hl (turn_aba x y) (has_turn k1) e).symm
  rcases Int.lt_or_le (lin α β y) (lin α β w) with j | j
  · have t2 : turn x w y = 0 := by
      have : turn x w y = - turn x y w := by simp only [turn]; grind
      omega
    rcases G.vert' h2 my (on_line α β t2 (by omega) (by omega) (by omega)) with e | e
    · exact absurd e.symm hxy
    · exact e
  · rcases G.vert' h1 mw (on_line α β t hl (by omega) j) with e | e
    · exact absurd e.symm hxw
    · exact e.symm
/-- A point of two sides that is no corner: they are one side. -/
theorem one_side {V : List Pt} {E : List Edge} (G : Good V E) {e f : Edge} (he : e ∈ E) (hf : f ∈ E) {p : Pt} (hp : p ∉ V) (h1 : has e.1 e.2 p = true) (h2 : has f.1 f.2 p = true) : (e.1 = f.1 ∧ e.2 = f.2) ∨ (e.1 = f.2 ∧ e.2 = f.1) := by
  obtain ⟨a1, a2⟩ := G.ends e he
  obtain ⟨b1, b2⟩ := G.ends f hf
  have ha : p ≠ e.1 := fun k => hp (k ▸ a1)
  have hb : p ≠ e.2 := fun k => hp (k ▸ a2)
  have hc : p ≠ f.1 := fun k => hp (k ▸ b1)
  have hd : p ≠ f.2 := fun k => hp (k ▸ b2)
  have hab : e.1 ≠ e.2 := fun k => ha (by rw [← k] at h1; exact has_same h1)
  have hcd : f.1 ≠ f.2 := fun k => hc (by rw [← k] at h2; exact has_same h2)
  have ae : adj E e.1 e.2 := .inl he
  have af : adj E f.1 f.2 := .inl hf
  have h1' : has e.2 e.1 p = true := by rw [has_comm]; exact h1
  have h2' : has f.2 f.1 p = true := by rw [has_comm]; exact h2
  have A1 : f.1 = e.1 → (e.1 = f.1 ∧ e.2 = f.2) ∨ (e.1 = f.2 ∧ e.2 = f.1) := fun k => .inl ⟨k.symm, share G ae (k ▸ af) hp h1 (k ▸ h2)⟩
  have A2 : f.1 = e.2 → (e.1 = f.1 ∧ e.2 = f.2) ∨ (e.1 = f.2 ∧ e.2 = f.1) := fun k => .inr ⟨share G ae.symm (k ▸ af) hp h1' (k ▸ h2), k.symm⟩
  have A3 : f.2 = e.1 → (e.1 = f.1 ∧ e.2 = f.2) ∨ (e.1 = f.2 ∧ e.2 = f.1) := fun k => .inr ⟨k.symm, share G ae (k ▸ af.symm) hp h1 (k ▸ h2')⟩
  have A4 : f.2 = e.2 → (e.1 = f.1 ∧ e.2 = f.2) ∨ (e.1 = f.2 ∧ e.2 = f.1) := fun k => .inl ⟨share G ae.symm (k ▸ af.symm) hp h1' (k ▸ h2'), k.symm⟩
  rcases two_lines h1 h2 ha hb hc hd with k | k | k | k | k
  · exact (G.vert e he _ b1 k).elim A1 A2
  · exact (G.vert e he _ b2 k).elim A3 A4
  · exact (G.vert f hf _ a1 k).elim (fun q => A1 q.symm) (fun q => A3 q.symm)
  · exact (G.vert f hf _ a2 k).elim (fun q => A2 q.symm) (fun q => A4 q.symm)
  · exact absurd k (G.nocross e he f hf)
theorem chain_fst (y : Pt) : ∀ (x : Pt) (t : List Pt), (chain x (t ++ [y])).map Prod.fst = x :: t
  | x, [] => rfl
  | x, z :: t => by rw [List.cons_append, chain, List.map_cons, chain_fst y z t]
theorem ring_fst (P : List Pt) : (ring P).map Prod.fst = P := by
  cases P with
  | nil => rfl
  | cons x t => rw [ring_cons, chain_fst]
theorem ring_nodup {P : List Pt} (h : P.Nodup) : (ring P).Nodup := by
  have h1 : ((ring P).map Prod.fst).Nodup := by rw [ring_fst]; exact h
  exact (List.pairwise_map.1 h1).imp fun hab e => hab (by rw [e])
theorem no_swap {P : List Pt} (h : Simp P) {a b : Pt} (h1 : (a, b) ∈ ring P) (h2 : (b, a) ∈ ring P) : False := by
  obtain ⟨w, M, u, A, B, rfl, hBA⟩ := rotate_to h.len (ring_mem h1).1
  have hQ := h.rot
  have g1 := (ring_rot A B).mem_iff.1 h1
  have g2 := (ring_rot A B).mem_iff.1 h2
  rw [hBA] at hQ g1 g2
  obtain ⟨q1, q2, q3, q4, q5, q6⟩ := first_facts hQ
  have k1 := (first_sides (q := b) hQ.nodup).2 g1
  have k2 := (first_sides (q := b) hQ.nodup).1 g2
  exact q5 (k2.symm.trans k1)
/-- On an open side one of both windings is the sign, the other one 0. -/
theorem wnd_on {P : List Pt} {s : Int} (h : Simp P) (hs : s = 1 ∨ s = -1) (ht : Tri s P) {p : Pt} (hp : p ∉ P) {e : Edge} (he : e ∈ ring P) (hh : has e.1 e.2 p = true) : s * (wnd P p + wndm P p) = 1 := by
  obtain ⟨A, B, hAB⟩ := List.append_of_mem he
  have hd := wnd_diff P p
  have hnd := ring_nodup h.nodup
  have z : ∀ f ∈ A ++ B, dl f.1 f.2 p = 0 := fun f hf => by
    have hf' : f ∈ ring P := by rw [hAB]; simp only [List.mem_append, List.mem_cons] at hf ⊢; exact hf.elim .inl (fun q => .inr (.inr q))
    have hb : has f.1 f.2 p = false := by
      cases hc : has f.1 f.2 p with
      | false => rfl
      | true =>
        exfalso
        rcases one_side h.good he hf' hp hh hc with ⟨k1, k2⟩ | ⟨k1, k2⟩
        · have : e = f := Prod.ext k1 k2
          subst this
          rw [hAB] at hnd
          have hnd2 := (List.perm_middle (a := e) (l₁ := A) (l₂ := B)).nodup_iff.1 hnd
          exact (List.nodup_cons.1 hnd2).1 hf
        · refine no_swap h (a := e.1) (b := e.2) he ?_
          rw [k1, k2]
          exact hf'
    unfold dl
    rw [hb]
    rfl
  have hsum : tot (fun a b => dl a b p) (ring P) = dl e.1 e.2 p := by
    rw [hAB, tot_append]
    have zA := tot_zero (g := fun a b => dl a b p) A fun f hf => z f (List.mem_append_left _ hf)
    have zB := tot_zero (g := fun a b => dl a b p) B fun f hf => z f (List.mem_append_right _ hf)
    simp only [tot]
    rw [zA, zB]
    omega
  rw [hsum] at hd
  obtain ⟨m1, m2⟩ := ring_mem he
  have ha : p ≠ e.1 := fun k => hp (k ▸ m1)
  have hb : p ≠ e.2 := fun k => hp (k ▸ m2)
  have hab : e.1 ≠ e.2 := fun k => ha (by rw [← k] at hh; exact has_same hh)
  have hv : dl e.1 e.2 p = 1 ∨ dl e.1 e.2 p = -1 := by
    unfold dl
    rw [if_pos hh, if_neg ha, if_neg hb]
    have l1 := lwB_iff e.1 e.2
    have l2 := lwB_iff e.2 e.1
    cases q1 : lwB e.1 e.2
    · cases q2 : lwB e.2 e.1
      · exfalso
        rw [q1] at l1
        rw [q2] at l2
        have n1 : ¬ (e.1.2 < e.2.2 ∨ (e.1.2 = e.2.2 ∧ e.2.1 < e.1.1)) := fun k => by have := l1.2 k; cases this
        have n2 : ¬ (e.2.2 < e.1.2 ∨ (e.2.2 = e.1.2 ∧ e.1.1 < e.2.1)) := fun k => by have := l2.2 k; cases this
        exact hab (Prod.ext (by omega) (by omega))
      · exact .inl rfl
    · exact .inr rfl
  have w1 := wnd_of h hs ht p
  have w2 := wndm_of h hs ht p
  rcases hs with rfl | rfl <;> omega
end Go.Proofs.Ytijpolfmiajenaa
