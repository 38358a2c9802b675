/- Cutting off an ear, or a corner at which it goes straight on, leaves a simple polygon of the same sign; an ear is there. -/
import Derived.Test.YtijpolfmiajenaaEar
namespace Go.Proofs.Ytijpolfmiajenaa

def crF (a b : Pt) : Int := a.1 * b.2 - a.2 * b.1
theorem crF_anti (a b : Pt) : crF b a = - crF a b := by unfold crF; grind
theorem crF_tri (a b c : Pt) : crF a b + crF b c + crF c a = turn a b c := by unfold crF turn; grind
theorem tri_area {s : Int} {P : List Pt} (h : Tri s P) : 0 < s * tot crF (ring P) := by
  induction h with
  | tri a b c hp =>
    have e : tot crF (ring [a, b, c]) = turn a b c := by
      rw [← crF_tri]
      show crF a b + (crF b c + (crF c a + 0)) = _
      omega
    rw [e]
    exact hp
  | cut x A z B hne h1 h2 ih1 ih2 =>
    have k3 := ring_split crF x A z B
    have k4 := crF_anti x z
    have : tot crF (ring (x :: (A ++ z :: B))) = tot crF (ring (x :: (A ++ [z]))) + tot crF (ring (x :: z :: B)) := by omega
    rw [this, Int.mul_add]
    omega
  | rot A B h ih => rwa [tot_perm crF (ring_rot A B)] at ih
theorem sign_eq {s t A : Int} (hs : s = 1 ∨ s = -1) (ht : t = 1 ∨ t = -1) (h1 : 0 < s * A) (h2 : 0 < t * A) : t = s := by
  rw [sign_of hs] at h1
  rw [sign_of ht] at h2
  omega
theorem res_of {P : List Pt} (h : Simp P) {s : Int} (hs : s = 1 ∨ s = -1) (ha : 0 < s * tot crF (ring P)) : Res P s := by
  obtain ⟨t, ht⟩ := simp_tri _ _ rfl h
  have := sign_eq hs ht.1 ha (tri_area ht.2.1)
  rwa [← this]
theorem res_rev {P : List Pt} (h : Simp P) {s : Int} (hR : Res P s) : Res P.reverse (-s) := by
  refine res_of (simp_rev h) (by have := hR.1; omega) ?_
  rw [tot_rev (g := crF) (fun a b => crF_anti a b), Int.neg_mul_neg]
  exact tri_area hR.2.1
theorem chain_ring {w u : Pt} {M : List Pt} : ring (w :: (M ++ [u])) = chain w (M ++ [u]) ++ [(u, w)] := by
  show chain w (M ++ [u] ++ [w]) = _
  rw [show M ++ [u] ++ [w] = M ++ u :: [w] by simp, chain_cut]
  rfl
theorem tot_drop (F : Pt → Pt → Int) (x w u : Pt) (M : List Pt) : tot F (ring (x :: w :: (M ++ [u]))) + F u w = tot F (ring (w :: (M ++ [u]))) + F u x + F x w := by
  rw [chain_ring, ring_first]
  simp only [tot, tot_append]
  omega
theorem drop_straight {x w u : Pt} {M : List Pt} (hM : M ≠ []) (hQ : Simp (x :: w :: (M ++ [u]))) {s : Int} (hR : Res (x :: w :: (M ++ [u])) s) (hd : turn u x w = 0) :
    Simp (w :: (M ++ [u])) ∧ Res (w :: (M ++ [u])) s := by
  obtain ⟨q1, q2, q3, q4, q5, q6⟩ := first_facts hQ
  have hn1 := List.nodup_cons.1 hQ.nodup
  have mu := (ring_mem q1).1
  have mw := (ring_mem q2).2
  have hx : has u w x = true := by
    rcases coll3 hd with k | k | k
    · exact ((hQ.good.vert _ q1 w mw k).elim (fun q => q5 q.symm) q4).elim
    · exact ((hQ.good.vert _ q2 u mu k).elim q3 q5).elim
    · rw [has_comm]; exact k
  obtain ⟨N, k, hN, hk0, hkN, e1, e2⟩ := has_par hx q5
  have n1 : k ≠ 0 := fun q => by
    rw [q, Int.zero_mul] at e1 e2
    have x1 := zero_of_mul hN e1
    have x2 := zero_of_mul hN e2
    exact q3 (Prod.ext (by omega) (by omega))
  have n2 : k ≠ N := fun q => by
    rw [q] at e1 e2
    have x1 := zero_of_mul hN (show N * (x.1 - w.1) = 0 by rw [show x.1 - w.1 = (x.1 - u.1) - (w.1 - u.1) by omega, Int.mul_sub]; omega)
    have x2 := zero_of_mul hN (show N * (x.2 - w.2) = 0 by rw [show x.2 - w.2 = (x.2 - u.2) - (w.2 - u.2) by omega, Int.mul_sub]; omega)
    exact q4 (Prod.ext (by omega) (by omega))
  have hk : 0 < k := by omega
  have hNk : 0 < N - k := by omega
  have t1 : ∀ p, N * turn u x p = k * turn u w p := fun p => by
    have : N * turn u x p = (N * (x.1 - u.1)) * (p.2 - u.2) - (N * (x.2 - u.2)) * (p.1 - u.1) := by simp only [turn]; grind
    rw [this, e1, e2]
    simp only [turn]
    grind
  have t2 : ∀ p, N * turn x w p = (N - k) * turn u w p := fun p => by
    have e3 : turn x w p = turn u w p - turn u x p + turn u x w := by simp only [turn]; grind
    rw [e3, Int.mul_add, Int.mul_sub, t1, t1, turn_abb]
    grind
  have hV : ∀ v ∈ w :: (M ++ [u]), has u w v = true → v = u ∨ v = w := fun v hv hh => by
    have hvx : v ≠ x := fun q => hn1.1 (q ▸ hv)
    have hvQ : v ∈ x :: w :: (M ++ [u]) := List.mem_cons_of_mem _ hv
    have z0 := has_turn hh
    have z1 : turn u x v = 0 := zero_of_mul hN (by rw [t1, z0, Int.mul_zero])
    have z2 : turn x w v = 0 := zero_of_mul hN (by rw [t2, z0, Int.mul_zero])
    obtain ⟨α, β, hα, hl⟩ := pick_lin q5
    have l1 := lin_has α β hx hα
    have l2 := lin_has α β hh hα
    have l3 : lin α β u ≠ lin α β x := fun q => q3 (coll_eq hα hl (turn_aba u w) (has_turn hx) q)
    have l4 : lin α β w ≠ lin α β x := fun q => q4 (coll_eq hα hl (turn_abb u w) (has_turn hx) q)
    rcases Int.le_total (lin α β v) (lin α β x) with j | j
    · rcases hQ.good.vert _ q1 v hvQ (between_of (p := u) (q := x) α β z1 (by omega) j (by omega)) with q | q
      · exact .inl q
      · exact absurd q hvx
    · rcases hQ.good.vert _ q2 v hvQ (between_of (p := x) (q := w) α β z2 j (by omega) (by omega)) with q | q
      · exact absurd q hvx
      · exact .inr q
  have hE : ∀ e ∈ chain w (M ++ [u]), e ∈ ring (x :: w :: (M ++ [u])) := fun e he => by rw [ring_first]; simp [he]
  have hends : ∀ e ∈ chain w (M ++ [u]), e.1 ∈ w :: (M ++ [u]) ∧ e.2 ∈ w :: (M ++ [u]) := fun e he => by
    have := chain_mem _ _ _ he
    exact ⟨this.1, List.mem_cons_of_mem _ this.2⟩
  have G : Good (w :: (M ++ [u])) (chain w (M ++ [u])) := ⟨fun e he v hv hh => hQ.good.vert e (hE e he) v (List.mem_cons_of_mem _ hv) hh, fun e he f hf => hQ.good.nocross e (hE e he) f (hE f hf), hends⟩
  have hC : ∀ f ∈ chain w (M ++ [u]), ¬ crs2 u w f.1 f.2 := fun f hf hc => by
    obtain ⟨c1, c2⟩ := hc
    have mf := hE f hf
    have par := par_turn e1 e2 f.1 f.2
    have key : ∀ a b x : Int, 0 < x → a * b < 0 → x * a * (x * b) < 0 := fun a b y hy h => by
      have : y * a * (y * b) = (y * y) * (a * b) := by grind
      rw [this]
      exact mul_neg' (Int.mul_pos hy hy) h
    have back : ∀ a b : Int, N * a * (N * b) < 0 → a * b < 0 := fun a b h => by
      have : N * a * (N * b) = (N * N) * (a * b) := by grind
      rw [this] at h
      exact neg_of_mul (Int.mul_pos hN hN) h
    have a1 : turn u x f.1 * turn u x f.2 < 0 := back _ _ (by rw [t1, t1]; exact key _ _ _ hk c1)
    have a2 : turn x w f.1 * turn x w f.2 < 0 := back _ _ (by rw [t2, t2]; exact key _ _ _ hNk c1)
    rcases Int.lt_trichotomy (turn f.1 f.2 x) 0 with j | j | j
    · rcases opp c2 with ⟨b1, b2⟩ | ⟨b1, b2⟩
      · exact hQ.good.nocross _ q2 _ mf ⟨a2, Int.mul_neg_of_neg_of_pos j b2⟩
      · exact hQ.good.nocross _ q1 _ mf ⟨a1, Int.mul_neg_of_pos_of_neg b2 j⟩
    · have hh : has f.1 f.2 x = true := by
        have e : ∀ p, lin (-(w.2 - u.2)) (w.1 - u.1) p = turn u w p + lin (-(w.2 - u.2)) (w.1 - u.1) u := by
          intro p; simp only [lin, turn]; grind
        have z := has_turn hx
        rcases opp c1 with ⟨b1, b2⟩ | ⟨b1, b2⟩
        · exact between_of (-(w.2 - u.2)) (w.1 - u.1) j (by rw [e f.1, e x]; omega) (by rw [e x, e f.2]; omega) (by rw [e f.1, e f.2]; omega)
        · rw [← has_comm]
          exact between_of (-(w.2 - u.2)) (w.1 - u.1) (by rw [turn_neg]; omega) (by rw [e f.2, e x]; omega) (by rw [e x, e f.1]; omega) (by rw [e f.2, e f.1]; omega)
      have mx : x ∈ x :: w :: (M ++ [u]) := List.mem_cons_self
      rcases hQ.good.vert f mf x mx hh with q | q
      · exact hn1.1 (q ▸ (hends f hf).1)
      · exact hn1.1 (q ▸ (hends f hf).2)
    · rcases opp c2 with ⟨b1, b2⟩ | ⟨b1, b2⟩
      · exact hQ.good.nocross _ q1 _ mf ⟨a1, Int.mul_neg_of_neg_of_pos b1 j⟩
      · exact hQ.good.nocross _ q2 _ mf ⟨a2, Int.mul_neg_of_pos_of_neg j b1⟩
  have hM0 : 0 < M.length := List.length_pos_iff.2 hM
  have SR : Simp (w :: (M ++ [u])) := by
    refine ⟨by simp; omega, hn1.2, good_sub G ⟨hV, hC⟩ (fun v hv => hv) (fun e he => ?_) (fun e he => ring_mem he)⟩
    rw [chain_ring] at he
    simp only [List.mem_append, List.mem_cons, List.not_mem_nil, or_false] at he
    rcases he with h | h
    · exact .inl h
    · exact .inr (.inl h)
  refine ⟨SR, res_of SR hR.1 ?_⟩
  have a := tri_area hR.2.1
  have b := tot_drop crF x w u M
  have c := crF_tri u x w
  have d := crF_anti u w
  have : tot crF (ring (w :: (M ++ [u]))) = tot crF (ring (x :: w :: (M ++ [u]))) := by omega
  rw [this]
  exact a
theorem drop_ear {x w u : Pt} {M : List Pt} (hM : M ≠ []) (hQ : Simp (x :: w :: (M ++ [u]))) {s : Int} (hR : Res (x :: w :: (M ++ [u])) s) (hd : 0 < s * turn u x w)
    (hem : ∀ z ∈ x :: w :: (M ++ [u]), 0 ≤ s * turn u x z → 0 ≤ s * turn x w z → 0 ≤ s * turn w u z → z = u ∨ z = x ∨ z = w) : Simp (w :: (M ++ [u])) ∧ Res (w :: (M ++ [u])) s := by
  obtain ⟨q1, q2, q3, q4, q5, q6⟩ := first_facts hQ
  have pos : ∀ a : Int, 0 ≤ a * turn u x w → 0 ≤ s * a := fun a h => by
    rcases hR.1 with rfl | rfl
    · exact Int.not_lt.1 fun k => by
        have := Int.mul_neg_of_neg_of_pos (show a < 0 by omega) (show 0 < turn u x w by omega)
        omega
    · exact Int.not_lt.1 fun k => by
        have := Int.mul_neg_of_pos_of_neg (show 0 < a by omega) (show turn u x w < 0 by omega)
        omega
  have hd0 : turn u x w ≠ 0 := fun q => by rw [q, Int.mul_zero] at hd; omega
  have hem2 : ∀ z ∈ x :: w :: (M ++ [u]), 0 ≤ turn u x z * turn u x w → 0 ≤ turn x w z * turn u x w → 0 ≤ turn w u z * turn u x w → z = u ∨ z = x ∨ z = w := fun z hz h1 h2 h3 => hem z hz (pos _ h1) (pos _ h2) (pos _ h3)
  have S : SegGood (x :: w :: (M ++ [u])) (ring (x :: w :: (M ++ [u]))) u w := by
    rcases dich' hQ.good (.inr q1) (.inl q2) q6 hd0 with ⟨z, hz, h1, h2, h3, h4, h5, h6, h7⟩ | ⟨-, h2⟩
    · rcases hem2 z hz (Int.le_of_lt h4) (Int.le_of_lt h5) h6 with k | k | k
      · exact absurd k h1
      · exact absurd k h2
      · exact absurd k h3
    · exact h2
  obtain ⟨SR, k⟩ := ear_parts rfl hM hQ hd0 hem2 S
  obtain ⟨t, ht⟩ := simp_tri _ _ rfl SR
  obtain ⟨t0, -, c⟩ := k t ht
  have : t = s := by
    obtain ⟨a, b, -, ⟨ha, ea⟩, ⟨hb, eb⟩, -, hab, -⟩ := three_ext hQ
    have key : ∀ a, a ∈ x :: w :: (M ++ [u]) → Ext (x :: w :: (M ++ [u])) a → a ≠ x → t = s := fun a ha ea hax => by
      have m1 : a ∈ (ring (x :: w :: (M ++ [u]))).map Prod.fst := by rw [ring_fst]; exact ha
      obtain ⟨e, he, rfl⟩ := List.mem_map.1 m1
      obtain ⟨f, hf, hfe⟩ := tot_snd' (x :: w :: (M ++ [u])) e.1 ha
      have k1 := c f.1 e.1 e.2 (by rw [← hfe]; exact hf) he ea hax
      have k2 := hR.2.2 f.1 e.1 e.2 (by rw [← hfe]; exact hf) he ea
      exact sign_eq hR.1 t0 k2 k1
    by_cases hax : a = x
    · exact key b hb eb (fun q => hab (hax.trans q.symm))
    · exact key a ha ea hax
  subst this
  exact ⟨SR, ht⟩
/-- There is an ear, whatever the sign. -/
theorem ear_any {P : List Pt} (h : Simp P) {s : Int} (hR : Res P s) : ∃ u y w, (u, y) ∈ ring P ∧ (y, w) ∈ ring P ∧ 0 < s * turn u y w ∧ ∀ z ∈ P, 0 ≤ s * turn u y z → 0 ≤ s * turn y w z → 0 ≤ s * turn w u z → z = u ∨ z = y ∨ z = w := by
  have one : ∀ P : List Pt, Simp P → Res P 1 → ∃ y, Ear P y := fun P h hR => by
    have hl := h.len
    match P, hl, h, hR with
    | a :: t, _, h, hR =>
      have : a ∈ (ring (a :: t)).map Prod.fst := by rw [ring_fst]; exact List.mem_cons_self
      obtain ⟨e, he, -⟩ := List.mem_map.1 this
      obtain ⟨y, -, -, hy⟩ := ear_ex _ _ rfl h hR e he
      exact ⟨y, hy⟩
  have hs := hR.1
  rcases hs with rfl | rfl
  · obtain ⟨y, u, w, h1, h2, h3, h4⟩ := one P h hR
    exact ⟨u, y, w, h1, h2, by omega, fun z hz k1 k2 k3 => h4 z hz (by omega) (by omega) (by omega)⟩
  · obtain ⟨y, u, w, h1, h2, h3, h4⟩ := one P.reverse (simp_rev h) (res_rev h hR)
    have hm : ∀ e : Edge, e ∈ ring P.reverse → e.swap ∈ ring P := fun e he => by
      have := (ring_rev P).mem_iff.1 he
      rw [List.mem_map] at this
      obtain ⟨f, hf, rfl⟩ := this
      simpa using hf
    have r : ∀ a b c : Pt, turn a b c = - turn b a c := fun a b c => turn_neg b a c
    refine ⟨w, y, u, hm _ h2, hm _ h1, ?_, fun z hz k1 k2 k3 => ?_⟩
    · have := turn_rev u y w
      omega
    · have j1 := r w y z
      have j2 := r y u z
      have j3 := r u w z
      rcases h4 z (List.mem_reverse.2 hz) (by omega) (by omega) (by omega) with q | q | q
      · exact .inr (.inr q)
      · exact .inr (.inl q)
      · exact .inl q
end Go.Proofs.Ytijpolfmiajenaa
