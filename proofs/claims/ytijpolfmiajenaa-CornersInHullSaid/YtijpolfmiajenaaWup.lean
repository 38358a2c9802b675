/- The winding of a simple polygon that goes around to the left is 0 or 1 at every point; around to the right 0 or -1. -/
import Derived.Test.YtijpolfmiajenaaWbx
namespace Go.Proofs.Ytijpolfmiajenaa

def neg (v : Pt) : Pt := (-v.1, -v.2)
theorem neg_neg (v : Pt) : neg (neg v) = v := by simp [neg]
theorem turn_negs (a b v : Pt) : turn (neg a) (neg b) (neg v) = turn a b v := by simp only [turn, neg]; grind
theorem within_neg (n l h : Int) : within (-n) (-h) (-l) = within n l h := by
  rw [Bool.eq_iff_iff]
  simp only [within, Bool.and_eq_true, decide_eq_true_eq]
  omega
theorem has_negs (a b v : Pt) : has (neg a) (neg b) (neg v) = has a b v := by
  unfold has
  rw [turn_negs]
  have e1 : ∀ n m : Int, min (-n) (-m) = - max n m := fun n m => by omega
  have e2 : ∀ n m : Int, max (-n) (-m) = - min n m := fun n m => by omega
  show (turn a b v == 0 && within (-v.1) (min (-a.1) (-b.1)) (max (-a.1) (-b.1)) && within (-v.2) (min (-a.2) (-b.2)) (max (-a.2) (-b.2))) = _
  rw [e1, e2, e1, e2, within_neg, within_neg]
theorem crs2_negs (a b c d : Pt) : crs2 (neg a) (neg b) (neg c) (neg d) ↔ crs2 a b c d := by
  unfold crs2
  rw [turn_negs, turn_negs, turn_negs, turn_negs]
theorem Tri.negs {s : Int} {P : List Pt} (h : Tri s P) : Tri s (P.map neg) := by
  induction h with
  | tri a b c hp => exact .tri _ _ _ (by rw [turn_negs]; exact hp)
  | cut x A z B hne h1 h2 ih1 ih2 =>
    simp only [List.map_cons, List.map_append] at ih1 ih2 ⊢
    exact .cut _ _ _ _ (fun e => hne (by rw [← neg_neg x, e, neg_neg])) ih1 ih2
  | rot A B h ih =>
    rw [List.map_append] at ih ⊢
    exact .rot _ _ ih
theorem chain_negs : ∀ (x : Pt) (l : List Pt), chain (neg x) (l.map neg) = (chain x l).map fun e => (neg e.1, neg e.2)
  | _, [] => rfl
  | x, y :: t => by rw [List.map_cons, chain, chain, List.map_cons, chain_negs y t]
theorem InBox.negs {N : Int} {x z : Pt} {V : List Pt} {E : List Edge} (B : InBox N x z V E) : InBox N (neg z) (neg x) (V.map neg) (E.map fun e => (neg e.1, neg e.2)) := by
  have hm : ∀ v ∈ V.map neg, neg v ∈ V := fun v hv => by
    obtain ⟨u, hu, rfl⟩ := List.mem_map.1 hv
    rwa [neg_neg]
  refine ⟨⟨fun e he v hv hh => ?_, fun e he f hf hc => ?_, fun e he => ?_⟩, fun v hv => ?_, List.mem_map_of_mem B.hz, List.mem_map_of_mem B.hx, fun v hv hne => ?_, fun v hv hne => ?_⟩
  · obtain ⟨e0, he0, rfl⟩ := List.mem_map.1 he
    obtain ⟨u, hu, rfl⟩ := List.mem_map.1 hv
    simp only at hh ⊢
    rw [has_negs] at hh
    rcases B.good.vert e0 he0 u hu hh with rfl | rfl
    · exact .inl rfl
    · exact .inr rfl
  · obtain ⟨e0, he0, rfl⟩ := List.mem_map.1 he
    obtain ⟨f0, hf0, rfl⟩ := List.mem_map.1 hf
    exact B.good.nocross e0 he0 f0 hf0 ((crs2_negs _ _ _ _).1 hc)
  · obtain ⟨e0, he0, rfl⟩ := List.mem_map.1 he
    exact ⟨List.mem_map_of_mem (B.good.ends e0 he0).1, List.mem_map_of_mem (B.good.ends e0 he0).2⟩
  · have := B.bd _ (hm v hv)
    simp only [neg] at this
    omega
  · have := B.hi _ (hm v hv) (fun e => hne (by rw [← e, neg_neg]))
    simp only [neg] at this ⊢
    omega
  · have := B.lo _ (hm v hv) (fun e => hne (by rw [← e, neg_neg]))
    simp only [neg] at this ⊢
    omega
theorem adj_negs {E : List Edge} {p q : Pt} (h : adj E p q) : adj (E.map fun e => (neg e.1, neg e.2)) (neg p) (neg q) := by
  rcases h with h | h
  · exact .inl (List.mem_map.2 ⟨_, h, rfl⟩)
  · exact .inr (List.mem_map.2 ⟨_, h, rfl⟩)
/-- The other half of the box. -/
def hlg (N : Int) (x z : Pt) (D : List Pt) : List Pt := (N, z.2) :: (N, N) :: (-N, N) :: (-N, x.2) :: x :: (D ++ [z])
theorem hlg_ring (N : Int) (x z : Pt) (D : List Pt) : ring (hlg N x z D) = ((N, z.2), (N, N)) :: ((N, N), (-N, N)) :: ((-N, N), (-N, x.2)) :: ((-N, x.2), x) :: (chain x (D ++ [z]) ++ [(z, (N, z.2))]) := by
  unfold hlg
  rw [ring_cons]
  simp only [List.cons_append, chain]
  rw [show D ++ [z] ++ [(N, z.2)] = D ++ z :: [(N, z.2)] by simp, chain_cut]
  rfl
theorem hlg_tri {N : Int} {x z : Pt} {V : List Pt} {E : List Edge} (B : InBox N x z V E) {D : List Pt} (hn : (x :: (D ++ [z])).Nodup) (hV : ∀ v ∈ D, v ∈ V) (hE : ∀ e ∈ chain x (D ++ [z]), adj E e.1 e.2) : Tri 1 (hlg N x z D) := by
  have h := (hlf_tri B.negs (D := D.map neg) (by
    have h1 : (neg x :: (D.map neg ++ [neg z])) = (x :: (D ++ [z])).map neg := by simp
    rw [h1]
    refine List.Pairwise.map _ (fun a b hab e => hab (by rw [← neg_neg a, e, neg_neg])) hn) (fun v hv => by
      obtain ⟨u, hu, rfl⟩ := List.mem_map.1 hv
      exact List.mem_map_of_mem (hV u hu)) (fun e he => by
      have h1 : D.map neg ++ [neg z] = (D ++ [z]).map neg := by simp
      rw [h1, chain_negs] at he
      obtain ⟨e0, he0, rfl⟩ := List.mem_map.1 he
      exact adj_negs (hE e0 he0))).negs
  have e : (hlf N (neg z) (neg x) (D.map neg)).map neg = hlg N x z D := by
    unfold hlf hlg
    simp [neg, Function.comp_def]
  rwa [e] at h
theorem tot_chain_rev (p x y : Pt) (t : List Pt) : tot (fun a b => cp a b p) (chain y (t.reverse ++ [x])) = - tot (fun a b => cp a b p) (chain x (t ++ [y])) := by
  rw [← chain_rev x t y, tot_perm _ (List.reverse_perm _), tot_swap, ← tot_neg]
  exact tot_congr _ fun a b => cp_anti a b p
/-- In a box. -/
theorem wnd_le_of {N : Int} {x z : Pt} {C1 C2 : List Pt} (h : Simp (x :: (C1 ++ z :: C2))) (B : InBox N x z (x :: (C1 ++ z :: C2)) (ring (x :: (C1 ++ z :: C2)))) (p : Pt) : wnd (x :: (C1 ++ z :: C2)) p ≤ 1 := by
  have er : ring (x :: (C1 ++ z :: C2)) = chain x (C1 ++ [z]) ++ chain z (C2 ++ [x]) := by
    rw [ring_cons, show C1 ++ z :: C2 ++ [x] = C1 ++ z :: (C2 ++ [x]) by simp, chain_cut]
  have hnd := h.nodup
  have hadj : ∀ (u v : Pt) (t : List Pt), (∀ e ∈ chain u (t ++ [v]), e ∈ ring (x :: (C1 ++ z :: C2))) → ∀ e ∈ chain v (t.reverse ++ [u]), adj (ring (x :: (C1 ++ z :: C2))) e.1 e.2 := fun u v t ht e he => by
    rw [← chain_rev u t v, List.mem_reverse, List.mem_map] at he
    obtain ⟨e0, he0, rfl⟩ := he
    exact .inr (ht e0 he0)
  have n1 : (z :: (C1.reverse ++ [x])).Nodup := by
    have h1 : (x :: (C1 ++ [z])).Nodup := hnd.sublist (by simp)
    have h2 : z :: (C1.reverse ++ [x]) = (x :: (C1 ++ [z])).reverse := by simp
    rw [h2]
    exact (List.reverse_perm _).nodup_iff.2 h1
  have n2 : (x :: (C2.reverse ++ [z])).Nodup := by
    have h1 : (x :: z :: C2).Nodup := hnd.sublist (by simp)
    have h3 : (x :: (C2.reverse ++ [z])).Perm (x :: z :: C2) := by
      refine List.Perm.cons _ ?_
      have : C2.reverse ++ [z] = (z :: C2).reverse := by simp
      rw [this]
      exact List.reverse_perm _
    exact h3.nodup_iff.2 h1
  have t1 := wnd_pos (hlf_tri B (D := C1.reverse) n1 (fun v hv => by simp at hv ⊢; simp [hv]) (hadj x z C1 fun e he => by rw [er]; exact List.mem_append_left _ he)) p
  have t2 := wnd_pos (hlg_tri B (D := C2.reverse) n2 (fun v hv => by simp at hv ⊢; simp [hv]) (hadj z x C2 fun e he => by rw [er]; exact List.mem_append_right _ he)) p
  unfold wnd at t1 t2 ⊢
  rw [hlf_ring] at t1
  rw [hlg_ring] at t2
  rw [er]
  simp only [tot, tot_append] at t1 t2 ⊢
  rw [tot_chain_rev] at t1 t2
  have bx := B.bd x B.hx
  have bz := B.bd z B.hz
  have c1 := cp_anti x (-N, x.2) p
  have c2 := cp_anti z (N, z.2) p
  have f1 := cp_flat (a := (-N, -N)) (b := (N, -N)) (p := p) rfl
  have f2 := cp_flat (a := (N, N)) (b := (-N, N)) (p := p) rfl
  have d1 : cp (-N, x.2) (-N, -N) p ≤ 0 := by
    rcases cp_cases (-N, x.2) (-N, -N) p with k | k | k <;> (try simp only at k) <;> omega
  have d2 : cp (-N, N) (-N, x.2) p ≤ 0 := by
    rcases cp_cases (-N, N) (-N, x.2) p with k | k | k <;> (try simp only at k) <;> omega
  have d3 : cp (N, -N) (N, z.2) p + cp (N, z.2) (N, N) p ≤ 1 := by
    rcases cp_cases (N, -N) (N, z.2) p with k | k | k <;> rcases cp_cases (N, z.2) (N, N) p with k' | k' | k' <;> (try simp only at k) <;> (try simp only at k') <;> omega
  omega
def lx (u v : Pt) : Prop := u.1 < v.1 ∨ (u.1 = v.1 ∧ u.2 < v.2)
theorem lx_tri (u v : Pt) : lx u v ∨ u = v ∨ lx v u := by
  unfold lx
  rcases Int.lt_trichotomy u.1 v.1 with h | h | h
  · exact .inl (.inl h)
  · rcases Int.lt_trichotomy u.2 v.2 with k | k | k
    · exact .inl (.inr ⟨h, k⟩)
    · exact .inr (.inl (Prod.ext h k))
    · exact .inr (.inr (.inr ⟨h.symm, k⟩))
  · exact .inr (.inr (.inl h))
theorem lx_trans {u v w : Pt} (h : lx u v) (k : lx v w) : lx u w := by unfold lx at *; omega
theorem exists_lo : ∀ l : List Pt, l ≠ [] → ∃ x ∈ l, ∀ v ∈ l, v ≠ x → lx x v
  | [], h => absurd rfl h
  | [a], _ => ⟨a, by simp, fun v hv hne => absurd (by simpa using hv) hne⟩
  | a :: b :: t, _ => by
    obtain ⟨x, hx, h⟩ := exists_lo (b :: t) (by simp)
    rcases lx_tri a x with k | k | k
    · refine ⟨a, by simp, fun v hv hne => ?_⟩
      rcases List.mem_cons.1 hv with rfl | hv
      · exact absurd rfl hne
      · by_cases e : v = x
        · rw [e]; exact k
        · exact lx_trans k (h v hv e)
    · refine ⟨x, List.mem_cons_of_mem _ hx, fun v hv hne => ?_⟩
      rcases List.mem_cons.1 hv with rfl | hv
      · exact absurd k hne
      · exact h v hv hne
    · refine ⟨x, List.mem_cons_of_mem _ hx, fun v hv hne => ?_⟩
      rcases List.mem_cons.1 hv with rfl | hv
      · exact k
      · exact h v hv hne
theorem exists_hi (l : List Pt) (hl : l ≠ []) : ∃ z ∈ l, ∀ v ∈ l, v ≠ z → lx v z := by
  obtain ⟨x, hx, h⟩ := exists_lo (l.map neg) (by simpa using hl)
  obtain ⟨z, hz, rfl⟩ := List.mem_map.1 hx
  refine ⟨z, hz, fun v hv hne => ?_⟩
  have := h _ (List.mem_map_of_mem hv) (fun e => hne (by rw [← neg_neg v, e, neg_neg]))
  simp only [lx, neg] at this ⊢
  omega
/-- The winding of a simple polygon is at most 1. -/
theorem wnd_le {P : List Pt} (h : Simp P) (p : Pt) : wnd P p ≤ 1 := by
  have hne : P ≠ [] := fun e => by have := h.len; rw [e] at this; simp at this
  obtain ⟨x, hx, lo⟩ := exists_lo P hne
  obtain ⟨z, hz, hi⟩ := exists_hi P hne
  obtain ⟨B, hB0, hB⟩ := exists_bound P
  have hxz : x ≠ z := by
    rintro rfl
    have h3 := h.len
    have hnd := h.nodup
    match P, h3, hnd, lo, hi with
    | a :: b :: t, _, hnd, lo, hi =>
      have hab : a ≠ b := fun e => by rw [e] at hnd; simp at hnd
      by_cases e : a = x
      · have k1 := lo b (by simp) (fun e2 => hab (by rw [e, e2]))
        have k2 := hi b (by simp) (fun e2 => hab (by rw [e, e2]))
        unfold lx at k1 k2
        omega
      · have k1 := lo a (by simp) e
        have k2 := hi a (by simp) e
        unfold lx at k1 k2
        omega
  obtain ⟨w, M, u, A, C, rfl, hBA⟩ := rotate_to h.len hx
  have hQ := h.rot
  have hr := ring_rot A C
  have hmem : ∀ v, v ∈ C ++ A ↔ v ∈ A ++ C := fun v => by simp only [List.mem_append]; exact Or.comm
  have ew : wnd (A ++ C) p = wnd (C ++ A) p := tot_perm _ hr
  rw [ew]
  have hz2 : z ∈ w :: (M ++ [u]) := by
    have := (hmem z).2 hz
    rw [hBA] at this
    rcases List.mem_cons.1 this with e | e
    · exact absurd e.symm hxz
    · exact e
  obtain ⟨C1, C2, e2⟩ := List.append_of_mem hz2
  rw [e2] at hBA
  have ib : InBox (B + 1) x z (C ++ A) (ring (C ++ A)) := by
    refine ⟨hQ.good, fun v hv => ?_, (hmem x).2 hx, (hmem z).2 hz, fun v hv hne => lo v ((hmem v).1 hv) hne, fun v hv hne => hi v ((hmem v).1 hv) hne⟩
    have := hB v ((hmem v).1 hv)
    omega
  rw [hBA] at hQ ib ⊢
  exact wnd_le_of hQ ib p
/-- The winding of a simple polygon that goes around to the left is 0 or 1, of one that goes around to the right 0 or -1. -/
theorem wnd_of {P : List Pt} {s : Int} (h : Simp P) (hs : s = 1 ∨ s = -1) (ht : Tri s P) (p : Pt) : 0 ≤ s * wnd P p ∧ s * wnd P p ≤ 1 := by
  rcases hs with rfl | rfl
  · have k1 := wnd_pos ht p
    have k2 := wnd_le h p
    omega
  · have k2 := wnd_le (simp_rev h) p
    rw [wnd_rev] at k2
    have k1 := ht.nn (g := fun a b => - cp a b p) (fun a b => by rw [cp_anti a b p]) fun a b c hp => by
      have h1 : 0 < turn a c b := by
        have e : turn a c b = - turn a b c := by simp only [turn]; grind
        omega
      have h2 := cp_tri h1 p
      have e1 := cp_anti a b p
      have e2 := cp_anti b c p
      have e3 := cp_anti c a p
      omega
    have e : tot (fun a b => - cp a b p) (ring P) = - wnd P p := tot_neg _ _
    rw [e] at k1
    omega
end Go.Proofs.Ytijpolfmiajenaa
