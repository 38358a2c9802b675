/- The windings at the corners of a simple polygon: together, above and below, as many as it has corners, less 2. -/
import Derived.Test.YtijpolfmiajenaaWsd
namespace Go.Proofs.Ytijpolfmiajenaa

def sm (f : Pt → Int) : List Pt → Int
  | [] => 0
  | v :: l => f v + sm f l
theorem sm_append (f : Pt → Int) : ∀ l m : List Pt, sm f (l ++ m) = sm f l + sm f m
  | [], m => by simp [sm]
  | v :: l, m => by rw [List.cons_append, sm, sm, sm_append f l m]; omega
theorem sm_perm (f : Pt → Int) {l m : List Pt} (h : l.Perm m) : sm f l = sm f m := by
  induction h with
  | nil => rfl
  | cons x _ ih => simp only [sm, ih]
  | swap x y _ => simp only [sm]; omega
  | trans _ _ h1 h2 => exact h1.trans h2
theorem sm_add (f g : Pt → Int) : ∀ l : List Pt, sm (fun v => f v + g v) l = sm f l + sm g l
  | [] => rfl
  | v :: l => by rw [sm, sm, sm, sm_add f g l]; omega
theorem sm_nn {f : Pt → Int} : ∀ l : List Pt, (∀ v ∈ l, 0 ≤ f v) → 0 ≤ sm f l
  | [], _ => Int.le_refl 0
  | v :: l, h => by
    have h1 := h v List.mem_cons_self
    have h2 := sm_nn l fun w hw => h w (List.mem_cons_of_mem _ hw)
    rw [sm]
    omega
theorem sm_congr {f g : Pt → Int} : ∀ l : List Pt, (∀ v ∈ l, f v = g v) → sm f l = sm g l
  | [], _ => rfl
  | v :: l, h => by rw [sm, sm, h v List.mem_cons_self, sm_congr l fun w hw => h w (List.mem_cons_of_mem _ hw)]
/-- Both windings together. -/
def wkk (P : List Pt) (v : Pt) : Int := wnd P v + wndm P v
theorem wkk_nn {P : List Pt} (h : Tri 1 P) (v : Pt) : 0 ≤ wkk P v := by
  have h1 := wnd_pos h v
  have h2 := wnd_pos h.negs (neg v)
  unfold wkk wndm
  omega
theorem wkk_cut (x : Pt) (A : List Pt) (z : Pt) (B : List Pt) (v : Pt) : wkk (x :: (A ++ z :: B)) v = wkk (x :: (A ++ [z])) v + wkk (x :: z :: B) v := by
  have h1 := ring_split (fun a b => cp a b v) x A z B
  have h2 := ring_split (fun a b => cmn a b v) x A z B
  have h3 := cp_anti x z v
  have h4 := cmn_anti x z v
  unfold wkk
  rw [wndm_tot, wndm_tot, wndm_tot]
  unfold wnd
  omega
theorem wkk_perm {P Q : List Pt} (h : (ring P).Perm (ring Q)) (v : Pt) : wkk P v = wkk Q v := by
  unfold wkk
  rw [wndm_tot, wndm_tot]
  unfold wnd
  rw [tot_perm _ h, tot_perm _ h]
/-- At the middle corner of a triangle one winding is 1. -/
theorem tri_mid {a b c : Pt} (h : 0 < turn a b c) (hm : (lwB a b = true ∧ lwB b c = true) ∨ (lwB c b = true ∧ lwB b a = true)) : 1 ≤ wkk [a, b, c] b := by
  have hd := wnd_diff [a, b, c] b
  have hp := wnd_pos (Tri.tri (s := 1) a b c (by omega)) b
  have hq := wnd_pos (Tri.tri (s := 1) a b c (by omega)).negs (neg b)
  have e : tot (fun u v => dl u v b) (ring [a, b, c]) = dl a b b + (dl b c b + (dl c a b + 0)) := rfl
  have e0 : dl c a b = 0 := by
    unfold dl
    have : has c a b ≠ true := fun k => by
      have k1 := has_turn k
      have k2 : turn c a b = turn a b c := (turn_rot b c a).trans (turn_rot a b c)
      omega
    rw [if_neg this]
  rw [e, e0] at hd
  have asym : ∀ u v : Pt, lwB u v = true → lwB v u = false ∧ u ≠ v := fun u v k => by
    have l1 := (lwB_iff u v).1 k
    constructor
    · cases q : lwB v u
      · rfl
      · have l2 := (lwB_iff v u).1 q
        omega
    · intro e
      rw [e] at l1
      omega
  unfold wkk wndm at *
  rcases hm with ⟨m1, m2⟩ | ⟨m1, m2⟩
  · obtain ⟨n1, n2⟩ := asym _ _ m1
    obtain ⟨n3, n4⟩ := asym _ _ m2
    have d1 : dl a b b = -1 := by
      unfold dl
      rw [if_pos (has_right a b), if_pos m1, if_neg (Ne.symm n2)]
    have d2 : dl b c b = 0 := by
      unfold dl
      rw [if_pos (has_left b c), if_pos m2, if_pos rfl]
    omega
  · obtain ⟨n1, n2⟩ := asym _ _ m1
    obtain ⟨n3, n4⟩ := asym _ _ m2
    have d1 : dl a b b = 0 := by
      unfold dl
      rw [if_pos (has_right a b), n3, if_neg (by decide), if_pos m2, if_pos rfl]
    have d2 : dl b c b = 1 := by
      unfold dl
      rw [if_pos (has_left b c), n1, if_neg (by decide), if_pos m1, if_neg n2.symm]
    omega
theorem lw_tri (a b : Pt) (h : a ≠ b) : lwB a b = true ∨ lwB b a = true := by
  rw [lwB_iff, lwB_iff]
  have : ¬ (a.1 = b.1 ∧ a.2 = b.2) := fun k => h (Prod.ext k.1 k.2)
  omega
theorem wkk_tri {a b c : Pt} (h : 0 < turn a b c) : 1 ≤ sm (wkk [a, b, c]) [a, b, c] := by
  have hT : Tri 1 [a, b, c] := .tri a b c (by omega)
  have na := wkk_nn hT a
  have nb := wkk_nn hT b
  have nc := wkk_nn hT c
  have hab : a ≠ b := fun e => by rw [e, turn_aab] at h; omega
  have hbc : b ≠ c := fun e => by rw [e, turn_abb] at h; omega
  have hac : a ≠ c := fun e => by rw [e, turn_aba] at h; omega
  have r1 : ∀ v, wkk [b, c, a] v = wkk [a, b, c] v := fun v => wkk_perm (ring_rot [b, c] [a]) v
  have r2 : ∀ v, wkk [c, a, b] v = wkk [a, b, c] v := fun v => wkk_perm (ring_rot [c] [a, b]) v
  have h1 : 0 < turn b c a := by rw [turn_rot]; exact h
  have h2 : 0 < turn c a b := by rw [turn_rot, turn_rot]; exact h
  simp only [sm]
  rcases lw_tri a b hab with p | p <;> rcases lw_tri b c hbc with q | q <;> rcases lw_tri a c hac with r | r
  · have := tri_mid h (.inl ⟨p, q⟩); omega
  · have := tri_mid h (.inl ⟨p, q⟩); omega
  · have := tri_mid h1 (.inr ⟨r, q⟩); rw [r1] at this; omega
  · have := tri_mid h2 (.inl ⟨r, p⟩); rw [r2] at this; omega
  · have := tri_mid h2 (.inr ⟨p, r⟩); rw [r2] at this; omega
  · have := tri_mid h1 (.inl ⟨q, r⟩); rw [r1] at this; omega
  · have := tri_mid h (.inr ⟨q, p⟩); omega
  · have := tri_mid h (.inr ⟨q, p⟩); omega
/-- At least as many as corners, less 2. -/
theorem wkk_ge {P : List Pt} (h : Tri 1 P) : (P.length : Int) - 2 ≤ sm (wkk P) P := by
  generalize hs : (1 : Int) = s at h
  induction h with
  | tri a b c hp =>
    subst hs
    have := wkk_tri (a := a) (b := b) (c := c) (by omega)
    simp only [List.length_cons, List.length_nil]
    omega
  | cut x A z B hne h1 h2 ih1 ih2 =>
    subst hs
    have e : sm (wkk (x :: (A ++ z :: B))) (x :: (A ++ z :: B)) = sm (wkk (x :: (A ++ [z]))) (x :: (A ++ z :: B)) + sm (wkk (x :: z :: B)) (x :: (A ++ z :: B)) := by
      rw [← sm_add]
      exact sm_congr _ fun v _ => wkk_cut x A z B v
    have s1 : sm (wkk (x :: (A ++ [z]))) (x :: (A ++ z :: B)) = sm (wkk (x :: (A ++ [z]))) (x :: (A ++ [z])) + sm (wkk (x :: (A ++ [z]))) B := by
      rw [← sm_append]
      simp
    have s2 : sm (wkk (x :: z :: B)) (x :: (A ++ z :: B)) = sm (wkk (x :: z :: B)) (x :: z :: B) + sm (wkk (x :: z :: B)) A := by
      rw [← sm_append]
      refine sm_perm _ ?_
      refine List.Perm.cons _ ?_
      exact List.perm_append_comm
    have n1 := sm_nn B fun v _ => wkk_nn h1 v
    have n2 := sm_nn A fun v _ => wkk_nn h2 v
    simp only [List.length_cons, List.length_append, List.length_nil] at ih1 ih2 ⊢
    omega
  | rot A B h ih =>
    rw [sm_perm _ (List.perm_append_comm (l₁ := B) (l₂ := A)), sm_congr _ fun v _ => wkk_perm (ring_rot B A) v]
    simp only [List.length_append] at ih ⊢
    omega
theorem cmn_cases (a b p : Pt) : (cmn a b p = -1 ∧ a.2 < p.2 ∧ p.2 ≤ b.2 ∧ turn a b p < 0) ∨ (cmn a b p = 1 ∧ b.2 < p.2 ∧ p.2 ≤ a.2 ∧ 0 < turn a b p) ∨ cmn a b p = 0 := by
  rcases Int.lt_trichotomy a.2 b.2 with h | h | h
  · rw [cmn_up h]
    split
    · rename_i k
      exact .inl ⟨rfl, k⟩
    · exact .inr (.inr rfl)
  · exact .inr (.inr (cmn_flat h))
  · have e := cmn_anti b a p
    rw [cmn_up h] at e
    revert e
    split
    · rename_i k
      intro e
      rw [turn_neg b a p]
      exact .inr (.inl ⟨by omega, k.1, k.2.1, by omega⟩)
    · intro e
      exact .inr (.inr (by omega))
/-- The six sides of the box. -/
def boxs (g : Pt → Pt → Int) (N : Int) (x z : Pt) : Int := g (-N, x.2) (-N, -N) + g (-N, -N) (N, -N) + g (N, -N) (N, z.2) + g (N, z.2) (N, N) + g (N, N) (-N, N) + g (-N, N) (-N, x.2)
theorem tot_crev {g : Pt → Pt → Int} (hg : ∀ a b, g b a = - g a b) (x y : Pt) (t : List Pt) : tot g (chain y (t.reverse ++ [x])) = - tot g (chain x (t ++ [y])) := by
  rw [← chain_rev x t y, tot_perm _ (List.reverse_perm _), tot_swap, ← tot_neg]
  exact tot_congr _ fun a b => hg a b
theorem tot_box {g : Pt → Pt → Int} (hg : ∀ a b, g b a = - g a b) (N : Int) (x z : Pt) (C1 C2 : List Pt) :
    tot g (ring (x :: (C1 ++ z :: C2))) + tot g (ring (hlf N x z C1.reverse)) + tot g (ring (hlg N x z C2.reverse)) = boxs g N x z := by
  have er : ring (x :: (C1 ++ z :: C2)) = chain x (C1 ++ [z]) ++ chain z (C2 ++ [x]) := by
    rw [ring_cons, show C1 ++ z :: C2 ++ [x] = C1 ++ z :: (C2 ++ [x]) by simp, chain_cut]
  rw [er, hlf_ring, hlg_ring]
  simp only [tot, tot_append]
  rw [tot_crev hg, tot_crev hg]
  have c1 := hg x (-N, x.2)
  have c2 := hg z (N, z.2)
  unfold boxs
  omega
theorem wkk_box (N : Int) (x z : Pt) (C1 C2 : List Pt) (v : Pt) :
    wkk (x :: (C1 ++ z :: C2)) v + wkk (hlf N x z C1.reverse) v + wkk (hlg N x z C2.reverse) v = boxs (fun a b => cp a b v) N x z + boxs (fun a b => cmn a b v) N x z := by
  have h1 := tot_box (g := fun a b => cp a b v) (fun a b => cp_anti a b v) N x z C1 C2
  have h2 := tot_box (g := fun a b => cmn a b v) (fun a b => cmn_anti a b v) N x z C1 C2
  unfold wkk
  rw [wndm_tot, wndm_tot, wndm_tot]
  unfold wnd
  omega
section
variable {N : Int} {x z : Pt} (hN : 0 < N) (bx : -N < x.2 ∧ x.2 < N) (bz : -N < z.2 ∧ z.2 < N)
include hN bx bz
theorem boxp (v : Pt) : boxs (fun a b => cp a b v) N x z ≤ (if -N ≤ v.2 ∧ v.2 < N ∧ 0 < turn (N, -N) (N, N) v then 1 else 0) := by
  have e : ∀ y1 y2 : Int, turn (N, y1) (N, y2) v = (y2 - y1) * (N - v.1) := fun y1 y2 => by simp only [turn]; grind
  have f1 := cp_flat (a := (-N, -N)) (b := (N, -N)) (p := v) rfl
  have f2 := cp_flat (a := (N, N)) (b := (-N, N)) (p := v) rfl
  have d1 : cp (-N, x.2) (-N, -N) v ≤ 0 := by
    rcases cp_cases (-N, x.2) (-N, -N) v with k | k | k <;> (try simp only at k) <;> omega
  have d2 : cp (-N, N) (-N, x.2) v ≤ 0 := by
    rcases cp_cases (-N, N) (-N, x.2) v with k | k | k <;> (try simp only at k) <;> omega
  have pos : ∀ y1 y2 : Int, y1 < y2 → 0 < turn (N, y1) (N, y2) v → 0 < turn (N, -N) (N, N) v := fun y1 y2 hy hp => by
    rw [e] at hp ⊢
    have := pos_of_mul (show 0 < y2 - y1 by omega) hp
    exact Int.mul_pos (by omega) this
  have d3 : cp (N, -N) (N, z.2) v + cp (N, z.2) (N, N) v ≤ (if -N ≤ v.2 ∧ v.2 < N ∧ 0 < turn (N, -N) (N, N) v then 1 else 0) := by
    rcases cp_cases (N, -N) (N, z.2) v with k | k | k <;> rcases cp_cases (N, z.2) (N, N) v with k' | k' | k' <;> (try simp only at k) <;> (try simp only at k')
    · omega
    · omega
    · rw [if_pos ⟨by omega, by omega, pos _ _ (by omega) k.2.2.2⟩]; omega
    · omega
    · omega
    · omega
    · rw [if_pos ⟨by omega, by omega, pos _ _ (by omega) k'.2.2.2⟩]; omega
    · split <;> omega
    · split <;> omega
  simp only [boxs]
  omega
theorem boxm (v : Pt) : boxs (fun a b => cmn a b v) N x z ≤ (if -N < v.2 ∧ v.2 ≤ N ∧ 0 < turn (-N, N) (-N, -N) v then 1 else 0) := by
  have e : ∀ y1 y2 : Int, turn (-N, y1) (-N, y2) v = (y1 - y2) * (v.1 + N) := fun y1 y2 => by simp only [turn]; grind
  have f1 := cmn_flat (a := (-N, -N)) (b := (N, -N)) (p := v) rfl
  have f2 := cmn_flat (a := (N, N)) (b := (-N, N)) (p := v) rfl
  have d1 : cmn (N, -N) (N, z.2) v ≤ 0 := by
    rcases cmn_cases (N, -N) (N, z.2) v with k | k | k <;> (try simp only at k) <;> omega
  have d2 : cmn (N, z.2) (N, N) v ≤ 0 := by
    rcases cmn_cases (N, z.2) (N, N) v with k | k | k <;> (try simp only at k) <;> omega
  have pos : ∀ y1 y2 : Int, y2 < y1 → 0 < turn (-N, y1) (-N, y2) v → 0 < turn (-N, N) (-N, -N) v := fun y1 y2 hy hp => by
    rw [e] at hp ⊢
    have := pos_of_mul (show 0 < y1 - y2 by omega) hp
    exact Int.mul_pos (by omega) this
  have d3 : cmn (-N, x.2) (-N, -N) v + cmn (-N, N) (-N, x.2) v ≤ (if -N < v.2 ∧ v.2 ≤ N ∧ 0 < turn (-N, N) (-N, -N) v then 1 else 0) := by
    rcases cmn_cases (-N, x.2) (-N, -N) v with k | k | k <;> rcases cmn_cases (-N, N) (-N, x.2) v with k' | k' | k' <;> (try simp only at k) <;> (try simp only at k')
    · split <;> omega
    · rw [if_pos ⟨by omega, by omega, pos _ _ (by omega) k'.2.2.2⟩]; omega
    · split <;> omega
    · rw [if_pos ⟨by omega, by omega, pos _ _ (by omega) k.2.2.2⟩]; omega
    · omega
    · rw [if_pos ⟨by omega, by omega, pos _ _ (by omega) k.2.2.2⟩]; omega
    · split <;> omega
    · rw [if_pos ⟨by omega, by omega, pos _ _ (by omega) k'.2.2.2⟩]; omega
    · split <;> omega
  simp only [boxs]
  omega
end
/-- At most as many as corners, less 2: in a box. -/
theorem wkk_le_of {N : Int} {x z : Pt} {C1 C2 : List Pt} (h : Simp (x :: (C1 ++ z :: C2))) (ht : Tri 1 (x :: (C1 ++ z :: C2))) (B : InBox N x z (x :: (C1 ++ z :: C2)) (ring (x :: (C1 ++ z :: C2)))) : sm (wkk (x :: (C1 ++ z :: C2))) (x :: (C1 ++ z :: C2)) ≤ ((x :: (C1 ++ z :: C2)).length : Int) - 2 := by
  have er : ring (x :: (C1 ++ z :: C2)) = chain x (C1 ++ [z]) ++ chain z (C2 ++ [x]) := by
    rw [ring_cons, show C1 ++ z :: C2 ++ [x] = C1 ++ z :: (C2 ++ [x]) by simp, chain_cut]
  have hnd := h.nodup
  have hadj : ∀ (u v : Pt) (t : List Pt), (∀ e ∈ chain u (t ++ [v]), e ∈ ring (x :: (C1 ++ z :: C2))) → ∀ e ∈ chain v (t.reverse ++ [u]), adj (ring (x :: (C1 ++ z :: C2))) e.1 e.2 := fun u v t ht e he => by
    rw [← chain_rev u t v, List.mem_reverse, List.mem_map] at he
    obtain ⟨e0, he0, rfl⟩ := he
    exact .inr (ht e0 he0)
  have n1 : (z :: (C1.reverse ++ [x])).Nodup := by
    have h1 : (x :: (C1 ++ [z])).Nodup := hnd.sublist (by simp)
    have h2 : z :: (C1.reverse ++ [x]) = (x :: (C1 ++ [z])).reverse := by simp
    rw [h2]
    exact (List.reverse_perm _).nodup_iff.2 h1
  have n2 : (x :: (C2.reverse ++ [z])).Nodup := by
    have h1 : (x :: z :: C2).Nodup := hnd.sublist (by simp)
    have h3 : (x :: (C2.reverse ++ [z])).Perm (x :: z :: C2) := by
      refine List.Perm.cons _ ?_
      have : C2.reverse ++ [z] = (z :: C2).reverse := by simp
      rw [this]
      exact List.reverse_perm _
    exact h3.nodup_iff.2 h1
  have T1 := hlf_tri B (D := C1.reverse) n1 (fun v hv => by simp at hv ⊢; simp [hv]) (hadj x z C1 fun e he => by rw [er]; exact List.mem_append_left _ he)
  have T2 := hlg_tri B (D := C2.reverse) n2 (fun v hv => by simp at hv ⊢; simp [hv]) (hadj z x C2 fun e he => by rw [er]; exact List.mem_append_right _ he)
  have g1 := wkk_ge T1
  have g2 := wkk_ge T2
  have bx := B.bd x B.hx
  have bz := B.bd z B.hz
  have hN : 0 < N := by omega
  have hb := fun v => wkk_box N x z C1 C2 v
  have hp := fun v => boxp hN bx.2 bz.2 v
  have hm := fun v => boxm hN bx.2 bz.2 v
  have w0 := fun v => wkk_nn ht v
  have w1 := fun v => wkk_nn T1 v
  have w2 := fun v => wkk_nn T2 v
  generalize hP : x :: (C1 ++ z :: C2) = P at *
  generalize hQ1 : hlf N x z C1.reverse = Q1 at *
  generalize hQ2 : hlg N x z C2.reverse = Q2 at *
  have tot3 : sm (wkk P) P + sm (wkk Q1) P + sm (wkk Q2) P ≤ 2 * (P.length : Int) := by
    rw [← sm_add, ← sm_add]
    have : ∀ l : List Pt, sm (fun v => wkk P v + wkk Q1 v + wkk Q2 v) l ≤ 2 * (l.length : Int) := by
      intro l
      induction l with
      | nil => simp [sm]
      | cons v l ih =>
        have b := hb v
        have p := hp v
        have m := hm v
        simp only [sm, List.length_cons]
        have p1 : boxs (fun a b => cp a b v) N x z ≤ 1 := by revert p; split <;> omega
        have m1 : boxs (fun a b => cmn a b v) N x z ≤ 1 := by revert m; split <;> omega
        omega
    exact this P
  have s1 : sm (wkk Q1) Q1 = wkk Q1 (-N, x.2) + (wkk Q1 (-N, -N) + (wkk Q1 (N, -N) + (wkk Q1 (N, z.2) + sm (wkk Q1) (z :: (C1.reverse ++ [x]))))) := by
    conv => lhs; arg 2; rw [← hQ1]
    rfl
  have s2 : sm (wkk Q2) Q2 = wkk Q2 (N, z.2) + (wkk Q2 (N, N) + (wkk Q2 (-N, N) + (wkk Q2 (-N, x.2) + sm (wkk Q2) (x :: (C2.reverse ++ [z]))))) := by
    conv => lhs; arg 2; rw [← hQ2]
    rfl
  have l1 : (Q1.length : Int) = C1.length + 6 := by rw [← hQ1]; simp [hlf]; omega
  have l2 : (Q2.length : Int) = C2.length + 6 := by rw [← hQ2]; simp [hlg]; omega
  have l0 : (P.length : Int) = C1.length + C2.length + 2 := by rw [← hP]; simp; omega
  have r1 : sm (wkk Q1) (z :: (C1.reverse ++ [x])) ≤ sm (wkk Q1) P := by
    have p1 : (z :: (C1.reverse ++ [x]) ++ C2).Perm P := by
      rw [← hP]
      have q1 : (z :: (C1.reverse ++ [x])).Perm (x :: (C1 ++ [z])) := by
        have : z :: (C1.reverse ++ [x]) = (x :: (C1 ++ [z])).reverse := by simp
        rw [this]
        exact List.reverse_perm _
      have q2 := q1.append_right C2
      have : x :: (C1 ++ [z]) ++ C2 = x :: (C1 ++ z :: C2) := by simp
      rwa [this] at q2
    rw [← sm_perm _ p1, sm_append]
    have := sm_nn C2 fun v _ => w1 v
    omega
  have r2 : sm (wkk Q2) (x :: (C2.reverse ++ [z])) ≤ sm (wkk Q2) P := by
    have p1 : (x :: (C2.reverse ++ [z]) ++ C1).Perm P := by
      rw [← hP]
      refine List.Perm.cons _ ?_
      have q1 : (C2.reverse ++ [z]).Perm (z :: C2) := by
        have : C2.reverse ++ [z] = (z :: C2).reverse := by simp
        rw [this]
        exact List.reverse_perm _
      exact (q1.append_right C1).trans List.perm_append_comm
    rw [← sm_perm _ p1, sm_append]
    have := sm_nn C1 fun v _ => w2 v
    omega
  have e1 := hb (-N, x.2); have e2 := hb (N, z.2); have e3 := hb (-N, -N); have e4 := hb (N, -N); have e5 := hb (N, N); have e6 := hb (-N, N)
  have p1 := hp (-N, x.2); have p2 := hp (N, z.2); have p3 := hp (-N, -N); have p4 := hp (N, -N); have p5 := hp (N, N); have p6 := hp (-N, N)
  have m1 := hm (-N, x.2); have m2 := hm (N, z.2); have m3 := hm (-N, -N); have m4 := hm (N, -N); have m5 := hm (N, N); have m6 := hm (-N, N)
  have tR : ∀ y : Int, turn (N, -N) (N, N) (N, y) = 0 := fun y => by simp only [turn]; grind
  have tL : ∀ y : Int, turn (-N, N) (-N, -N) (-N, y) = 0 := fun y => by simp only [turn]; grind
  rw [tR] at p2 p4 p5
  rw [tL] at m1 m3 m6
  have a1 := w0 (-N, x.2); have a2 := w0 (N, z.2); have a3 := w0 (-N, -N); have a4 := w0 (N, -N); have a5 := w0 (N, N); have a6 := w0 (-N, N)
  have b3 := w2 (-N, -N); have b4 := w2 (N, -N); have b5 := w1 (N, N); have b6 := w1 (-N, N)
  simp only at p1 p2 p3 p4 p5 p6 m1 m2 m3 m4 m5 m6
  have P1 : boxs (fun a b => cp a b (-N, x.2)) N x z ≤ 1 := by revert p1; split <;> omega
  have P2 : boxs (fun a b => cp a b (N, z.2)) N x z ≤ 0 := by revert p2; split <;> omega
  have P3 : boxs (fun a b => cp a b (-N, -N)) N x z ≤ 1 := by revert p3; split <;> omega
  have P4 : boxs (fun a b => cp a b (N, -N)) N x z ≤ 0 := by revert p4; split <;> omega
  have P5 : boxs (fun a b => cp a b (N, N)) N x z ≤ 0 := by revert p5; split <;> omega
  have P6 : boxs (fun a b => cp a b (-N, N)) N x z ≤ 0 := by revert p6; split <;> omega
  have M1 : boxs (fun a b => cmn a b (-N, x.2)) N x z ≤ 0 := by revert m1; split <;> omega
  have M2 : boxs (fun a b => cmn a b (N, z.2)) N x z ≤ 1 := by revert m2; split <;> omega
  have M3 : boxs (fun a b => cmn a b (-N, -N)) N x z ≤ 0 := by revert m3; split <;> omega
  have M4 : boxs (fun a b => cmn a b (N, -N)) N x z ≤ 0 := by revert m4; split <;> omega
  have M5 : boxs (fun a b => cmn a b (N, N)) N x z ≤ 1 := by revert m5; split <;> omega
  have M6 : boxs (fun a b => cmn a b (-N, N)) N x z ≤ 0 := by revert m6; split <;> omega
  omega
/-- A simple polygon, turned so that it begins with its first corner, in a box with its last one. -/
theorem to_box {P : List Pt} (h : Simp P) : ∃ N x z C1 C2 A C, P = A ++ C ∧ C ++ A = x :: (C1 ++ z :: C2) ∧ InBox N x z (C ++ A) (ring (C ++ A)) := by
  have hne : P ≠ [] := fun e => by have := h.len; rw [e] at this; simp at this
  obtain ⟨x, hx, lo⟩ := exists_lo P hne
  obtain ⟨z, hz, hi⟩ := exists_hi P hne
  obtain ⟨B, hB0, hB⟩ := exists_bound P
  have hxz : x ≠ z := by
    rintro rfl
    have h3 := h.len
    have hnd := h.nodup
    match P, h3, hnd, lo, hi with
    | a :: b :: t, _, hnd, lo, hi =>
      have hab : a ≠ b := fun e => by rw [e] at hnd; simp at hnd
      by_cases e : a = x
      · have k1 := lo b (by simp) (fun e2 => hab (by rw [e, e2]))
        have k2 := hi b (by simp) (fun e2 => hab (by rw [e, e2]))
        unfold lx at k1 k2
        omega
      · have k1 := lo a (by simp) e
        have k2 := hi a (by simp) e
        unfold lx at k1 k2
        omega
  obtain ⟨w, M, u, A, C, rfl, hBA⟩ := rotate_to h.len hx
  have hQ := h.rot
  have hmem : ∀ v, v ∈ C ++ A ↔ v ∈ A ++ C := fun v => by simp only [List.mem_append]; exact Or.comm
  have hz2 : z ∈ w :: (M ++ [u]) := by
    have := (hmem z).2 hz
    rw [hBA] at this
    rcases List.mem_cons.1 this with e | e
    · exact absurd e.symm hxz
    · exact e
  obtain ⟨C1, C2, e2⟩ := List.append_of_mem hz2
  rw [e2] at hBA
  refine ⟨B + 1, x, z, C1, C2, A, C, rfl, hBA, hQ.good, fun v hv => ?_, (hmem x).2 hx, (hmem z).2 hz, fun v hv hne => lo v ((hmem v).1 hv) hne, fun v hv hne => hi v ((hmem v).1 hv) hne⟩
  have := hB v ((hmem v).1 hv)
  omega
/-- The windings above and below all corners together: as many as corners, less 2. -/
theorem wkk_sum {P : List Pt} (h : Simp P) (ht : Tri 1 P) : sm (wkk P) P = (P.length : Int) - 2 := by
  refine Int.le_antisymm ?_ (wkk_ge ht)
  obtain ⟨N, x, z, C1, C2, A, C, rfl, hBA, ib⟩ := to_box h
  have hQ := h.rot
  have hT : Tri 1 (C ++ A) := .rot _ _ ht
  rw [sm_perm _ (List.perm_append_comm (l₁ := A) (l₂ := C)), sm_congr _ fun v _ => wkk_perm (ring_rot A C) v]
  have e : ((A ++ C).length : Int) = ((C ++ A).length : Int) := by simp only [List.length_append]; omega
  rw [e]
  rw [hBA] at hQ hT ib ⊢
  exact wkk_le_of hQ hT ib
theorem wndm_rev (P : List Pt) (p : Pt) : wndm P.reverse p = - wndm P p := by
  unfold wndm
  rw [List.map_reverse, wnd_rev]
end Go.Proofs.Ytijpolfmiajenaa
