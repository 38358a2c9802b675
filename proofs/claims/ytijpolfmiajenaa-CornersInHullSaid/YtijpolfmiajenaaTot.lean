/- Sums over the sides of a ring of points, and rings backwards. -/
import Derived.Test.YtijpolfmiajenaaTri
namespace Go.Proofs.Ytijpolfmiajenaa

def tot (g : Pt → Pt → Int) : List Edge → Int
  | [] => 0
  | e :: E => g e.1 e.2 + tot g E
theorem tot_append (g : Pt → Pt → Int) : ∀ E F : List Edge, tot g (E ++ F) = tot g E + tot g F
  | [], F => by simp [tot]
  | e :: E, F => by simp only [List.cons_append, tot, tot_append g E F]; omega
theorem tot_perm (g : Pt → Pt → Int) {E F : List Edge} (h : E.Perm F) : tot g E = tot g F := by
  induction h with
  | nil => rfl
  | cons x _ ih => simp only [tot, ih]
  | swap x y _ => simp only [tot]; omega
  | trans _ _ h1 h2 => exact h1.trans h2
theorem tot_congr {g h : Pt → Pt → Int} : ∀ E : List Edge, (∀ a b, g a b = h a b) → tot g E = tot h E
  | [], _ => rfl
  | e :: E, hh => by simp only [tot, hh, tot_congr E hh]
theorem ring_split (g : Pt → Pt → Int) (x : Pt) (A : List Pt) (z : Pt) (B : List Pt) : tot g (ring (x :: (A ++ z :: B))) + g x z + g z x = tot g (ring (x :: (A ++ [z]))) + tot g (ring (x :: z :: B)) := by
  have er : ring (x :: (A ++ z :: B)) = chain x (A ++ [z]) ++ chain z (B ++ [x]) := by
    show chain x (A ++ z :: B ++ [x]) = _
    rw [show A ++ z :: B ++ [x] = A ++ z :: (B ++ [x]) by simp, chain_cut]
  have er1 : ring (x :: (A ++ [z])) = chain x (A ++ [z]) ++ [(z, x)] := by
    show chain x (A ++ [z] ++ [x]) = _
    rw [show A ++ [z] ++ [x] = A ++ z :: [x] by simp, chain_cut]
    rfl
  have er2 : ring (x :: z :: B) = (x, z) :: chain z (B ++ [x]) := rfl
  rw [er, er1, er2]
  simp only [tot_append, tot]
  omega

theorem chain_rev (x : Pt) : ∀ (t : List Pt) (y : Pt), ((chain x (t ++ [y])).map Prod.swap).reverse = chain y (t.reverse ++ [x]) := by
  intro t
  induction t generalizing x with
  | nil => intro y; rfl
  | cons a t ih =>
    intro y
    simp only [List.cons_append, chain, List.map_cons, List.reverse_cons, ih]
    have e : chain y (t.reverse ++ [a] ++ [x]) = chain y (t.reverse ++ [a]) ++ [(a, x)] := by
      rw [show t.reverse ++ [a] ++ [x] = t.reverse ++ a :: [x] by simp, chain_cut]
      rfl
    rw [e]
    rfl
theorem ring_rev (l : List Pt) : (ring l.reverse).Perm ((ring l).map Prod.swap) := by
  cases l with
  | nil => exact List.Perm.refl _
  | cons x t =>
    rw [List.reverse_cons]
    refine (ring_rot1 x t.reverse).symm.trans ?_
    rw [ring_cons, ring_cons, ← chain_rev x t x]
    exact List.reverse_perm _
theorem tot_swap (g : Pt → Pt → Int) : ∀ E : List Edge, tot g (E.map Prod.swap) = tot (fun a b => g b a) E
  | [] => rfl
  | e :: E => by simp only [List.map_cons, tot, tot_swap g E]; rfl
theorem tot_neg (g : Pt → Pt → Int) : ∀ E : List Edge, tot (fun a b => - g a b) E = - tot g E
  | [] => rfl
  | e :: E => by simp only [tot, tot_neg g E]; omega
theorem tot_rev {g : Pt → Pt → Int} (hg : ∀ a b, g b a = - g a b) (l : List Pt) : tot g (ring l.reverse) = - tot g (ring l) := by
  rw [tot_perm g (ring_rev l), tot_swap, ← tot_neg]
  exact tot_congr _ fun a b => hg a b

theorem simp_rev {l : List Pt} (h : Simp l) : Simp l.reverse := by
  have hm : ∀ e : Edge, e ∈ ring l.reverse → e.swap ∈ ring l := fun e he => by
    have := (ring_rev l).mem_iff.1 he
    rw [List.mem_map] at this
    obtain ⟨f, hf, rfl⟩ := this
    simpa using hf
  refine ⟨by simpa using h.len, (List.reverse_perm l).nodup_iff.2 h.nodup, fun e he v hv hh => ?_, fun e he f hf hc => ?_, fun e he => ring_mem he⟩
  · have := h.good.vert _ (hm e he) v (by simpa using hv) (by rw [has_comm] at hh; exact hh)
    exact this.symm
  · exact h.good.nocross _ (hm e he) _ (hm f hf) (crs2_rev2 (crs2_rev hc))
end Go.Proofs.Ytijpolfmiajenaa
