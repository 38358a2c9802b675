/- A simple polygon in a box: the ring around one half of what is left of the box is a simple polygon too, which goes around to the left. -/
import Derived.Test.YtijpolfmiajenaaWnb
namespace Go.Proofs.Ytijpolfmiajenaa

/-- The ring: left on the row of x, the lower corners of the box, right on the row of z, z, and back along the points D to x. -/
def hlf (N : Int) (x z : Pt) (D : List Pt) : List Pt := (-N, x.2) :: (-N, -N) :: (N, -N) :: (N, z.2) :: z :: (D ++ [x])
theorem hlf_ring (N : Int) (x z : Pt) (D : List Pt) : ring (hlf N x z D) = ((-N, x.2), (-N, -N)) :: ((-N, -N), (N, -N)) :: ((N, -N), (N, z.2)) :: ((N, z.2), z) :: (chain z (D ++ [x]) ++ [(x, (-N, x.2))]) := by
  unfold hlf
  rw [ring_cons]
  simp only [List.cons_append, chain]
  rw [show D ++ [x] ++ [(-N, x.2)] = D ++ x :: [(-N, x.2)] by simp, chain_cut]
  rfl
/-- What the box's corners and the polygon in it keep to. -/
structure InBox (N : Int) (x z : Pt) (V : List Pt) (E : List Edge) : Prop where
  good : Good V E
  bd : ∀ v ∈ V, (-N < v.1 ∧ v.1 < N) ∧ (-N < v.2 ∧ v.2 < N)
  hx : x ∈ V
  hz : z ∈ V
  lo : ∀ v ∈ V, v ≠ x → x.1 < v.1 ∨ (x.1 = v.1 ∧ x.2 < v.2)
  hi : ∀ v ∈ V, v ≠ z → v.1 < z.1 ∨ (v.1 = z.1 ∧ v.2 < z.2)
theorem has_box {a b v : Pt} (h : has a b v = true) : (min a.1 b.1 ≤ v.1 ∧ v.1 ≤ max a.1 b.1) ∧ (min a.2 b.2 ≤ v.2 ∧ v.2 ≤ max a.2 b.2) := by
  simp only [has, within, Bool.and_eq_true, decide_eq_true_eq] at h
  exact ⟨h.1.2, h.2⟩
theorem crs2_not {a b c d : Pt} (h1 : 0 ≤ turn a b c) (h2 : 0 ≤ turn a b d) : ¬ crs2 a b c d := fun h => by
  have := Int.mul_nonneg h1 h2
  have := h.1
  omega
theorem crs2_not' {a b c d : Pt} (h1 : turn a b c ≤ 0) (h2 : turn a b d ≤ 0) : ¬ crs2 a b c d := fun h => by
  have := Int.mul_nonneg_of_nonpos_of_nonpos h1 h2
  have := h.1
  omega
/-- A row to the right of all of a line does not cross it. -/
theorem row_right {c d z : Pt} {N : Int} (hc : c.1 ≤ z.1) (hd : d.1 ≤ z.1) (hN : z.1 ≤ N) : ¬ crs2 c d (N, z.2) z := by
  have key : ∀ c d : Pt, c.1 ≤ z.1 → d.1 ≤ z.1 → c.2 ≤ z.2 → z.2 ≤ d.2 → turn c d z ≤ 0 ∧ turn c d (N, z.2) ≤ 0 := by
    intro c d hc hd h1 h2
    have e1 : turn c d z = (d.1 - c.1) * (z.2 - c.2) - (d.2 - c.2) * (z.1 - c.1) := rfl
    have e2 : turn c d (N, z.2) = (d.1 - c.1) * (z.2 - c.2) - (d.2 - c.2) * (N - c.1) := rfl
    have k1 := Int.mul_le_mul_of_nonneg_right (show d.1 - c.1 ≤ z.1 - c.1 by omega) (show 0 ≤ z.2 - c.2 by omega)
    have k2 := Int.mul_le_mul_of_nonneg_right (show z.2 - c.2 ≤ d.2 - c.2 by omega) (show 0 ≤ z.1 - c.1 by omega)
    have k3 := Int.mul_le_mul_of_nonneg_left (show z.1 - c.1 ≤ N - c.1 by omega) (show 0 ≤ d.2 - c.2 by omega)
    have k4 := Int.mul_comm (z.1 - c.1) (z.2 - c.2)
    omega
  intro h
  have e : ∀ v : Pt, turn (N, z.2) z v = -((z.1 - N) * (z.2 - v.2)) := fun v => by
    simp only [turn]
    grind
  rcases Int.le_total c.2 z.2 with h1 | h1 <;> rcases Int.le_total d.2 z.2 with h2 | h2
  · have k1 := Int.mul_nonpos_of_nonpos_of_nonneg (show z.1 - N ≤ 0 by omega) (show 0 ≤ z.2 - c.2 by omega)
    have k2 := Int.mul_nonpos_of_nonpos_of_nonneg (show z.1 - N ≤ 0 by omega) (show 0 ≤ z.2 - d.2 by omega)
    refine crs2_not ?_ ?_ (crs2_swap h) <;> rw [e] <;> omega
  · exact crs2_not' (key c d hc hd h1 h2).2 (key c d hc hd h1 h2).1 h
  · have k := key d c hd hc h2 h1
    rw [turn_neg c d, turn_neg c d] at k
    exact crs2_not (by omega) (by omega) h
  · have k1 := Int.mul_nonneg_of_nonpos_of_nonpos (show z.1 - N ≤ 0 by omega) (show z.2 - c.2 ≤ 0 by omega)
    have k2 := Int.mul_nonneg_of_nonpos_of_nonpos (show z.1 - N ≤ 0 by omega) (show z.2 - d.2 ≤ 0 by omega)
    refine crs2_not' ?_ ?_ (crs2_swap h) <;> rw [e] <;> omega
/-- A row to the left of all of a line does not cross it. -/
theorem row_left {c d x : Pt} {N : Int} (hc : x.1 ≤ c.1) (hd : x.1 ≤ d.1) (hN : -N ≤ x.1) : ¬ crs2 c d x (-N, x.2) := by
  intro h
  have e : ∀ a b v : Pt, turn (-a.1, -a.2) (-b.1, -b.2) (-v.1, -v.2) = turn a b v := fun a b v => by simp only [turn]; grind
  refine row_right (c := (-c.1, -c.2)) (d := (-d.1, -d.2)) (z := (-x.1, -x.2)) (N := N) (by simp only; omega) (by simp only; omega) (by simp only; omega) ?_
  have h2 := crs2_rev2 h
  unfold crs2 at h2 ⊢
  have e1 := e c d (-N, x.2)
  have e2 := e c d x
  have e3 := e (-N, x.2) x c
  have e4 := e (-N, x.2) x d
  simp only [Int.neg_neg] at e1 e2 e3 e4 ⊢
  rw [e1, e2, e3, e4]
  exact h2
theorem slit_turn (a b : Pt) (h : a.2 = b.2) (v : Pt) : turn a b v = (b.1 - a.1) * (v.2 - a.2) := by
  simp only [turn]
  rw [h, Int.sub_self, Int.zero_mul, Int.sub_zero]
/-- A line on a row does not cross another line on a row. -/
theorem rows_not {a b c d : Pt} (h : a.2 = b.2) (h2 : c.2 = d.2) : ¬ crs2 a b c d := by
  rcases Int.le_total 0 ((b.1 - a.1) * (c.2 - a.2)) with k | k
  · exact crs2_not (by rw [slit_turn a b h]; exact k) (by rw [slit_turn a b h, ← h2]; exact k)
  · exact crs2_not' (by rw [slit_turn a b h]; exact k) (by rw [slit_turn a b h, ← h2]; exact k)
section
variable {N : Int} {x z : Pt} {V : List Pt} {E : List Edge} (B : InBox N x z V E) {D : List Pt} (hn : (z :: (D ++ [x])).Nodup) (hV : ∀ v ∈ D, v ∈ V) (hE : ∀ e ∈ chain z (D ++ [x]), adj E e.1 e.2)
include B hV
theorem hlf_mem {v : Pt} (h : v ∈ hlf N x z D) : v = (-N, x.2) ∨ v = (-N, -N) ∨ v = (N, -N) ∨ v = (N, z.2) ∨ v ∈ V := by
  simp only [hlf, List.mem_cons, List.mem_append, List.not_mem_nil, or_false] at h
  rcases h with h | h | h | h | h | h | h
  · exact .inl h
  · exact .inr (.inl h)
  · exact .inr (.inr (.inl h))
  · exact .inr (.inr (.inr (.inl h)))
  · exact .inr (.inr (.inr (.inr (h ▸ B.hz))))
  · exact .inr (.inr (.inr (.inr (hV v h))))
  · exact .inr (.inr (.inr (.inr (h ▸ B.hx))))
include hE
omit hV in
theorem hlf_edge {e : Edge} (h : e ∈ ring (hlf N x z D)) : e = ((-N, x.2), (-N, -N)) ∨ e = ((-N, -N), (N, -N)) ∨ e = ((N, -N), (N, z.2)) ∨ e = ((N, z.2), z) ∨ e = (x, (-N, x.2)) ∨ (adj E e.1 e.2 ∧ e.1 ∈ V ∧ e.2 ∈ V) := by
  rw [hlf_ring] at h
  simp only [List.mem_cons, List.mem_append, List.not_mem_nil, or_false] at h
  rcases h with h | h | h | h | h | h
  · exact .inl h
  · exact .inr (.inl h)
  · exact .inr (.inr (.inl h))
  · exact .inr (.inr (.inr (.inl h)))
  · exact .inr (.inr (.inr (.inr (.inr ⟨hE e h, B.good.ends' (hE e h)⟩))))
  · exact .inr (.inr (.inr (.inr (.inl h))))
theorem hlf_vert {e : Edge} (h : e ∈ ring (hlf N x z D)) {v : Pt} (hv : v ∈ hlf N x z D) (hh : has e.1 e.2 v = true) : v = e.1 ∨ v = e.2 := by
  have bx := B.bd x B.hx
  have bz := B.bd z B.hz
  have hb := has_box hh
  rcases hlf_edge B hE h with rfl | rfl | rfl | rfl | rfl | ⟨ha, m1, m2⟩
  all_goals rcases hlf_mem B hV hv with rfl | rfl | rfl | rfl | hm
  all_goals first
    | (exact .inl rfl)
    | (exact .inr rfl)
    | (exfalso; simp only at hb; omega)
    | (exfalso; have := B.bd v hm; simp only at hb; omega)
    | skip
  · by_cases hz : v = z
    · exact .inr hz
    · exfalso
      have := B.hi v hm hz
      have := B.bd v hm
      simp only at hb
      omega
  · by_cases hx : v = x
    · exact .inl hx
    · exfalso
      have := B.lo v hm hx
      have := B.bd v hm
      simp only at hb
      omega
  · exfalso
    have := B.bd _ m1
    have := B.bd _ m2
    simp only at hb
    omega
  · exfalso
    have := B.bd _ m1
    have := B.bd _ m2
    simp only at hb
    omega
  · exfalso
    have := B.bd _ m1
    have := B.bd _ m2
    simp only at hb
    omega
  · exfalso
    have := B.bd _ m1
    have := B.bd _ m2
    simp only at hb
    omega
  · exact B.good.vert' ha hm hh
omit hE in
/-- All points are to the left of the box's sides, or on them. -/
theorem hlf_left {v : Pt} (hv : v ∈ hlf N x z D) : 0 ≤ turn (-N, x.2) (-N, -N) v ∧ 0 ≤ turn (-N, -N) (N, -N) v ∧ 0 ≤ turn (N, -N) (N, z.2) v := by
  have bx := B.bd x B.hx
  have bz := B.bd z B.hz
  have hr : (-N ≤ v.1 ∧ v.1 ≤ N) ∧ (-N ≤ v.2 ∧ v.2 ≤ N) := by
    rcases hlf_mem B hV hv with rfl | rfl | rfl | rfl | hm
    · simp only; omega
    · simp only; omega
    · simp only; omega
    · simp only; omega
    · have := B.bd v hm; omega
  have e1 : turn (-N, x.2) (-N, -N) v = (N + x.2) * (v.1 + N) := by simp only [turn]; grind
  have e2 : turn (-N, -N) (N, -N) v = (2 * N) * (v.2 + N) := by simp only [turn]; grind
  have e3 : turn (N, -N) (N, z.2) v = (z.2 + N) * (N - v.1) := by simp only [turn]; grind
  rw [e1, e2, e3]
  exact ⟨Int.mul_nonneg (by omega) (by omega), Int.mul_nonneg (by omega) (by omega), Int.mul_nonneg (by omega) (by omega)⟩
theorem hlf_nocross {e f : Edge} (he : e ∈ ring (hlf N x z D)) (hf : f ∈ ring (hlf N x z D)) : ¬ crs2 e.1 e.2 f.1 f.2 := by
  have me := ring_mem he
  have mf := ring_mem hf
  have l1 := hlf_left B hV mf.1
  have l2 := hlf_left B hV mf.2
  have l3 := hlf_left B hV me.1
  have l4 := hlf_left B hV me.2
  have lx : ∀ v ∈ V, x.1 ≤ v.1 := fun v hv => by
    by_cases h : v = x
    · rw [h]; exact Int.le_refl _
    · have := B.lo v hv h; omega
  have lz : ∀ v ∈ V, v.1 ≤ z.1 := fun v hv => by
    by_cases h : v = z
    · rw [h]; exact Int.le_refl _
    · have := B.hi v hv h; omega
  have bx := B.bd x B.hx
  have bz := B.bd z B.hz
  rcases hlf_edge B hE he with rfl | rfl | rfl | he1
  · exact crs2_not l1.1 l2.1
  · exact crs2_not l1.2.1 l2.2.1
  · exact crs2_not l1.2.2 l2.2.2
  rcases hlf_edge B hE hf with rfl | rfl | rfl | hf1
  · exact fun h => crs2_not l3.1 l4.1 (crs2_swap h)
  · exact fun h => crs2_not l3.2.1 l4.2.1 (crs2_swap h)
  · exact fun h => crs2_not l3.2.2 l4.2.2 (crs2_swap h)
  rcases he1 with rfl | rfl | ⟨ha, m1, m2⟩ <;> rcases hf1 with rfl | rfl | ⟨hb, m3, m4⟩
  · exact rows_not rfl rfl
  · exact rows_not rfl rfl
  · exact fun h => row_right (z := z) (N := N) (lz _ m3) (lz _ m4) (by omega) (crs2_swap h)
  · exact rows_not rfl rfl
  · exact rows_not rfl rfl
  · exact fun h => row_left (x := x) (N := N) (lx _ m3) (lx _ m4) (by omega) (crs2_swap h)
  · exact row_right (z := z) (N := N) (lz _ m1) (lz _ m2) (by omega)
  · exact row_left (x := x) (N := N) (lx _ m1) (lx _ m2) (by omega)
  · exact B.good.nocross' ha hb
include hn
theorem hlf_simp : Simp (hlf N x z D) := by
  have bx := B.bd x B.hx
  have bz := B.bd z B.hz
  have nm : ∀ v ∈ z :: (D ++ [x]), (-N < v.1 ∧ v.1 < N) ∧ (-N < v.2 ∧ v.2 < N) := fun v hv => by
    simp only [List.mem_cons, List.mem_append, List.not_mem_nil, or_false] at hv
    rcases hv with rfl | hv | rfl
    · exact bz
    · exact B.bd v (hV v hv)
    · exact bx
  refine ⟨by simp [hlf], ?_, fun e he v hv hh => hlf_vert B hV hE he hv hh, fun e he f hf => hlf_nocross B hV hE he hf, fun e he => ring_mem he⟩
  unfold hlf
  refine List.nodup_cons.2 ⟨fun h => ?_, List.nodup_cons.2 ⟨fun h => ?_, List.nodup_cons.2 ⟨fun h => ?_, List.nodup_cons.2 ⟨fun h => ?_, hn⟩⟩⟩⟩
  · rcases List.mem_cons.1 h with h | h
    · have := congrArg Prod.snd h; simp only at this; omega
    rcases List.mem_cons.1 h with h | h
    · have := congrArg Prod.fst h; simp only at this; omega
    rcases List.mem_cons.1 h with h | h
    · have := congrArg Prod.fst h; simp only at this; omega
    · have := nm _ h; simp only at this; omega
  · rcases List.mem_cons.1 h with h | h
    · have := congrArg Prod.fst h; simp only at this; omega
    rcases List.mem_cons.1 h with h | h
    · have := congrArg Prod.fst h; simp only at this; omega
    · have := nm _ h; simp only at this; omega
  · rcases List.mem_cons.1 h with h | h
    · have := congrArg Prod.snd h; simp only at this; omega
    · have := nm _ h; simp only at this; omega
  · have := nm _ h; simp only at this; omega
/-- The half goes around to the left. -/
theorem hlf_tri : Tri 1 (hlf N x z D) := by
  have bx := B.bd x B.hx
  have bz := B.bd z B.hz
  obtain ⟨s, hs, ht, hr⟩ := simp_tri _ _ rfl (hlf_simp B hn hV hE)
  have h1 : 0 < s * turn (-N, x.2) (-N, -N) (N, -N) := by
    refine hr _ _ _ (by rw [hlf_ring]; simp) (by rw [hlf_ring]; simp) ⟨-1, -1, fun v hv hne => ?_⟩
    have hr : (-N ≤ v.1 ∧ v.1 ≤ N) ∧ (-N ≤ v.2 ∧ v.2 ≤ N) := by
      rcases hlf_mem B hV hv with rfl | rfl | rfl | rfl | hm
      · simp only; omega
      · simp only; omega
      · simp only; omega
      · simp only; omega
      · have := B.bd v hm; omega
    simp only [lin]
    have : ¬ (v.1 = -N ∧ v.2 = -N) := fun h => hne (Prod.ext h.1 h.2)
    omega
  have e1 : turn (-N, x.2) (-N, -N) (N, -N) = (N + x.2) * (2 * N) := by simp only [turn]; grind
  have h2 := Int.mul_pos (show 0 < N + x.2 by omega) (show 0 < 2 * N by omega)
  rcases hs with rfl | rfl
  · exact ht
  · rw [e1] at h1; omega
end
end Go.Proofs.Ytijpolfmiajenaa
