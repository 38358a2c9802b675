/- A polygon to the left of each of its sides: its winding is 1 at the points to the left of all sides, and 0 at the others; that of a polygon within it is not above it. -/
import Derived.Test.YtijpolfmiajenaaHu3
import Derived.Test.YtijpolfmiajenaaWcr
namespace Go.Proofs.Ytijpolfmiajenaa

/-- A bit above to the right of p is to the left of the way from a to b. -/
def Lf (a b p : Pt) : Prop := 0 < turn a b p ∨ (turn a b p = 0 ∧ lwB b a = true)
theorem not_lf {a b p : Pt} (h : ¬ Lf a b p) : turn a b p ≤ 0 ∧ (lwB b a = true → turn a b p < 0) := by
  unfold Lf at h
  refine ⟨Int.not_lt.1 fun k => h (.inl k), fun k => ?_⟩
  have h1 : ¬ 0 < turn a b p := fun q => h (.inl q)
  have h2 : turn a b p ≠ 0 := fun q => h (.inr ⟨q, k⟩)
  omega
theorem tot_cong2 {g h : Pt → Pt → Int} : ∀ E : List Edge, (∀ e ∈ E, g e.1 e.2 = h e.1 e.2) → tot g E = tot h E
  | [], _ => rfl
  | e :: E, hh => by rw [tot, tot, hh e List.mem_cons_self, tot_cong2 E fun f hf => hh f (List.mem_cons_of_mem _ hf)]
/-- A point on the other side of a line: the winding is 0. -/
theorem wnd_half {P : List Pt} {a b p : Pt} (hne : a ≠ b) (hP : ∀ v ∈ P, 0 ≤ turn a b v) (hn : ¬ Lf a b p) : wnd P p = 0 := by
  obtain ⟨h1, h2⟩ := not_lf hn
  have bar := fun (u v : Pt) => turn_bar a b u v p
  unfold wnd
  rcases Int.lt_trichotomy a.2 b.2 with k | k | k
  · refine tot_zero _ fun e he => ?_
    obtain ⟨m1, m2⟩ := ring_mem he
    have key : ∀ u v, u ∈ P → v ∈ P → u.2 ≤ p.2 → p.2 < v.2 → turn u v p ≤ 0 := fun u v hu hv q1 q2 => by
      have e := bar u v
      have n1 := Int.mul_nonpos_of_nonneg_of_nonpos (show 0 ≤ v.2 - u.2 by omega) h1
      have n2 := Int.mul_nonneg (show 0 ≤ v.2 - p.2 by omega) (hP u hu)
      have n3 := Int.mul_nonneg (show 0 ≤ p.2 - u.2 by omega) (hP v hv)
      refine Int.not_lt.1 fun c => ?_
      have := Int.mul_pos (show 0 < b.2 - a.2 by omega) c
      omega
    rcases cp_cases e.1 e.2 p with ⟨-, c1, c2, c3⟩ | ⟨-, c1, c2, c3⟩ | c
    · have := key _ _ m1 m2 c1 c2; omega
    · have := key _ _ m2 m1 c1 c2; rw [turn_neg] at this; omega
    · exact c
  · refine tot_zero _ fun e he => cp_out ?_
    obtain ⟨m1, m2⟩ := ring_mem he
    have i1 := hP _ m1
    have i2 := hP _ m2
    rw [slit_turn a b k] at i1 i2 h1 h2
    rcases Int.lt_trichotomy a.1 b.1 with x | x | x
    · have h3 := h2 ((lwB_iff b a).2 (.inr ⟨k.symm, x⟩))
      have p1 : p.2 < a.2 := Int.not_le.1 fun c => by have := Int.mul_nonneg (show 0 ≤ b.1 - a.1 by omega) (show 0 ≤ p.2 - a.2 by omega); omega
      have low : ∀ y : Int, 0 ≤ (b.1 - a.1) * (y - a.2) → a.2 ≤ y := fun y hy => Int.not_lt.1 fun c => by have := Int.mul_neg_of_pos_of_neg (show 0 < b.1 - a.1 by omega) (show y - a.2 < 0 by omega); omega
      have := low _ i1
      have := low _ i2
      exact .inr ⟨by omega, by omega⟩
    · exact absurd (Prod.ext x k) hne
    · have p1 : a.2 ≤ p.2 := Int.not_lt.1 fun c => by have := Int.mul_pos_of_neg_of_neg (show b.1 - a.1 < 0 by omega) (show p.2 - a.2 < 0 by omega); omega
      have low : ∀ y : Int, 0 ≤ (b.1 - a.1) * (y - a.2) → y ≤ a.2 := fun y hy => Int.not_lt.1 fun c => by have := Int.mul_neg_of_neg_of_pos (show b.1 - a.1 < 0 by omega) (show 0 < y - a.2 by omega); omega
      have := low _ i1
      have := low _ i2
      exact .inl ⟨by omega, by omega⟩
  · have h3 := h2 ((lwB_iff b a).2 (.inl k))
    rw [tot_cong2 (h := fun u v => (if u.2 ≤ p.2 then 1 else 0) - (if v.2 ≤ p.2 then 1 else 0)) (ring P) fun e he => ?_]
    · exact ring_tele (fun v => if v.2 ≤ p.2 then 1 else 0) P
    obtain ⟨m1, m2⟩ := ring_mem he
    have key : ∀ u v, u ∈ P → v ∈ P → u.2 ≤ p.2 → p.2 < v.2 → 0 < turn u v p := fun u v hu hv q1 q2 => by
      have e := bar u v
      have n1 := Int.mul_neg_of_pos_of_neg (show 0 < v.2 - u.2 by omega) h3
      have n2 := Int.mul_nonneg (show 0 ≤ v.2 - p.2 by omega) (hP u hu)
      have n3 := Int.mul_nonneg (show 0 ≤ p.2 - u.2 by omega) (hP v hv)
      refine Int.not_le.1 fun c => ?_
      have := Int.mul_nonneg_of_nonpos_of_nonpos (show b.2 - a.2 ≤ 0 by omega) c
      omega
    show cp e.1 e.2 p = _
    by_cases q1 : e.1.2 ≤ p.2 <;> by_cases q2 : e.2.2 ≤ p.2
    · rw [if_pos q1, if_pos q2, cp_out (.inl ⟨q1, q2⟩)]; rfl
    · rw [if_pos q1, if_neg q2, cp_one q1 (by omega) (key _ _ m1 m2 q1 (by omega))]; rfl
    · rw [if_neg q1, if_pos q2, cp_anti, cp_one q2 (by omega) (key _ _ m2 m1 q2 (by omega))]; rfl
    · rw [if_neg q1, if_neg q2, cp_out (.inr ⟨by omega, by omega⟩)]; rfl
theorem chain_end (y : Pt) : ∀ (x : Pt) (t : List Pt), ∃ u, (u, y) ∈ chain x (t ++ [y])
  | x, [] => ⟨x, by simp [chain]⟩
  | x, z :: t => by
    obtain ⟨u, h⟩ := chain_end y z t
    exact ⟨u, by rw [List.cons_append, chain]; exact List.mem_cons_of_mem _ h⟩
theorem nbrs {P : List Pt} {v : Pt} (hv : v ∈ P) : (∃ w, (v, w) ∈ ring P) ∧ ∃ u, (u, v) ∈ ring P := by
  obtain ⟨A, B, rfl⟩ := List.append_of_mem hv
  have hr := ring_rot A (v :: B)
  rw [List.cons_append] at hr
  constructor
  · cases h : B ++ A with
    | nil =>
      rw [h] at hr
      exact ⟨v, hr.mem_iff.2 (by simp [ring, chain])⟩
    | cons w M =>
      rw [h] at hr
      exact ⟨w, hr.mem_iff.2 (by simp [ring, chain])⟩
  · obtain ⟨u, h⟩ := chain_end v v (B ++ A)
    exact ⟨u, hr.mem_iff.2 h⟩
theorem chain_all {f : Pt → Prop} : ∀ (x : Pt) (t : List Pt), (∀ e ∈ chain x t, f e.1 → f e.2) → f x → ∀ y ∈ t, f y
  | x, [], _, _, y, hy => by simp at hy
  | x, z :: t, h, hx, y, hy => by
    have hz : f z := h (x, z) (by simp [chain]) hx
    rcases List.mem_cons.1 hy with rfl | hy
    · exact hz
    · exact chain_all z t (fun e he => h e (by rw [chain]; exact List.mem_cons_of_mem _ he)) hz y hy
/-- What goes on from corner to corner holds at all, if at one. -/
theorem ring_all {P : List Pt} {f : Pt → Prop} (h : ∀ e ∈ ring P, f e.1 → f e.2) {x : Pt} (hx : x ∈ P) (fx : f x) : ∀ y ∈ P, f y := by
  obtain ⟨A, B, rfl⟩ := List.append_of_mem hx
  have hr := ring_rot A (x :: B)
  rw [List.cons_append] at hr
  intro y hy
  refine chain_all x (B ++ A ++ [x]) (fun e he => h e (hr.mem_iff.2 he)) fx y ?_
  simp only [List.mem_append, List.mem_cons, List.not_mem_nil, or_false] at hy ⊢
  rcases hy with h | h | h
  · exact .inl (.inr h)
  · exact .inr h
  · exact .inl (.inl h)
theorem tot_nn {g : Pt → Pt → Int} : ∀ E : List Edge, (∀ e ∈ E, 0 ≤ g e.1 e.2) → 0 ≤ tot g E ∧ (tot g E ≤ 0 → ∀ e ∈ E, g e.1 e.2 = 0)
  | [], _ => ⟨Int.le_refl _, fun _ e he => by simp at he⟩
  | e :: E, h => by
    have h1 := h e List.mem_cons_self
    have h2 := tot_nn E fun f hf => h f (List.mem_cons_of_mem _ hf)
    refine ⟨by simp only [tot]; omega, fun k f hf => ?_⟩
    simp only [tot] at k
    rcases List.mem_cons.1 hf with rfl | hf
    · omega
    · exact h2.2 (by omega) f hf
theorem corner_y (u v w p : Pt) : turn u v w * (p.2 - v.2) = turn v w p * (u.2 - v.2) + turn u v p * (w.2 - v.2) := by simp only [turn]; grind
/-- A point to the left of all sides: the winding is 1 at least. -/
theorem wnd_full {P : List Pt} {p : Pt} (hP : P ≠ []) (hne : ∀ e ∈ ring P, e.1 ≠ e.2) (hw : ∀ e ∈ ring P, ∀ v ∈ P, 0 ≤ turn e.1 e.2 v) (hl : ∀ e ∈ ring P, Lf e.1 e.2 p) : 1 ≤ wnd P p := by
  obtain ⟨z0, hz0⟩ := List.exists_mem_of_ne_nil P hP
  have top : ∃ x ∈ P, p.2 < x.2 := by
    refine Classical.byContradiction fun k => ?_
    have hall : ∀ x ∈ P, x.2 ≤ p.2 := fun x hx => Int.not_lt.1 fun c => k ⟨x, hx, c⟩
    obtain ⟨z, hz, -, hz2⟩ := exists_max (fun v => v.2) (fun _ => True) P ⟨z0, hz0, trivial⟩
    obtain ⟨v, hv, hv1, hv2⟩ := exists_max (fun v => -v.1) (fun v => v.2 = z.2) P ⟨z, hz, rfl⟩
    obtain ⟨⟨w, hvw⟩, u, huv⟩ := nbrs hv
    obtain ⟨mu, -⟩ := ring_mem huv
    obtain ⟨-, mw⟩ := ring_mem hvw
    (try dsimp only at mu mw)
    have n1 := hne _ huv
    have n2 := hne _ hvw
    (try dsimp only at n1 n2)
    have yu := hz2 u mu trivial
    have yw := hz2 w mw trivial
    have xu := fun h => hv2 u mu h
    have xw := fun h => hv2 w mw h
    (try dsimp only at yu yw xu xw hv1)
    have L1 : 0 < turn u v p := by
      rcases hl _ huv with q | ⟨-, q⟩
      · exact q
      · rw [lwB_iff] at q
        (try dsimp only at q)
        omega
    have L2 : 0 ≤ turn v w p := by
      rcases hl _ hvw with q | ⟨q, -⟩
      · (try dsimp only at q); omega
      · (try dsimp only at q); omega
    have T := hw _ huv w mw
    (try dsimp only at T)
    have hpv := hall v hv
    have id := corner_y u v w p
    have e1 := Int.mul_nonneg T (show 0 ≤ p.2 - v.2 by omega)
    have e2 := Int.mul_nonpos_of_nonneg_of_nonpos L2 (show u.2 - v.2 ≤ 0 by omega)
    have e3 : w.2 = v.2 := by
      refine Classical.byContradiction fun c => ?_
      have := Int.mul_neg_of_pos_of_neg L1 (show w.2 - v.2 < 0 by omega)
      omega
    have hxw : v.1 < w.1 := by
      have h1 := xw (by omega)
      have h2 : v.1 ≠ w.1 := fun c => n2 (Prod.ext c e3.symm)
      omega
    rcases Int.lt_or_eq_of_le yu with c | c
    · have h1 : turn u v w = (v.2 - u.2) * (v.1 - w.1) := by
        simp only [turn]
        rw [e3]
        grind
      have := Int.mul_neg_of_pos_of_neg (show 0 < v.2 - u.2 by omega) (show v.1 - w.1 < 0 by omega)
      omega
    · have h1 := slit_turn u v (show u.2 = v.2 by omega) p
      have h2 := xu c
      have := Int.mul_nonpos_of_nonpos_of_nonneg (show v.1 - u.1 ≤ 0 by omega) (show 0 ≤ p.2 - u.2 by omega)
      omega
  have bot : ∃ x ∈ P, x.2 ≤ p.2 := by
    refine Classical.byContradiction fun k => ?_
    have hall : ∀ x ∈ P, p.2 < x.2 := fun x hx => Int.not_le.1 fun c => k ⟨x, hx, c⟩
    obtain ⟨z, hz, -, hz2⟩ := exists_max (fun v => -v.2) (fun _ => True) P ⟨z0, hz0, trivial⟩
    obtain ⟨v, hv, hv1, hv2⟩ := exists_max (fun v => v.1) (fun v => v.2 = z.2) P ⟨z, hz, rfl⟩
    obtain ⟨⟨w, hvw⟩, u, huv⟩ := nbrs hv
    obtain ⟨mu, -⟩ := ring_mem huv
    obtain ⟨-, mw⟩ := ring_mem hvw
    (try dsimp only at mu mw)
    have n1 := hne _ huv
    (try dsimp only at n1)
    have yu := hz2 u mu trivial
    have yw := hz2 w mw trivial
    have xu := fun h => hv2 u mu h
    have xw := fun h => hv2 w mw h
    (try dsimp only at yu yw xu xw hv1)
    have L1 : 0 ≤ turn u v p := by
      rcases hl _ huv with q | ⟨q, -⟩
      · (try dsimp only at q); omega
      · (try dsimp only at q); omega
    have L2 : 0 < turn v w p := by
      rcases hl _ hvw with q | ⟨-, q⟩
      · exact q
      · rw [lwB_iff] at q
        (try dsimp only at q)
        omega
    have T := hw _ huv w mw
    (try dsimp only at T)
    have hpv := hall v hv
    have id := corner_y u v w p
    have e1 := Int.mul_nonpos_of_nonneg_of_nonpos T (show p.2 - v.2 ≤ 0 by omega)
    have e2 := Int.mul_nonneg L1 (show 0 ≤ w.2 - v.2 by omega)
    have e3 : u.2 = v.2 := by
      refine Classical.byContradiction fun c => ?_
      have := Int.mul_pos L2 (show 0 < u.2 - v.2 by omega)
      omega
    have hxu : u.1 < v.1 := by
      have h1 := xu (by omega)
      have h2 : u.1 ≠ v.1 := fun c => n1 (Prod.ext c e3)
      omega
    have h1 := slit_turn u v e3 p
    have := Int.mul_neg_of_pos_of_neg (show 0 < v.1 - u.1 by omega) (show p.2 - u.2 < 0 by omega)
    omega
  refine Int.not_lt.1 fun k => ?_
  have nn := tot_nn (g := fun a b => cp a b p) (ring P) fun e he => by
    rcases cp_cases e.1 e.2 p with ⟨c, -⟩ | ⟨-, -, -, c⟩ | c
    · (try dsimp only); omega
    · rcases hl e he with q | ⟨q, -⟩ <;> omega
    · (try dsimp only); omega
  have hz := nn.2 (by unfold wnd at k; omega)
  obtain ⟨x, hx, hxl⟩ := bot
  obtain ⟨y, hy, hyl⟩ := top
  have := ring_all (f := fun v => v.2 ≤ p.2) (fun e he q => by
    refine Int.not_lt.1 fun c => ?_
    have h0 := hz e he
    have hT : 0 < turn e.1 e.2 p := by
      rcases hl e he with r | ⟨-, r⟩
      · exact r
      · rw [lwB_iff] at r; (try dsimp only at q); omega
    have := cp_one q c hT
    (try dsimp only at h0)
    omega) hx hxl y hy
  (try dsimp only at this)
  omega
/-- The polygon K, and the points l, to the left of the sides of K. -/
structure Wc (K l : List Pt) : Prop where
  ne : K ≠ []
  edge : ∀ e ∈ ring K, e.1 ≠ e.2
  own : ∀ e ∈ ring K, ∀ v ∈ K, 0 ≤ turn e.1 e.2 v
  left : ∀ e ∈ ring K, ∀ v ∈ l, 0 ≤ turn e.1 e.2 v
theorem neg_inj {a b : Pt} (h : neg a = neg b) : a = b := by rw [← neg_neg a, h, neg_neg]
theorem Wc.negs {K l : List Pt} (h : Wc K l) : Wc (K.map neg) (l.map neg) := by
  refine ⟨fun e => h.ne (List.map_eq_nil_iff.1 e), fun e he => ?_, fun e he v hv => ?_, fun e he v hv => ?_⟩
  · rw [ring_negs] at he
    obtain ⟨f, hf, rfl⟩ := List.mem_map.1 he
    exact fun q => h.edge f hf (neg_inj q)
  · rw [ring_negs] at he
    obtain ⟨f, hf, rfl⟩ := List.mem_map.1 he
    obtain ⟨x, hx, rfl⟩ := List.mem_map.1 hv
    rw [turn_negs]
    exact h.own f hf x hx
  · rw [ring_negs] at he
    obtain ⟨f, hf, rfl⟩ := List.mem_map.1 he
    obtain ⟨x, hx, rfl⟩ := List.mem_map.1 hv
    rw [turn_negs]
    exact h.left f hf x hx
theorem Wc.cases {K l : List Pt} (h : Wc K l) (p : Pt) : 1 ≤ wnd K p ∨ (wnd K p = 0 ∧ wnd l p = 0) := by
  by_cases q : ∀ e ∈ ring K, Lf e.1 e.2 p
  · exact .inl (wnd_full h.ne h.edge h.own q)
  · have : ∃ e ∈ ring K, ¬ Lf e.1 e.2 p := Classical.byContradiction fun k => q fun e he => Classical.byContradiction fun z => k ⟨e, he, z⟩
    obtain ⟨e, he, hn⟩ := this
    exact .inr ⟨wnd_half (h.edge e he) (h.own e he) hn, wnd_half (h.edge e he) (h.left e he) hn⟩
theorem Wc.dom {K l : List Pt} (h : Wc K l) {s : Int} (hl : Simp l) (hs : s = 1 ∨ s = -1) (ht : Tri s l) (p : Pt) : s * wkk l p ≤ wkk K p := by
  have k1 := wnd_of hl hs ht p
  have k2 := wndm_of hl hs ht p
  have k3 : s * wnd l p ≤ wnd K p := by
    rcases h.cases p with q | ⟨q1, q2⟩
    · omega
    · rw [q1, q2]; omega
  have k4 : s * wndm l p ≤ wndm K p := by
    unfold wndm at *
    rcases h.negs.cases (neg p) with q | ⟨q1, q2⟩
    · omega
    · rw [q1, q2]; omega
  unfold wkk
  rw [Int.mul_add]
  omega
end Go.Proofs.Ytijpolfmiajenaa
