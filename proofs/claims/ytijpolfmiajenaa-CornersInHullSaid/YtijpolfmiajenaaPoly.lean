/- A corner of a simple polygon can be cut off or joined to another corner, if its triangle turns to the left. -/
import Derived.Test.YtijpolfmiajenaaGeo
/- Plain geometry for simple polygons: a corner that is outermost in some direction can be cut off, or joined to another corner. -/
namespace Go.Proofs.Ytijpolfmiajenaa

def lin (α β : Int) (p : Pt) : Int := α * p.1 + β * p.2
theorem lt_of_ne' {a b : Int} (h : a ≤ b) (hn : a = b → False) : a < b := by
  rcases Int.lt_or_eq_of_le h with h | h
  · exact h
  · exact (hn h).elim
/-- The segments ab and cd cross strictly. -/
def crs2 (a b c d : Pt) : Prop := turn a b c * turn a b d < 0 ∧ turn c d a * turn c d b < 0

theorem btw {G g d e : Int} (hG : 0 < G) (h0 : 0 ≤ g) (h1 : g ≤ G) (he : G * e = d * g) : (0 ≤ d → 0 ≤ e ∧ e ≤ d) ∧ (d ≤ 0 → d ≤ e ∧ e ≤ 0) := by
  constructor
  · intro hd
    have a1 : 0 ≤ d * g := Int.mul_nonneg hd h0
    have a2 : d * g ≤ d * G := Int.mul_le_mul_of_nonneg_left h1 hd
    constructor
    · exact Int.not_lt.1 fun h => by have := Int.mul_neg_of_pos_of_neg hG h; omega
    · exact Int.le_of_mul_le_mul_left (a := G) (by rw [Int.mul_comm G d]; omega) hG
  · intro hd
    have a1 : d * g ≤ 0 := Int.mul_nonpos_of_nonpos_of_nonneg hd h0
    have a2 : d * G ≤ d * g := Int.mul_le_mul_of_nonpos_left hd h1
    constructor
    · exact Int.le_of_mul_le_mul_left (a := G) (by rw [Int.mul_comm G d]; omega) hG
    · exact Int.not_lt.1 fun h => by have := Int.mul_pos hG h; omega

theorem between_of {p q x : Pt} (α β : Int) (h : turn p q x = 0) (h0 : lin α β p ≤ lin α β x) (h1 : lin α β x ≤ lin α β q) (h2 : lin α β p < lin α β q) : has p q x = true := by
  obtain ⟨p1, p2⟩ := p
  obtain ⟨q1, q2⟩ := q
  obtain ⟨x1, x2⟩ := x
  simp only [lin] at h0 h1 h2
  have ht := h
  simp only [turn] at h
  have e1 : (α * q1 + β * q2 - (α * p1 + β * p2)) * (x1 - p1) = (q1 - p1) * (α * x1 + β * x2 - (α * p1 + β * p2)) := by grind
  have e2 : (α * q1 + β * q2 - (α * p1 + β * p2)) * (x2 - p2) = (q2 - p2) * (α * x1 + β * x2 - (α * p1 + β * p2)) := by grind
  have k1 := btw (by omega) (by omega) (by omega) e1
  have k2 := btw (by omega) (by omega) (by omega) e2
  simp only [has, within, ht, Bool.and_eq_true, decide_eq_true_eq, beq_self_eq_true, true_and]
  omega

theorem has_turn {a b p : Pt} (h : has a b p = true) : turn a b p = 0 := by
  simp only [has, Bool.and_eq_true, beq_iff_eq] at h; exact h.1.1

/-- The three weights of a point in a triangle. -/
theorem bary_sum (u x w p : Pt) : turn u x p + turn x w p + turn w u p = turn u x w := by
  simp only [turn]; grind
theorem bary_u (u x w p q : Pt) : turn u x w * turn p q u = turn u x q * turn w u p - turn u x p * turn w u q := by
  simp only [turn]; grind
theorem bary_x (u x w p q : Pt) : turn u x w * turn p q x = turn u x p * turn x w q - turn x w p * turn u x q := by
  simp only [turn]; grind
theorem bary_w (u x w p q : Pt) : turn u x w * turn p q w = turn x w p * turn w u q - turn w u p * turn x w q := by
  simp only [turn]; grind
theorem bary_lin (α β : Int) (u x w p : Pt) : turn u x w * lin α β p = turn x w p * lin α β u + turn w u p * lin α β x + turn u x p * lin α β w := by
  simp only [turn, lin]; grind
theorem turn_rot (a b c : Pt) : turn b c a = turn a b c := by simp only [turn]; grind
theorem turn_rev (a b c : Pt) : turn c b a = - turn a b c := by simp only [turn]; grind
theorem turn_aab (a b : Pt) : turn a a b = 0 := by simp only [turn]; grind
theorem turn_aba (a b : Pt) : turn a b a = 0 := by simp only [turn]; grind
theorem turn_abb (a b : Pt) : turn a b b = 0 := by simp only [turn]; grind

theorem pos_of_mul {a b : Int} (ha : 0 < a) (h : 0 < a * b) : 0 < b := Int.not_le.1 fun hb => by have := Int.mul_nonpos_of_nonneg_of_nonpos (Int.le_of_lt ha) hb; omega
theorem neg_of_mul {a b : Int} (ha : 0 < a) (h : a * b < 0) : b < 0 := Int.not_le.1 fun hb => by have := Int.mul_nonneg (Int.le_of_lt ha) hb; omega
theorem zero_of_mul {a b : Int} (ha : 0 < a) (h : a * b = 0) : b = 0 := by
  rcases Int.mul_eq_zero.1 h with h | h
  · omega
  · exact h

/-- A line from a point beyond one of two sides, to a point of the triangle, crosses one of both. -/
theorem core_a {ap bp cp aq bq cq m n : Int} (hm : 0 < m) (hn : 0 < n) (ha : 0 < m * ap + n * aq) (hb : 0 < m * bp + n * bq) (hc : 0 ≤ m * cp + n * cq) (h : 0 < cp) (h1 : ap < 0) :
    0 < aq ∧ 0 < aq * cp - ap * cq ∧ (0 < ap * bq - bp * aq → bp < 0) := by
  have h2 : 0 < aq := by
    have := Int.mul_neg_of_pos_of_neg hm h1
    exact pos_of_mul hn (by omega)
  have h3 : n * (aq * cp - ap * cq) = cp * (m * ap + n * aq) + (-ap) * (m * cp + n * cq) := by grind
  have h4 : 0 < cp * (m * ap + n * aq) := Int.mul_pos h ha
  have h5 : 0 ≤ (-ap) * (m * cp + n * cq) := Int.mul_nonneg (by omega) hc
  refine ⟨h2, pos_of_mul hn (by omega), fun h6 => ?_⟩
  -- if bp ≥ 0 then n (aq bp - ap bq) = bp (m ap + n aq) - ap (m bp + n bq) > 0
  refine Int.not_le.1 fun h7 => ?_
  have h8 : n * (ap * bq - bp * aq) = -(bp * (m * ap + n * aq)) - (-ap) * (m * bp + n * bq) := by grind
  have h9 : 0 ≤ bp * (m * ap + n * aq) := Int.mul_nonneg h7 (by omega)
  have h10 : 0 < (-ap) * (m * bp + n * bq) := Int.mul_pos (by omega) hb
  have h11 := Int.mul_pos hn h6
  omega

theorem core_K {u x w p q : Pt} (hd : 0 < turn u x w) {m n : Int} (hm : 0 < m) (hn : 0 < n)
    (ha : 0 < m * turn u x p + n * turn u x q) (hb : 0 < m * turn x w p + n * turn x w q) (hc : 0 ≤ m * turn w u p + n * turn w u q) (h : 0 < turn w u p)
    (h1 : turn u x p < 0 ∨ turn x w p < 0) : crs2 u x p q ∨ crs2 x w p q ∨ has p q x = true := by
  have iu := bary_u u x w p q
  have ix := bary_x u x w p q
  have iw := bary_w u x w p q
  have lx : turn u x x = 0 := turn_abb u x
  have lx' : turn x w x = 0 := turn_aba x w
  generalize turn u x w = D at *
  -- the case of the first side
  have A : turn u x p < 0 → crs2 u x p q ∨ has p q x = true ∨ (turn x w p < 0 ∧ 0 < turn p q x) := by
    intro h1
    have k := core_a hm hn ha hb hc h h1
    have h2 : 0 < turn p q u := pos_of_mul hd (by omega)
    rcases Int.lt_trichotomy (turn p q x) 0 with h3 | h3 | h3
    · exact .inl ⟨Int.mul_neg_of_neg_of_pos h1 k.1, Int.mul_neg_of_pos_of_neg h2 h3⟩
    · refine .inr (.inl ?_)
      have e : ∀ y, lin (-(x.2 - u.2)) (x.1 - u.1) y = turn u x y + lin (-(x.2 - u.2)) (x.1 - u.1) u := by
        intro y; simp only [lin, turn]; grind
      exact between_of (-(x.2 - u.2)) (x.1 - u.1) h3 (by rw [e, e x]; omega) (by rw [e x, e q]; omega) (by rw [e p, e q]; omega)
    · have := Int.mul_pos hd h3
      exact .inr (.inr ⟨k.2.2 (by omega), h3⟩)
  have B : turn x w p < 0 → crs2 x w p q ∨ has p q x = true ∨ (turn u x p < 0 ∧ turn p q x < 0) := by
    intro h1
    have k := core_a hm hn hb ha hc h h1
    have h2 : turn p q w < 0 := neg_of_mul hd (by have := k.2.1; grind)
    rcases Int.lt_trichotomy (turn p q x) 0 with h3 | h3 | h3
    · have := Int.mul_neg_of_pos_of_neg hd h3
      refine .inr (.inr ⟨k.2.2 (by grind), h3⟩)
    · refine .inr (.inl ?_)
      have e : ∀ y, lin (-(w.2 - x.2)) (w.1 - x.1) y = turn x w y + lin (-(w.2 - x.2)) (w.1 - x.1) x := by
        intro y; simp only [lin, turn]; grind
      exact between_of (-(w.2 - x.2)) (w.1 - x.1) h3 (by rw [e p]; omega) (by rw [e q]; omega) (by rw [e p, e q]; omega)
    · exact .inl ⟨Int.mul_neg_of_neg_of_pos h1 k.1, Int.mul_neg_of_pos_of_neg h3 h2⟩
  rcases h1 with h1 | h1
  · rcases A h1 with h2 | h2 | ⟨h2, h3⟩
    · exact .inl h2
    · exact .inr (.inr h2)
    · rcases B h2 with h4 | h4 | ⟨_, h4⟩
      · exact .inr (.inl h4)
      · exact .inr (.inr h4)
      · omega
  · rcases B h1 with h2 | h2 | ⟨h2, h3⟩
    · exact .inr (.inl h2)
    · exact .inr (.inr h2)
    · rcases A h2 with h4 | h4 | ⟨_, h4⟩
      · exact .inl h4
      · exact .inr (.inr h4)
      · omega

theorem has_comm (a b p : Pt) : has b a p = has a b p := by
  rw [Bool.eq_iff_iff]
  simp only [has, within, turn, Bool.and_eq_true, decide_eq_true_eq, beq_iff_eq]
  constructor <;> rintro ⟨⟨h1, h2⟩, h3⟩ <;> refine ⟨⟨?_, ?_⟩, ?_⟩ <;> first | omega | grind
theorem crs2_swap {a b c d : Pt} (h : crs2 a b c d) : crs2 c d a b := ⟨h.2, h.1⟩
theorem turn_neg (a b c : Pt) : turn b a c = - turn a b c := by simp only [turn]; grind
theorem crs2_rev {a b c d : Pt} (h : crs2 a b c d) : crs2 b a c d := by
  obtain ⟨h1, h2⟩ := h
  exact ⟨by rw [turn_neg a b c, turn_neg a b d, Int.neg_mul_neg]; exact h1, by rw [Int.mul_comm]; exact h2⟩
theorem crs2_rev2 {a b c d : Pt} (h : crs2 a b c d) : crs2 a b d c := crs2_swap (crs2_rev (crs2_swap h))
theorem has_left (a b : Pt) : has a b a = true := by simp only [has, within, turn_aba, Bool.and_eq_true, decide_eq_true_eq, beq_self_eq_true, true_and]; omega
theorem has_right (a b : Pt) : has a b b = true := by simp only [has, within, turn_abb, Bool.and_eq_true, decide_eq_true_eq, beq_self_eq_true, true_and]; omega

theorem has_par {x z v : Pt} (h : has x z v = true) (hne : x ≠ z) : ∃ N k : Int, 0 < N ∧ 0 ≤ k ∧ k ≤ N ∧ N * (v.1 - x.1) = k * (z.1 - x.1) ∧ N * (v.2 - x.2) = k * (z.2 - x.2) := by
  obtain ⟨x1, x2⟩ := x
  obtain ⟨z1, z2⟩ := z
  obtain ⟨v1, v2⟩ := v
  have ht := has_turn h
  simp only [has, within, Bool.and_eq_true, decide_eq_true_eq] at h
  simp only [turn] at ht
  have hne' : ¬ (x1 = z1 ∧ x2 = z2) := fun h => hne (by rw [h.1, h.2])
  clear hne
  rcases Int.lt_trichotomy x1 z1 with h1 | h1 | h1
  · exact ⟨z1 - x1, v1 - x1, by omega, by omega, by omega, by grind, by grind⟩
  · rcases Int.lt_trichotomy x2 z2 with h2 | h2 | h2
    · exact ⟨z2 - x2, v2 - x2, by omega, by omega, by omega, by grind, by grind⟩
    · exact absurd ⟨h1, h2⟩ hne'
    · exact ⟨x2 - z2, x2 - v2, by omega, by omega, by omega, by grind, by grind⟩
  · exact ⟨x1 - z1, x1 - v1, by omega, by omega, by omega, by grind, by grind⟩
theorem par_turn {x z v : Pt} {N k : Int} (h1 : N * (v.1 - x.1) = k * (z.1 - x.1)) (h2 : N * (v.2 - x.2) = k * (z.2 - x.2)) (a b : Pt) :
    N * turn a b v = (N - k) * turn a b x + k * turn a b z := by
  simp only [turn]; grind

abbrev Edge := Pt × Pt
/-- No corner lies on a side that is not one of its own, and no two sides cross. -/
structure Good (V : List Pt) (E : List Edge) : Prop where
  vert : ∀ e ∈ E, ∀ v ∈ V, has e.1 e.2 v = true → v = e.1 ∨ v = e.2
  nocross : ∀ e ∈ E, ∀ f ∈ E, ¬ crs2 e.1 e.2 f.1 f.2
  ends : ∀ e ∈ E, e.1 ∈ V ∧ e.2 ∈ V
def adj (E : List Edge) (p q : Pt) : Prop := (p, q) ∈ E ∨ (q, p) ∈ E
structure SegGood (V : List Pt) (E : List Edge) (x z : Pt) : Prop where
  vert : ∀ v ∈ V, has x z v = true → v = x ∨ v = z
  nocross : ∀ f ∈ E, ¬ crs2 x z f.1 f.2
theorem adj.symm {E : List Edge} {p q : Pt} (h : adj E p q) : adj E q p := h.elim .inr .inl
theorem Good.vert' {V : List Pt} {E : List Edge} (G : Good V E) {p q : Pt} (h : adj E p q) {v : Pt} (hv : v ∈ V) (hh : has p q v = true) : v = p ∨ v = q := by
  rcases h with h | h
  · exact G.vert _ h v hv hh
  · exact (G.vert _ h v hv (by rw [has_comm]; exact hh)).symm
theorem Good.nocross' {V : List Pt} {E : List Edge} (G : Good V E) {p q r t : Pt} (h : adj E p q) (h2 : adj E r t) : ¬ crs2 p q r t := by
  intro hh
  rcases h with h | h <;> rcases h2 with h2 | h2
  · exact G.nocross _ h _ h2 hh
  · exact G.nocross _ h _ h2 (crs2_rev2 hh)
  · exact G.nocross _ h _ h2 (crs2_rev hh)
  · exact G.nocross _ h _ h2 (crs2_rev2 (crs2_rev hh))
theorem Good.ends' {V : List Pt} {E : List Edge} (G : Good V E) {p q : Pt} (h : adj E p q) : p ∈ V ∧ q ∈ V := by
  rcases h with h | h
  · exact G.ends _ h
  · exact (G.ends _ h).symm
theorem SegGood.symm {V : List Pt} {E : List Edge} {x z : Pt} (h : SegGood V E x z) : SegGood V E z x :=
  ⟨fun v hv hh => (h.vert v hv (by rw [has_comm]; exact hh)).symm, fun f hf hh => h.nocross f hf (crs2_rev hh)⟩

theorem exists_max (f : Pt → Int) (P : Pt → Prop) : ∀ l : List Pt, (∃ z ∈ l, P z) → ∃ z ∈ l, P z ∧ ∀ y ∈ l, P y → f y ≤ f z
  | [], h => by obtain ⟨z, h, _⟩ := h; cases h
  | a :: t, h => by
    by_cases ht : ∃ z ∈ t, P z
    · obtain ⟨z, hz, hP, hm⟩ := exists_max f P t ht
      by_cases ha : P a ∧ f z ≤ f a
      · refine ⟨a, List.mem_cons_self, ha.1, fun y hy hPy => ?_⟩
        rcases List.mem_cons.1 hy with rfl | hy
        · exact Int.le_refl _
        · have := hm y hy hPy; omega
      · refine ⟨z, List.mem_cons_of_mem _ hz, hP, fun y hy hPy => ?_⟩
        rcases List.mem_cons.1 hy with rfl | hy
        · exact Int.not_lt.1 fun h => ha ⟨hPy, by omega⟩
        · exact hm y hy hPy
    · obtain ⟨z, hz, hP⟩ := h
      rcases List.mem_cons.1 hz with rfl | hz
      · refine ⟨z, List.mem_cons_self, hP, fun y hy hPy => ?_⟩
        rcases List.mem_cons.1 hy with rfl | hy
        · exact Int.le_refl _
        · exact absurd ⟨y, hy, hPy⟩ ht
      · exact absurd ⟨z, hz, hP⟩ ht

/-- A point of the closed triangle. -/
def inT (u x w z : Pt) : Prop := 0 ≤ turn u x z ∧ 0 ≤ turn x w z ∧ 0 ≤ turn w u z

theorem opp {a b : Int} (h : a * b < 0) : (a < 0 ∧ 0 < b) ∨ (b < 0 ∧ 0 < a) := by
  rcases Int.lt_trichotomy a 0 with h1 | h1 | h1
  · refine .inl ⟨h1, Int.not_le.1 fun h2 => ?_⟩
    have := Int.mul_nonneg_of_nonpos_of_nonpos (Int.le_of_lt h1) h2; omega
  · subst h1; omega
  · exact .inr ⟨neg_of_mul h1 h, h1⟩

theorem seg_empty {V : List Pt} {E : List Edge} {u x w : Pt} (G : Good V E) (hxu : adj E x u) (hxw : adj E x w) (hdeg : ∀ q, adj E x q → q = u ∨ q = w) (hd : 0 < turn u x w)
    (hem : ∀ z ∈ V, inT u x w z → z = u ∨ z = x ∨ z = w) : SegGood V E u w := by
  have hxV := (G.ends' hxu).1
  have step : ∀ p q, adj E p q → crs2 u w p q → turn w u q < 0 → 0 < turn w u p → False := by
    intro p q hpq hcr hq hp
    have e1 : turn p q u - turn p q w = turn w u p - turn w u q := by simp only [turn]; grind
    have e2 := opp hcr.2
    have e3 : 0 < turn p q u ∧ turn p q w < 0 := by omega
    have iu := bary_u u x w p q
    have iw := bary_w u x w p q
    have hpx : p ≠ x := by
      rintro rfl
      rcases hdeg q hpq with rfl | rfl
      · rw [turn_abb] at hq; omega
      · rw [turn_aba] at hq; omega
    have hqx : q ≠ x := by
      rintro rfl
      have := turn_rot w u q
      omega
    have hout : turn u x p < 0 ∨ turn x w p < 0 := by
      refine Classical.byContradiction fun hn => ?_
      rcases hem p (G.ends' hpq).1 ⟨by omega, by omega, by omega⟩ with rfl | rfl | rfl
      · rw [turn_abb] at hp; omega
      · exact hpx rfl
      · rw [turn_aba] at hp; omega
    have k1 := Int.mul_pos hd e3.1
    have k2 := Int.mul_neg_of_pos_of_neg hd e3.2
    have k := core_K (q := q) (m := - turn w u q) (n := turn w u p) hd (by omega) hp (by grind) (by grind) (by grind) hp hout
    rcases k with k | k | k
    · exact G.nocross' hxu.symm hpq k
    · exact G.nocross' hxw hpq k
    · rcases G.vert' hpq hxV k with k | k
      · exact hpx k.symm
      · exact hqx k.symm
  refine ⟨fun v hv hh => ?_, fun f hf hcr => ?_⟩
  · have hne : u ≠ w := by rintro rfl; rw [turn_aba] at hd; omega
    obtain ⟨N, k, h1, h2, h3, h4, h5⟩ := has_par hh hne
    have p1 := par_turn h4 h5 u x
    have p2 := par_turn h4 h5 x w
    have h6 := has_turn hh
    rw [turn_aba] at p1
    rw [turn_abb] at p2
    have p3 := turn_rot u x w
    have q1 : 0 ≤ k * turn u x w := Int.mul_nonneg h2 (Int.le_of_lt hd)
    have q2 : 0 ≤ (N - k) * turn x w u := Int.mul_nonneg (by omega) (by omega)
    have r1 : 0 ≤ turn u x v := Int.not_lt.1 fun h => by have := Int.mul_neg_of_pos_of_neg h1 h; omega
    have r2 : 0 ≤ turn x w v := Int.not_lt.1 fun h => by have := Int.mul_neg_of_pos_of_neg h1 h; omega
    have r3 := turn_neg u w v
    rcases hem v hv ⟨r1, r2, by omega⟩ with h | h | h
    · exact .inl h
    · subst h
      have := turn_neg v w u
      have := turn_rot u w v
      have := turn_neg u v w
      have := turn_rot w v u
      omega
    · exact .inr h
  · obtain ⟨p, q⟩ := f
    have hpq : adj E p q := .inl hf
    simp only at hcr
    have h1 := opp hcr.1
    have r1 := turn_neg u w p
    have r2 := turn_neg u w q
    rcases h1 with ⟨h1, h2⟩ | ⟨h1, h2⟩
    · exact step p q hpq hcr (by omega) (by omega)
    · exact step q p hpq.symm (crs2_rev2 hcr) (by omega) (by omega)

theorem r3_id {m n sx sz cp cq cz D : Int} (e1 : m + n = sx + sz) (ec : m * cp + n * cq = sx * cz + sz * D) : sz * (D - cz) = m * cp + n * cq - m * cz - n * cz := by grind
theorem seg_top {V : List Pt} {E : List Edge} {u x w z : Pt} (G : Good V E) (hxu : adj E x u) (hxw : adj E x w) (hd : 0 < turn u x w)
    (hz : z ∈ V) (hzu : z ≠ u) (hzx : z ≠ x) (hzw : z ≠ w) (hT : inT u x w z) (hmax : ∀ y ∈ V, (y ≠ u ∧ y ≠ x ∧ y ≠ w ∧ inT u x w y) → turn w u y ≤ turn w u z) :
    0 < turn u x z ∧ 0 < turn x w z ∧ SegGood V E x z := by
  have hxV := (G.ends' hxu).1
  obtain ⟨t1, t2, t3⟩ := hT
  have sz := bary_sum u x w z
  have a0 : 0 < turn u x z := by
    refine lt_of_ne' t1 fun h => ?_
    have e : ∀ y, lin (-(w.2 - x.2)) (w.1 - x.1) y = turn x w y + lin (-(w.2 - x.2)) (w.1 - x.1) x := by
      intro y; simp only [lin, turn]; grind
    have h1 := turn_rot u x w
    have h2 := turn_neg u x z
    rcases G.vert' hxu hz (between_of (p := x) (q := u) (-(w.2 - x.2)) (w.1 - x.1) (by omega) (by rw [e z]; omega) (by rw [e z, e u]; omega) (by rw [e u]; omega)) with h | h
    · exact hzx h
    · exact hzu h
  have b0 : 0 < turn x w z := by
    refine lt_of_ne' t2 fun h => ?_
    have e : ∀ y, lin (-(x.2 - u.2)) (x.1 - u.1) y = turn u x y + lin (-(x.2 - u.2)) (x.1 - u.1) u := by
      intro y; simp only [lin, turn]; grind
    have h1 := turn_abb u x
    rcases G.vert' hxw hz (between_of (p := x) (q := w) (-(x.2 - u.2)) (x.1 - u.1) (by omega) (by rw [e x, e z]; omega) (by rw [e z, e w]; omega) (by rw [e x, e w]; omega)) with h | h
    · exact hzx h
    · exact hzw h
  have cx : turn w u x = turn u x w := by rw [← turn_rot]
  refine ⟨a0, b0, ?_, ?_⟩
  · intro v hv hh
    refine Classical.byContradiction fun hn => ?_
    obtain ⟨N, k, h1, h2, h3, h4, h5⟩ := has_par hh (Ne.symm hzx)
    have hvx : v ≠ x := fun h => hn (.inl h)
    have hvz : v ≠ z := fun h => hn (.inr h)
    have hk0 : 0 < k := by
      refine lt_of_ne' h2 fun h => hvx ?_
      subst h
      simp only [Int.zero_mul] at h4 h5
      have := zero_of_mul h1 h4
      have := zero_of_mul h1 h5
      exact Prod.ext (by omega) (by omega)
    have hkN : k < N := by
      refine lt_of_ne' h3 fun h => hvz ?_
      subst h
      have := Int.eq_of_mul_eq_mul_left (by omega) h4
      have := Int.eq_of_mul_eq_mul_left (by omega) h5
      exact Prod.ext (by omega) (by omega)
    have p1 := par_turn h4 h5 u x
    have p2 := par_turn h4 h5 x w
    have p3 := par_turn h4 h5 w u
    rw [turn_abb] at p1
    rw [turn_aba] at p2
    rw [cx] at p3
    have q1 : 0 < k * turn u x z := Int.mul_pos hk0 a0
    have q2 : 0 < k * turn x w z := Int.mul_pos hk0 b0
    have q3 : 0 < (N - k) * (turn u x w - turn w u z) := Int.mul_pos (by omega) (by omega)
    have r1 : 0 < turn u x v := pos_of_mul h1 (by omega)
    have r2 : 0 < turn x w v := pos_of_mul h1 (by omega)
    have r3 : 0 < turn w u v - turn w u z := pos_of_mul h1 (by grind)
    have := hmax v hv ⟨by rintro rfl; rw [turn_aba] at r1; omega, hvx, by rintro rfl; rw [turn_abb] at r2; omega, by omega, by omega, by omega⟩
    omega
  · have core : ∀ (p q : Pt) (m n : Int), adj E p q → turn p q x ≠ 0 → 0 < m → 0 < n → 0 < m * turn u x p + n * turn u x q → 0 < m * turn x w p + n * turn x w q → 0 ≤ m * turn w u p + n * turn w u q → turn w u z < turn w u p → False := by
      intro p q m n hpq hpx hm hn ha hb hc hp
      have hout : turn u x p < 0 ∨ turn x w p < 0 := by
        refine Classical.byContradiction fun hno => ?_
        have := hmax p (G.ends' hpq).1 ⟨by rintro rfl; rw [turn_abb] at hp; omega, by rintro rfl; exact hpx (turn_aba _ _), by rintro rfl; rw [turn_aba] at hp; omega, by omega, by omega, by omega⟩
        omega
      rcases core_K hd hm hn ha hb hc (by omega) hout with k | k | k
      · exact G.nocross' hxu.symm hpq k
      · exact G.nocross' hxw hpq k
      · rcases G.vert' hpq hxV k with k | k
        · subst k; exact hpx (turn_aba _ _)
        · subst k; exact hpx (turn_abb _ _)
    rintro ⟨p, q⟩ hf hcr
    have hpq : adj E p q := .inl hf
    simp only at hcr
    have e1 : turn x z q - turn x z p = turn p q x - turn p q z := by simp only [turn]; grind
    have ea : turn x z q * turn u x p - turn x z p * turn u x q = turn p q x * turn u x z := by simp only [turn]; grind
    have eb : turn x z q * turn x w p - turn x z p * turn x w q = turn p q x * turn x w z := by simp only [turn]; grind
    have ec : turn x z q * turn w u p - turn x z p * turn w u q = turn p q x * turn w u z - turn p q z * turn u x w := by simp only [turn]; grind
    have hpx' : turn q p x = - turn p q x := turn_neg p q x
    have o1 := opp hcr.1
    have o2 := opp hcr.2
    have main : ∀ (p q : Pt) (m n sx sz : Int), adj E p q → turn p q x ≠ 0 → 0 < m → 0 < n → 0 < sx → 0 < sz → m + n = sx + sz →
        m * turn u x p + n * turn u x q = sx * turn u x z → m * turn x w p + n * turn x w q = sx * turn x w z → m * turn w u p + n * turn w u q = sx * turn w u z + sz * turn u x w → False := by
      intro p q m n sx sz hpq hpx hm hn hsx hsz e1 ea eb ec
      have q1 := Int.mul_pos hsx a0
      have q2 := Int.mul_pos hsx b0
      have q3 : 0 ≤ sx * turn w u z := Int.mul_nonneg (by omega) t3
      have q4 := Int.mul_pos hsz hd
      have q5 : 0 < sz * (turn u x w - turn w u z) := Int.mul_pos hsz (by omega)
      by_cases h : turn w u z < turn w u p
      · exact core p q m n hpq hpx hm hn (by omega) (by omega) (by omega) h
      · refine core q p n m hpq.symm (by rw [turn_neg p q x]; omega) hn hm (by omega) (by omega) (by omega) ?_
        refine Int.not_le.1 fun h2 => ?_
        have r1 : m * turn w u p ≤ m * turn w u z := Int.mul_le_mul_of_nonneg_left (by omega) (by omega)
        have r2 : n * turn w u q ≤ n * turn w u z := Int.mul_le_mul_of_nonneg_left h2 (by omega)
        have r3 := r3_id e1 ec
        omega
    have hne : turn p q x ≠ 0 := by omega
    rcases o1 with ⟨o1, o1'⟩ | ⟨o1, o1'⟩
    · exact main p q (turn x z q) (- turn x z p) (turn p q x) (- turn p q z) hpq hne (by omega) (by omega) (by omega) (by omega) (by omega) (by grind) (by grind) (by grind)
    · exact main p q (- turn x z q) (turn x z p) (- turn p q x) (turn p q z) hpq hne (by omega) (by omega) (by omega) (by omega) (by omega) (by grind) (by grind) (by grind)

theorem dich {V : List Pt} {E : List Edge} {u x w : Pt} (G : Good V E) (hxu : adj E x u) (hxw : adj E x w) (hdeg : ∀ q, adj E x q → q = u ∨ q = w) (hd : 0 < turn u x w) :
    (∃ z ∈ V, z ≠ u ∧ z ≠ x ∧ z ≠ w ∧ inT u x w z ∧ 0 < turn u x z ∧ 0 < turn x w z ∧ SegGood V E x z) ∨ ((∀ z ∈ V, inT u x w z → z = u ∨ z = x ∨ z = w) ∧ SegGood V E u w) := by
  by_cases h : ∃ z ∈ V, z ≠ u ∧ z ≠ x ∧ z ≠ w ∧ inT u x w z
  · obtain ⟨z, hz, ⟨h1, h2, h3, h4⟩, hm⟩ := exists_max (turn w u) (fun z => z ≠ u ∧ z ≠ x ∧ z ≠ w ∧ inT u x w z) V h
    have k := seg_top G hxu hxw hd hz h1 h2 h3 h4 hm
    exact .inl ⟨z, hz, h1, h2, h3, h4, k⟩
  · have hem : ∀ z ∈ V, inT u x w z → z = u ∨ z = x ∨ z = w := fun z hz hT => Classical.byContradiction fun hn => h ⟨z, hz, fun h => hn (.inl h), fun h => hn (.inr (.inl h)), fun h => hn (.inr (.inr h)), hT⟩
    exact .inr ⟨hem, seg_empty G hxu hxw hdeg hd hem⟩
end Go.Proofs.Ytijpolfmiajenaa
