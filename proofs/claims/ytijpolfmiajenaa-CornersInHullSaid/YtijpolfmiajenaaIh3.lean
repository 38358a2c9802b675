/- A simple polygon whose corners all lie on the sides of their hull has all corners to the left of each of its sides. -/
import Derived.Test.YtijpolfmiajenaaIh2
namespace Go.Proofs.Ytijpolfmiajenaa

theorem tri_side {s : Int} {P : List Pt} (h : Tri s P) : ∀ e ∈ ring P, ∃ c ∈ P, 0 < s * turn e.1 e.2 c := by
  induction h with
  | tri a b c hp =>
    intro e he
    simp only [ring, chain, List.cons_append, List.nil_append, List.mem_cons, List.not_mem_nil, or_false] at he
    rcases he with rfl | rfl | rfl
    · exact ⟨c, by simp, hp⟩
    · exact ⟨a, by simp, by rw [turn_rot]; exact hp⟩
    · exact ⟨b, by simp, by rw [← turn_rot, turn_rot, ← turn_rot c a b]; exact hp⟩
  | cut x A z B hne h1 h2 ih1 ih2 =>
    intro e he
    have e0 : ring (x :: (A ++ z :: B)) = chain x (A ++ [z]) ++ chain z (B ++ [x]) := by
      show chain x (A ++ z :: B ++ [x]) = _
      rw [List.append_assoc, List.cons_append, chain_cut]
    have e1 : ring (x :: (A ++ [z])) = chain x (A ++ [z]) ++ chain z [x] := by
      show chain x (A ++ [z] ++ [x]) = _
      rw [List.append_assoc, List.singleton_append, chain_cut]
    rw [e0] at he
    rcases List.mem_append.1 he with k | k
    · obtain ⟨c, hc, h⟩ := ih1 e (by rw [e1]; exact List.mem_append_left _ k)
      refine ⟨c, ?_, h⟩
      simp only [List.mem_cons, List.mem_append, List.not_mem_nil, or_false] at hc ⊢
      rcases hc with hc | hc | hc
      · exact .inl hc
      · exact .inr (.inl hc)
      · exact .inr (.inr (.inl hc))
    · obtain ⟨c, hc, h⟩ := ih2 e (by show e ∈ (x, z) :: chain z (B ++ [x]); exact List.mem_cons_of_mem _ k)
      refine ⟨c, ?_, h⟩
      simp only [List.mem_cons, List.mem_append] at hc ⊢
      rcases hc with hc | hc | hc
      · exact .inl hc
      · exact .inr (.inr (.inl hc))
      · exact .inr (.inr (.inr hc))
  | rot A B h ih =>
    intro e he
    obtain ⟨c, hc, h⟩ := ih e ((ring_rot A B).mem_iff.2 he)
    exact ⟨c, by simp only [List.mem_append] at hc ⊢; exact hc.symm, h⟩
theorem chain_change {f : Pt → Int} : ∀ (x : Pt) (t : List Pt), (∀ v ∈ x :: t, f v ≠ 0) → (∃ c ∈ x :: t, 0 < f c) → (∃ d ∈ x :: t, f d < 0) → ∃ e ∈ chain x t, (f e.1 < 0 ∧ 0 < f e.2) ∨ (0 < f e.1 ∧ f e.2 < 0)
  | x, [], h, ⟨c, hc, h1⟩, ⟨d, hd, h2⟩ => by
    rw [List.mem_singleton] at hc hd
    subst hc
    subst hd
    omega
  | x, y :: t, h, ⟨c, hc, h1⟩, ⟨d, hd, h2⟩ => by
    have nx := h x List.mem_cons_self
    have ny := h y (List.mem_cons_of_mem _ List.mem_cons_self)
    by_cases q : (f x < 0 ∧ 0 < f y) ∨ (0 < f x ∧ f y < 0)
    · exact ⟨(x, y), by simp [chain], q⟩
    · have k1 : ∃ c ∈ y :: t, 0 < f c := by
        rcases List.mem_cons.1 hc with rfl | hc
        · exact ⟨y, List.mem_cons_self, by omega⟩
        · exact ⟨c, hc, h1⟩
      have k2 : ∃ d ∈ y :: t, f d < 0 := by
        rcases List.mem_cons.1 hd with rfl | hd
        · exact ⟨y, List.mem_cons_self, by omega⟩
        · exact ⟨d, hd, h2⟩
      obtain ⟨e, he, h3⟩ := chain_change y t (fun v hv => h v (List.mem_cons_of_mem _ hv)) k1 k2
      exact ⟨e, by rw [chain]; exact List.mem_cons_of_mem _ he, h3⟩
/-- Two points on a side's line, all others to the left of that side: not on both sides of the two. -/
theorem not_two {p q a b c d : Pt} (hpq : p ≠ q) (ha : turn p q a = 0) (hb : turn p q b = 0) (hc : 0 ≤ turn p q c) (hd : 0 ≤ turn p q d) : ¬ (0 < turn a b c ∧ turn a b d < 0) := fun ⟨h1, h2⟩ => by
  obtain ⟨α, β, -, hlt⟩ := pick_lin hpq
  have e1 := tl α β p q a b c
  have e2 := tl α β p q a b d
  rw [ha, hb] at e1 e2
  have k1 := Int.mul_pos (show 0 < lin α β q - lin α β p by omega) h1
  have k2 := Int.mul_neg_of_pos_of_neg (show 0 < lin α β q - lin α β p by omega) h2
  rcases Int.lt_or_le 0 (lin α β b - lin α β a) with k | k
  · have := Int.mul_nonneg (Int.le_of_lt k) hd
    omega
  · have := Int.mul_nonpos_of_nonpos_of_nonneg k hc
    omega
theorem on_both {p q a b x : Pt} (hpq : p ≠ q) (ha : turn p q a = 0) (hb : turn p q b = 0) (hx : turn p q x = 0) : turn a b x = 0 := by
  obtain ⟨α, β, -, hlt⟩ := pick_lin hpq
  exact coll_of hlt ha hb hx
theorem bary_t (u x w v p q : Pt) : turn u x w * turn p q v = turn x w v * turn p q u + turn w u v * turn p q x + turn u x v * turn p q w := by
  have h := bary_lin (-(q.2 - p.2)) (q.1 - p.1) u x w v
  have hs := bary_sum u x w v
  have e : ∀ z : Pt, turn p q z = lin (-(q.2 - p.2)) (q.1 - p.1) z - lin (-(q.2 - p.2)) (q.1 - p.1) p := fun z => by simp only [turn, lin]; grind
  rw [e v, e u, e x, e w]
  generalize lin (-(q.2 - p.2)) (q.1 - p.1) v = Lv at *
  generalize lin (-(q.2 - p.2)) (q.1 - p.1) u = Lu at *
  generalize lin (-(q.2 - p.2)) (q.1 - p.1) x = Lx at *
  generalize lin (-(q.2 - p.2)) (q.1 - p.1) w = Lw at *
  generalize lin (-(q.2 - p.2)) (q.1 - p.1) p = Lp at *
  rw [← hs] at h ⊢
  grind
theorem turn_as (a b z : Pt) : turn a b z = lin (-(b.2 - a.2)) (b.1 - a.1) z - lin (-(b.2 - a.2)) (b.1 - a.1) a := by simp only [turn, lin]; grind
theorem three_zero {A B C x y z : Int} (h : A * x + B * y + C * z = 0) (hA : 0 < A) (hB : 0 < B) (hC : 0 < C) (hx : 0 ≤ x) (hy : 0 ≤ y) (hz : 0 ≤ z) : x = 0 ∧ y = 0 ∧ z = 0 := by
  have k1 := Int.mul_nonneg (Int.le_of_lt hA) hx
  have k2 := Int.mul_nonneg (Int.le_of_lt hB) hy
  have k3 := Int.mul_nonneg (Int.le_of_lt hC) hz
  exact ⟨zero_of_mul hA (by omega), zero_of_mul hB (by omega), zero_of_mul hC (by omega)⟩
section
variable {l K : List Pt} (H : Hull l K) (hon : ∀ v ∈ l, ∃ e ∈ ring K, has e.1 e.2 v = true)
include H hon
theorem Hull.three {a b v c d : Pt} (ha : a ∈ l) (hb : b ∈ l) (hv : v ∈ l) (hc : c ∈ l) (hd : d ∈ l) (hab : a ≠ b) (h1 : v ≠ a) (h2 : v ≠ b) (h0 : turn a b v = 0) : ¬ (0 < turn a b c ∧ turn a b d < 0) := by
  have key : ∀ m e1 e2 : Pt, m ∈ l → e1 ∈ l → e2 ∈ l → has e1 e2 m = true → m ≠ e1 → m ≠ e2 → ∃ f ∈ ring K, turn f.1 f.2 m = 0 ∧ turn f.1 f.2 e1 = 0 ∧ turn f.1 f.2 e2 = 0 := fun m e1 e2 hm he1 he2 hh n1 n2 => by
    obtain ⟨f, hf, hfm⟩ := hon m hm
    have z := has_turn hfm
    have k1 := ((H.next f hf).2.2 e1 he1).1
    have k2 := ((H.next f hf).2.2 e2 he2).1
    refine ⟨f, hf, z, ?_⟩
    rcases mid_turn hh n1 n2 f.1 f.2 z with w | w | w
    · exact w
    · omega
    · omega
  have fin : (∃ f ∈ ring K, turn f.1 f.2 a = 0 ∧ turn f.1 f.2 b = 0) → ¬ (0 < turn a b c ∧ turn a b d < 0) := fun ⟨f, hf, z1, z2⟩ =>
    not_two (H.next f hf).1 z1 z2 ((H.next f hf).2.2 c hc).1 ((H.next f hf).2.2 d hd).1
  obtain ⟨α, β, hα, hlt⟩ := pick_lin hab
  have n1 : lin α β v ≠ lin α β a := fun w => h1 (coll_eq hα hlt h0 (turn_aba a b) w)
  have n2 : lin α β v ≠ lin α β b := fun w => h2 (coll_eq hα hlt h0 (turn_abb a b) w)
  refine fin ?_
  rcases Int.lt_or_le (lin α β v) (lin α β a) with q | q
  · have hh : has v b a = true := between_of α β (by rw [← turn_rot, turn_rot, ← turn_rot v b a]; rw [turn_rot]; have := turn_rot a b v; have := turn_rev v b a; omega) (by omega) (by omega) (by omega)
    obtain ⟨f, hf, z0, z1, z2⟩ := key a v b ha hv hb hh (fun w => h1 w.symm) hab
    exact ⟨f, hf, z0, z2⟩
  · rcases Int.lt_or_le (lin α β b) (lin α β v) with r | r
    · have hh : has a v b = true := between_of α β (by have := turn_fl a b v; omega) (by omega) (by omega) (by omega)
      obtain ⟨f, hf, z0, z1, z2⟩ := key b a v hb ha hv hh (fun w => hab w.symm) (fun w => h2 w.symm)
      exact ⟨f, hf, z1, z0⟩
    · have hh : has a b v = true := between_of α β h0 q r hlt
      obtain ⟨f, hf, z0, z1, z2⟩ := key v a b hv ha hb hh h1 h2
      exact ⟨f, hf, z1, z2⟩
/-- No side of l crosses from one side of another one to the other. -/
theorem Hull.nocr {a b x y : Pt} (hl : Simp l) (hab : adj (ring l) a b) (hxy : adj (ring l) x y) (h1 : turn a b x < 0) (h2 : 0 < turn a b y) : False := by
  obtain ⟨ma, mb⟩ := hl.good.ends' hab
  obtain ⟨mx, my⟩ := hl.good.ends' hxy
  have x1 : ∀ z, turn a b z = 0 → z ∈ l → turn x y z = 0 → False := fun z hz mz ht => by
    have hh : has x y z = true := by
      have e1 := turn_as a b x
      have e2 := turn_as a b y
      have e3 := turn_as a b z
      exact between_of (-(b.2 - a.2)) (b.1 - a.1) ht (by omega) (by omega) (by omega)
    rcases hl.good.vert' hxy mz hh with q | q
    · rw [← q] at h1; omega
    · rw [← q] at h2; omega
  have t1 : turn x y a ≠ 0 := fun q => x1 a (turn_aba a b) ma q
  have t2 : turn x y b ≠ 0 := fun q => x1 b (turn_abb a b) mb q
  have r1 : turn y a b = turn a b y := by rw [← turn_rot y a b]
  have r2 : turn a x b = - turn a b x := turn_fl a b x
  have r3 : turn y b a = - turn a b y := by rw [turn_rev]
  have r4 : turn b x a = turn a b x := by rw [turn_rot]
  have r5 : turn b x y = turn x y b := by rw [← turn_rot b x y]
  have r6 : turn a x y = turn x y a := by rw [← turn_rot a x y]
  rcases Int.lt_or_le 0 (turn x y a) with q | q <;> rcases Int.lt_or_le 0 (turn x y b) with r | r
  · obtain ⟨f, hf, hfb⟩ := hon b mb
    have z := has_turn hfb
    have B := bary_t a x y b f.1 f.2
    rw [z, Int.mul_zero, r1, r2] at B
    obtain ⟨z1, z2, z3⟩ := three_zero B.symm r h2 (by omega) ((H.next f hf).2.2 a ma).1 ((H.next f hf).2.2 x mx).1 ((H.next f hf).2.2 y my).1
    have := on_both (H.next f hf).1 z1 z z2
    omega
  · exact hl.good.nocross' hab hxy ⟨Int.mul_neg_of_neg_of_pos h1 h2, Int.mul_neg_of_pos_of_neg q (by omega)⟩
  · exact hl.good.nocross' hab hxy ⟨Int.mul_neg_of_neg_of_pos h1 h2, Int.mul_neg_of_neg_of_pos (by omega) r⟩
  · obtain ⟨f, hf, hfa⟩ := hon a ma
    have z := has_turn hfa
    have B := bary_t b x y a f.1 f.2
    rw [z, Int.mul_zero, r3, r4] at B
    have B2 : (- turn x y a) * turn f.1 f.2 b + turn a b y * turn f.1 f.2 x + (- turn a b x) * turn f.1 f.2 y = 0 := by
      rw [Int.neg_mul, Int.neg_mul]
      rw [Int.neg_mul] at B
      omega
    obtain ⟨z1, z2, z3⟩ := three_zero B2 (by omega) h2 (by omega) ((H.next f hf).2.2 b mb).1 ((H.next f hf).2.2 x mx).1 ((H.next f hf).2.2 y my).1
    have := on_both (H.next f hf).1 z z1 z2
    omega
theorem Hull.flat (hl : Simp l) (ht : Tri 1 l) : ∀ e ∈ ring l, ∀ v ∈ l, 0 ≤ turn e.1 e.2 v := by
  rintro ⟨a, b⟩ he d hd
  refine Int.not_lt.1 fun hneg => ?_
  simp only at hneg
  obtain ⟨c, hc, hpos⟩ := tri_side ht _ he
  rw [Int.one_mul] at hpos
  simp only at hpos
  have ma := (ring_mem he).1
  have mb := (ring_mem he).2
  simp only at ma mb
  obtain ⟨A, B, eAB⟩ := List.append_of_mem ma
  have hr := ring_rot A (a :: B)
  rw [← eAB, List.cons_append] at hr
  have hs : Simp (a :: (B ++ A)) := by
    have := hl
    rw [eAB] at this
    exact this.rot
  have hmem : ∀ v, v ∈ a :: (B ++ A) ↔ v ∈ l := fun v => by
    rw [eAB]
    simp only [List.mem_cons, List.mem_append]
    constructor
    · rintro (h | h | h)
      · exact .inr (.inl h)
      · exact .inr (.inr h)
      · exact .inl h
    · rintro (h | h | h)
      · exact .inr (.inr h)
      · exact .inl h
      · exact .inr (.inl h)
  generalize B ++ A = N at *
  have hlen := hs.len
  match N, hr, hs, hmem, hlen with
  | w :: y :: t, hr, hs, hmem, _ =>
    have hn := hs.nodup
    have hb : b = w := by
      rcases List.eq_nil_or_concat (y :: t) with q | ⟨M, u, q⟩
      · simp at q
      · rw [List.concat_eq_append] at q
        rw [q] at hn hr
        exact (first_sides hn).2 (hr.mem_iff.1 he)
    subst hb
    have ed : ∀ e ∈ chain y t, e ∈ ring l := fun e h => by
      refine hr.mem_iff.2 ?_
      show e ∈ chain a (b :: y :: t ++ [a])
      simp only [List.cons_append, chain]
      refine List.mem_cons_of_mem _ (List.mem_cons_of_mem _ ?_)
      cases t with
      | nil => simp [chain] at h
      | cons z t =>
        have := chain_cut a [] y (z :: t)
        rcases List.eq_nil_or_concat (z :: t) with q | ⟨M, u, q⟩
        · simp at q
        · rw [List.concat_eq_append] at q
          rw [q] at h ⊢
          rw [List.append_assoc, List.singleton_append, chain_cut]
          exact List.mem_append_left _ h
    simp only [List.nodup_cons, List.mem_cons, not_or] at hn
    obtain ⟨⟨n1, n2, n3⟩, ⟨n4, n5⟩, -⟩ := hn
    have hin : ∀ v ∈ y :: t, v ∈ l ∧ v ≠ a ∧ v ≠ b := fun v hv => by
      refine ⟨(hmem v).1 (List.mem_cons_of_mem _ (List.mem_cons_of_mem _ hv)), fun q => ?_, fun q => ?_⟩
      · rcases List.mem_cons.1 hv with z | z
        · exact n2 (q ▸ z)
        · exact n3 (q ▸ z)
      · rcases List.mem_cons.1 hv with z | z
        · exact n4 (q ▸ z)
        · exact n5 (q ▸ z)
    have hin2 : ∀ v ∈ l, turn a b v ≠ 0 → v ∈ y :: t := fun v hv h0 => by
      have := (hmem v).2 hv
      rcases List.mem_cons.1 this with rfl | this
      · exact absurd (turn_aba _ _) h0
      · rcases List.mem_cons.1 this with rfl | this
        · exact absurd (turn_abb _ _) h0
        · exact this
    obtain ⟨e, he2, hch⟩ := chain_change (f := turn a b) y t (fun v hv h0 => H.three hon ma mb (hin v hv).1 hc hd n1 (hin v hv).2.1 (hin v hv).2.2 h0 ⟨hpos, hneg⟩) ⟨c, hin2 c hc (by omega), hpos⟩ ⟨d, hin2 d hd (by omega), hneg⟩
    rcases hch with ⟨g1, g2⟩ | ⟨g1, g2⟩
    · exact H.nocr hon hl (.inl he) (.inl (ed e he2)) g1 g2
    · exact H.nocr hon hl (.inl he) (.inr (ed e he2)) g2 g1
end
end Go.Proofs.Ytijpolfmiajenaa
