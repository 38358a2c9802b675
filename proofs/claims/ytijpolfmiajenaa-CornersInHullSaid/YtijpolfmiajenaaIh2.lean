/- The hull of points is a simple polygon; the windings at the points that it goes around. -/
import Derived.Test.YtijpolfmiajenaaHpl
import Derived.Test.YtijpolfmiajenaaIh1
import Derived.Test.YtijpolfmiajenaaWpt
namespace Go.Proofs.Ytijpolfmiajenaa

/-- A hull's corners: each one's next one is known. -/
structure Hull (l K : List Pt) : Prop where
  next : ∀ e ∈ ring K, NextP l e.1 e.2
  len : 3 ≤ K.length
  fresh : ∀ m, 0 < m → m < K.length → pat K m ≠ pat K 0
theorem hull_of {l : List Pt} (hB : PtsB l) (hL : ¬ LineB l) : Hull l (hullL (srt2 l)) := by
  obtain ⟨p0, h1, h2, h3⟩ := hull_gift hB hL
  exact ⟨fun e he => next_srt (h1.ring_next e he), h3, h2.fresh⟩
theorem pat_nodup {K : List Pt} (h : ∀ i j, i < j → j < K.length → pat K i ≠ pat K j) : K.Nodup := by
  unfold List.Nodup
  rw [List.pairwise_iff_getElem]
  intro i j hi hj hij
  rw [pat_eq hi, pat_eq hj]
  exact h i j hij hj
theorem cross_id (a b c d v x : Pt) (α β : Int) : ((b.1 - a.1) * (d.2 - c.2) - (b.2 - a.2) * (d.1 - c.1)) * (lin α β x - lin α β v) = (turn a b x - turn a b v) * (lin α β d - lin α β c) - (turn c d x - turn c d v) * (lin α β b - lin α β a) := by
  simp only [turn, lin]
  grind
theorem lwB_lin {a b : Pt} (ha : isPt a = true) (hb : isPt b = true) (h : lwB a b = true) : lin (-1) 1000 a < lin (-1) 1000 b := by
  have h1 := pt_rng ha
  have h2 := pt_rng hb
  have h3 := (lwB_iff a b).1 h
  unfold lin
  omega
theorem lin_inj2 {a b : Pt} (ha : isPt a = true) (hb : isPt b = true) (h : lin (-1) 1000 a = lin (-1) 1000 b) : a = b := by
  have h1 := pt_rng ha
  have h2 := pt_rng hb
  unfold lin at h
  exact Prod.ext (by omega) (by omega)
section
variable {l K : List Pt} (H : Hull l K)
include H
theorem Hull.sub {v : Pt} (hv : v ∈ K) : v ∈ l := by
  obtain ⟨-, u, hu⟩ := nbrs hv
  exact (H.next _ hu).2.1
theorem Hull.nodup : K.Nodup := by
  have h0 : 0 < K.length := by have := H.len; omega
  refine pat_nodup fun i j hij hj he => ?_
  have key : ∀ d, pat K ((i + d) % K.length) = pat K ((j + d) % K.length) := by
    intro d
    induction d with
    | zero => rw [Nat.add_zero, Nat.add_zero, Nat.mod_eq_of_lt (by omega), Nat.mod_eq_of_lt hj, he]
    | succ d ih =>
      have n1 := H.next _ (ring_at (K := K) (m := (i + d) % K.length) (Nat.mod_lt _ h0))
      have n2 := H.next _ (ring_at (K := K) (m := (j + d) % K.length) (Nat.mod_lt _ h0))
      simp only at n1 n2
      rw [Nat.mod_add_mod] at n1 n2
      rw [ih] at n1
      exact n1.one n2
  have k := key (K.length - j)
  rw [show j + (K.length - j) = K.length by omega, Nat.mod_self, Nat.mod_eq_of_lt (by omega)] at k
  exact H.fresh _ (by omega) (by omega) k
theorem Hull.strict {e : Edge} (he : e ∈ ring K) {c : Pt} (hc : c ∈ K) (h1 : c ≠ e.1) (h2 : c ≠ e.2) : 0 < turn e.1 e.2 c := by
  obtain ⟨a, b⟩ := e
  simp only at h1 h2 ⊢
  obtain ⟨n1, n2, n3⟩ := H.next _ he
  simp only at n1 n2 n3
  have k := n3 c (H.sub hc)
  rcases Int.lt_or_eq_of_le k.1 with q | q
  · exact q
  exfalso
  have hh := k.2 q.symm
  obtain ⟨⟨d, hd⟩, -⟩ := nbrs hc
  obtain ⟨m1, m2, m3⟩ := H.next _ hd
  simp only at m1 m2 m3
  have ha := m3 a (H.sub (ring_mem he).1)
  have hb := m3 b n2
  have z : turn c d a = 0 ∧ turn c d b = 0 := by
    rcases mid_turn hh h1 h2 c d (turn_aba c d) with z | z | z
    · exact z
    · omega
    · omega
  have ka := ha.2 z.1
  have kb := hb.2 z.2
  obtain ⟨α, β, hα, hlt⟩ := pick_lin n1
  have b1 := lin_has α β hh hα
  have b2 := lin_has α β ka hα
  have b3 := lin_has α β kb hα
  have s1 : lin α β c ≠ lin α β a := fun w => h1 (coll_eq hα hlt q.symm (turn_aba a b) w)
  have s2 : lin α β c ≠ lin α β b := fun w => h2 (coll_eq hα hlt q.symm (turn_abb a b) w)
  omega
theorem Hull.simp : Simp K := by
  refine ⟨H.len, H.nodup, fun e he v hv hh => ?_, fun e he f hf hc => ?_, fun e he => ring_mem he⟩
  · by_cases h1 : v = e.1
    · exact .inl h1
    · by_cases h2 : v = e.2
      · exact .inr h2
      · have := H.strict he hv h1 h2
        have := has_turn hh
        omega
  · have k1 := ((H.next e he).2.2 _ (H.sub (ring_mem hf).1)).1
    have k2 := ((H.next e he).2.2 _ (H.sub (ring_mem hf).2)).1
    have := Int.mul_nonneg k1 k2
    have := hc.1
    omega
theorem Hull.wc : Wc K l := by
  refine ⟨fun q => ?_, fun e he => (H.next e he).1, fun e he v hv => ((H.next e he).2.2 v (H.sub hv)).1, fun e he v hv => ((H.next e he).2.2 v hv).1⟩
  have := H.len
  rw [q] at this
  simp at this
/-- A third corner. -/
theorem Hull.third (a b : Pt) : ∃ c ∈ K, c ≠ a ∧ c ≠ b := by
  have hn := H.nodup
  have hl := H.len
  match K, hn, hl with
  | x :: y :: z :: t, hn, _ =>
    simp only [List.nodup_cons, List.mem_cons, not_or] at hn
    obtain ⟨⟨h1, h2, -⟩, ⟨h3, -⟩, -⟩ := hn
    by_cases c1 : x = a ∨ x = b
    · by_cases c2 : y = a ∨ y = b
      · refine ⟨z, by simp, fun q => ?_, fun q => ?_⟩
        · rcases c1 with c1 | c1
          · exact h2 (c1.trans q.symm)
          · rcases c2 with c2 | c2
            · exact h3 (c2.trans q.symm)
            · exact h1 (c1.trans c2.symm)
        · rcases c1 with c1 | c1
          · rcases c2 with c2 | c2
            · exact h1 (c1.trans c2.symm)
            · exact h3 (c2.trans q.symm)
          · exact h2 (c1.trans q.symm)
      · exact ⟨y, by simp, fun q => c2 (.inl q), fun q => c2 (.inr q)⟩
    · exact ⟨x, by simp, fun q => c1 (.inl q), fun q => c1 (.inr q)⟩
theorem Hull.wind (v : Pt) : 0 ≤ wnd K v ∧ 0 ≤ wndm K v ∧ ((∀ e ∈ ring K, Lf e.1 e.2 v) → 1 ≤ wnd K v) ∧ ((∀ e ∈ ring K, Lf (neg e.1) (neg e.2) (neg v)) → 1 ≤ wndm K v) := by
  have W := H.wc
  refine ⟨?_, ?_, fun q => wnd_full W.ne W.edge W.own q, fun q => ?_⟩
  · rcases W.cases v with q | ⟨q, -⟩ <;> omega
  · unfold wndm
    rcases W.negs.cases (neg v) with q | ⟨q, -⟩ <;> omega
  · refine wnd_full W.negs.ne W.negs.edge W.negs.own fun e he => ?_
    rw [ring_negs] at he
    obtain ⟨f, hf, rfl⟩ := List.mem_map.1 he
    exact q f hf
/-- A point of l on no side. -/
theorem Hull.deep {v : Pt} (hv : v ∈ l) (hn : ∀ e ∈ ring K, has e.1 e.2 v = false) : 1 ≤ wnd K v ∧ 1 ≤ wndm K v := by
  have k : ∀ e ∈ ring K, 0 < turn e.1 e.2 v := fun e he => by
    have h1 := (H.next e he).2.2 v hv
    rcases Int.lt_or_eq_of_le h1.1 with q | q
    · exact q
    · have := h1.2 q.symm
      rw [hn e he] at this
      cases this
  obtain ⟨-, -, h3, h4⟩ := H.wind v
  exact ⟨h3 fun e he => .inl (k e he), h4 fun e he => .inl (by rw [turn_negs]; exact k e he)⟩
/-- A point that is neither the highest nor the lowest one. -/
theorem Hull.mid (hpt : ∀ v ∈ l, isPt v = true) {v : Pt} (hv : v ∈ l) (hx : ∃ x ∈ l, lin (-1) 1000 x < lin (-1) 1000 v) (hy : ∃ y ∈ l, lin (-1) 1000 v < lin (-1) 1000 y) : 1 ≤ wkk K v := by
  obtain ⟨w1, w2, w3, w4⟩ := H.wind v
  by_cases q1 : ∀ e ∈ ring K, Lf e.1 e.2 v
  · have := w3 q1; unfold wkk; omega
  by_cases q2 : ∀ e ∈ ring K, Lf (neg e.1) (neg e.2) (neg v)
  · have := w4 q2; unfold wkk; omega
  exfalso
  have e1 : ∃ e ∈ ring K, ¬ Lf e.1 e.2 v := Classical.byContradiction fun k => q1 fun e he => Classical.byContradiction fun z => k ⟨e, he, z⟩
  have e2 : ∃ e ∈ ring K, ¬ Lf (neg e.1) (neg e.2) (neg v) := Classical.byContradiction fun k => q2 fun e he => Classical.byContradiction fun z => k ⟨e, he, z⟩
  obtain ⟨⟨a, b⟩, hab, n1⟩ := e1
  obtain ⟨⟨c, d⟩, hcd, n2⟩ := e2
  simp only at n1 n2
  have l1 := H.wc.left _ hab
  have l2 := H.wc.left _ hcd
  simp only at l1 l2
  have t1 := not_lf n1
  have t2 := not_lf n2
  rw [turn_negs] at t2
  have z1 : turn a b v = 0 := by have := l1 v hv; omega
  have z2 : turn c d v = 0 := by have := l2 v hv; omega
  have ma := H.sub (ring_mem hab).1
  have mb := H.sub (ring_mem hab).2
  have mc := H.sub (ring_mem hcd).1
  have md := H.sub (ring_mem hcd).2
  simp only at ma mb mc md
  have u1 : lwB a b = true := by
    rcases lw_tri a b (H.next _ hab).1 with q | q
    · exact q
    · have := t1.2 q; omega
  have u2 : lwB d c = true := by
    rcases lw_tri c d (H.next _ hcd).1 with q | q
    · have : lwB (neg d) (neg c) = true := by
        rw [lwB_iff] at q ⊢
        simp only [neg]
        omega
      have := t2.2 this
      omega
    · exact q
  have f1 := lwB_lin (hpt a ma) (hpt b mb) u1
  have f2 := lwB_lin (hpt d md) (hpt c mc) u2
  have id := fun x => cross_id a b c d v x (-1) 1000
  rw [z1, z2] at id
  generalize (b.1 - a.1) * (d.2 - c.2) - (b.2 - a.2) * (d.1 - c.1) = cr at id
  have sg : ∀ x ∈ l, (turn a b x - 0) * (lin (-1) 1000 d - lin (-1) 1000 c) ≤ 0 ∧ 0 ≤ (turn c d x - 0) * (lin (-1) 1000 b - lin (-1) 1000 a) := fun x hx =>
    ⟨Int.mul_nonpos_of_nonneg_of_nonpos (by have := l1 x hx; omega) (by omega), Int.mul_nonneg (by have := l2 x hx; omega) (by omega)⟩
  obtain ⟨x, hx, hfx⟩ := hx
  obtain ⟨y, hy, hfy⟩ := hy
  have c1 : 0 ≤ cr := Int.not_lt.1 fun k => by
    have := id x
    have := sg x hx
    have := Int.mul_pos_of_neg_of_neg k (show lin (-1) 1000 x - lin (-1) 1000 v < 0 by omega)
    omega
  have c2 : cr ≤ 0 := Int.not_lt.1 fun k => by
    have := id y
    have := sg y hy
    have := Int.mul_pos k (show 0 < lin (-1) 1000 y - lin (-1) 1000 v by omega)
    omega
  obtain rfl : cr = 0 := by omega
  obtain ⟨c', hc', g1, g2⟩ := H.third a b
  have st := H.strict hab hc' g1 g2
  simp only at st
  have k1 := id c'
  have k2 := sg c' (H.sub hc')
  have k3 := Int.mul_neg_of_pos_of_neg (show 0 < turn a b c' - 0 by omega) (show lin (-1) 1000 d - lin (-1) 1000 c < 0 by omega)
  omega
end
theorem sm_mono {f g : Pt → Int} : ∀ l : List Pt, (∀ v ∈ l, f v ≤ g v) → sm f l ≤ sm g l
  | [], _ => Int.le_refl _
  | v :: l, h => by
    have h1 := h v List.mem_cons_self
    have h2 := sm_mono l fun u hu => h u (List.mem_cons_of_mem _ hu)
    simp only [sm]
    omega
theorem sm_const (k : Int) : ∀ l : List Pt, sm (fun _ => k) l = k * (l.length : Int)
  | [] => by simp [sm]
  | v :: l => by rw [sm, sm_const k l, List.length_cons]; grind
/-- With a point inside, the windings of the hull at the points are more than those of a polygon can be. -/
theorem Hull.more {l K : List Pt} (H : Hull l K) (hpt : ∀ v ∈ l, isPt v = true) (hn : l.Nodup) {v0 : Pt} (h0 : v0 ∈ l) (hin : ∀ e ∈ ring K, has e.1 e.2 v0 = false) : (l.length : Int) - 1 ≤ sm (wkk K) l := by
  obtain ⟨mx, hx, -, hx2⟩ := exists_max (lin (-1) 1000) (fun _ => True) l ⟨v0, h0, trivial⟩
  obtain ⟨mn, hm, -, hm2⟩ := exists_max (fun v => - lin (-1) 1000 v) (fun _ => True) l ⟨v0, h0, trivial⟩
  have k := sm_mono (f := fun v => (1 + (if v0 = v then 1 else 0)) + ((if mn = v then -1 else 0) + (if mx = v then -1 else 0))) (g := wkk K) l fun v hv => by
    obtain ⟨w1, w2, -, -⟩ := H.wind v
    by_cases c0 : v0 = v
    · subst c0
      have := H.deep h0 hin
      unfold wkk
      rw [if_pos rfl]
      split <;> split <;> omega
    · rw [if_neg c0]
      by_cases c1 : mn = v
      · rw [if_pos c1]
        unfold wkk
        split <;> omega
      · by_cases c2 : mx = v
        · rw [if_pos c2]
          unfold wkk
          split <;> omega
        · rw [if_neg c1, if_neg c2]
          have a1 := hx2 v hv trivial
          have a2 := hm2 v hv trivial
          (try dsimp only at a2)
          have b1 : lin (-1) 1000 mx ≠ lin (-1) 1000 v := fun q => c2 (lin_inj2 (hpt _ hx) (hpt _ hv) q)
          have b2 : lin (-1) 1000 mn ≠ lin (-1) 1000 v := fun q => c1 (lin_inj2 (hpt _ hm) (hpt _ hv) q)
          have := H.mid hpt hv ⟨mn, hm, by omega⟩ ⟨mx, hx, by omega⟩
          omega
  rw [sm_add (fun v => 1 + (if v0 = v then 1 else 0)) (fun v => (if mn = v then -1 else 0) + (if mx = v then -1 else 0)), sm_add (fun _ => 1) (fun v => if v0 = v then 1 else 0), sm_add (fun v => if mn = v then -1 else 0) (fun v => if mx = v then -1 else 0), sm_const, sm_one (fun _ => 1) l hn h0, sm_one (fun _ => -1) l hn hm, sm_one (fun _ => -1) l hn hx] at k
  omega
end Go.Proofs.Ytijpolfmiajenaa
