/- A valid polygon whose list begins with another corner, or goes backwards, is valid; its sums are the same, or have the other sign; points lie to it as before. -/
import Derived.Test.YtijpolfmiajenaaArea
import Derived.Test.YtijpolfmiajenaaLow
import Derived.Test.YtijpolfmiajenaaCentre
import Derived.Test.YtijpolfmiajenaaWhere
namespace Go.Proofs.Ytijpolfmiajenaa

theorem apart_prod {a b p q : Pt} (h : apart a b p q = true) : turn a b p * turn a b q < 0 := by
  simp only [apart, Bool.or_eq_true, Bool.and_eq_true, decide_eq_true_eq] at h
  rcases h with ⟨h1, h2⟩ | ⟨h1, h2⟩
  · exact Int.mul_neg_of_neg_of_pos h1 h2
  · exact Int.mul_neg_of_pos_of_neg h1 h2
theorem pat_inj {l : List Pt} (hn : l.Nodup) {i j : Nat} (hi : i < l.length) (hj : j < l.length) (h : pat l i = pat l j) : i = j := by
  rw [← pat_eq hi, ← pat_eq hj] at h
  exact (List.getElem_inj hn).1 h
theorem nxt_nxt_ne {l : List Pt} {k : Nat} (hn : 3 ≤ l.length) (hk : k < l.length) : nxt l (nxt l k) ≠ k := by
  have h1 := nxt_lt k (show 0 < l.length by omega)
  unfold nxt at h1 ⊢
  rcases Nat.lt_or_ge (k + 1) l.length with h | h
  · rw [Nat.mod_eq_of_lt h]
    rcases Nat.lt_or_ge (k + 1 + 1) l.length with h2 | h2
    · rw [Nat.mod_eq_of_lt h2]; omega
    · have : k + 1 + 1 = l.length := by omega
      rw [this, Nat.mod_self]; omega
  · have : k + 1 = l.length := by omega
    rw [this, Nat.mod_self, Nat.mod_eq_of_lt (by omega)]; omega
theorem simp_ok {l : List Pt} (h : Simp l) (hl : l.length ≤ 10) (hp : ∀ p ∈ l, isPt p = true) : Ok l := by
  have h3 := h.len
  have hv : ∀ i k, i < l.length → k < l.length → k ≠ i → k ≠ nxt l i → has (pat l i) (pat l (nxt l i)) (pat l k) = false := by
    intro i k hi hk h1 h2
    rw [← Bool.not_eq_true]
    intro hh
    have hn := nxt_lt i (show 0 < l.length by omega)
    rcases h.good.vert _ (mem_ring.2 ⟨i, hi, rfl⟩) _ (mem_pat.2 ⟨k, hk, rfl⟩) hh with e | e
    · exact h1 (pat_inj h.nodup hk hi e)
    · exact h2 (pat_inj h.nodup hk hn e)
  refine ⟨⟨h3, hl⟩, fun i hi => hp _ (mem_pat.2 ⟨i, hi, rfl⟩), fun i hi k hk e => ?_, fun i hi => ?_, fun i hi k hk => ?_⟩
  · have := pat_inj h.nodup (by omega) hi e; omega
  · have n1 := nxt_lt i (show 0 < l.length by omega)
    have n2 := nxt_lt (nxt l i) (show 0 < l.length by omega)
    exact ⟨hv i _ hi n2 (nxt_nxt_ne h3 hi) (nxt_ne h3 n1), hv _ i n1 hi (nxt_ne h3 hi).symm (nxt_nxt_ne h3 hi).symm⟩
  · by_cases h1 : k = i
    · exact .inl h1
    by_cases h2 : k = nxt l i
    · exact .inr (.inl h2)
    by_cases h3' : nxt l k = i
    · exact .inr (.inr (.inl h3'))
    refine .inr (.inr (.inr ?_))
    have n1 := nxt_lt i (show 0 < l.length by omega)
    have n2 := nxt_lt k (show 0 < l.length by omega)
    have hne : nxt l k ≠ nxt l i := by
      unfold nxt
      intro e
      rcases Nat.lt_or_ge (k + 1) l.length with a | a <;> rcases Nat.lt_or_ge (i + 1) l.length with b | b
      · rw [Nat.mod_eq_of_lt a, Nat.mod_eq_of_lt b] at e; omega
      · rw [Nat.mod_eq_of_lt a, show i + 1 = l.length by omega, Nat.mod_self] at e; omega
      · rw [Nat.mod_eq_of_lt b, show k + 1 = l.length by omega, Nat.mod_self] at e; omega
      · omega
    rw [meets, hv i k hi hk h1 h2, hv i _ hi n2 h3' hne, hv k i hk hi (Ne.symm h1) (Ne.symm h3'), hv k _ hk n1 (fun e => h2 e.symm) hne.symm]
    simp only [Bool.false_or, Bool.and_eq_false_iff]
    refine Classical.byContradiction fun hno => ?_
    simp only [not_or, Bool.not_eq_false] at hno
    exact h.good.nocross _ (mem_ring.2 ⟨i, hi, rfl⟩) _ (mem_ring.2 ⟨k, hk, rfl⟩) ⟨apart_prod hno.1, apart_prod hno.2⟩
theorem ok_pts {l : List Pt} (h : Ok l) : ∀ p ∈ l, isPt p = true := fun p hp => by
  obtain ⟨i, hi, rfl⟩ := mem_pat.1 hp
  exact h.2.1 i hi

theorem chain_rev (x : Pt) : ∀ (t : List Pt) (y : Pt), ((chain x (t ++ [y])).map Prod.swap).reverse = chain y (t.reverse ++ [x]) := by
  intro t
  induction t generalizing x with
  | nil => intro y; rfl
  | cons a t ih =>
    intro y
    simp only [List.cons_append, chain, List.map_cons, List.reverse_cons, ih]
    have e : chain y (t.reverse ++ [a] ++ [x]) = chain y (t.reverse ++ [a]) ++ [(a, x)] := by
      rw [show t.reverse ++ [a] ++ [x] = t.reverse ++ a :: [x] by simp, chain_cut]
      rfl
    rw [e]
    rfl
theorem ring_rev (l : List Pt) : (ring l.reverse).Perm ((ring l).map Prod.swap) := by
  cases l with
  | nil => exact List.Perm.refl _
  | cons x t =>
    rw [List.reverse_cons]
    refine (ring_rot1 x t.reverse).symm.trans ?_
    rw [ring_cons, ring_cons, ← chain_rev x t x]
    exact List.reverse_perm _
theorem tot_swap (g : Pt → Pt → Int) : ∀ E : List Edge, tot g (E.map Prod.swap) = tot (fun a b => g b a) E
  | [] => rfl
  | e :: E => by simp only [List.map_cons, tot, tot_swap g E]; rfl
theorem tot_neg (g : Pt → Pt → Int) : ∀ E : List Edge, tot (fun a b => - g a b) E = - tot g E
  | [] => rfl
  | e :: E => by simp only [tot, tot_neg g E]; omega
theorem tot_rev {g : Pt → Pt → Int} (hg : ∀ a b, g b a = - g a b) (l : List Pt) : tot g (ring l.reverse) = - tot g (ring l) := by
  rw [tot_perm g (ring_rev l), tot_swap, ← tot_neg]
  exact tot_congr _ fun a b => hg a b

theorem simp_rev {l : List Pt} (h : Simp l) : Simp l.reverse := by
  have hm : ∀ e : Edge, e ∈ ring l.reverse → e.swap ∈ ring l := fun e he => by
    have := (ring_rev l).mem_iff.1 he
    rw [List.mem_map] at this
    obtain ⟨f, hf, rfl⟩ := this
    simpa using hf
  refine ⟨by simpa using h.len, (List.reverse_perm l).nodup_iff.2 h.nodup, fun e he v hv hh => ?_, fun e he f hf hc => ?_, fun e he => ring_mem he⟩
  · have := h.good.vert _ (hm e he) v (by simpa using hv) (by rw [has_comm] at hh; exact hh)
    exact this.symm
  · exact h.good.nocross _ (hm e he) _ (hm f hf) (crs2_rev2 (crs2_rev hc))
theorem ok_rev {l : List Pt} (h : Ok l) : Ok l.reverse := simp_ok (simp_rev (ok_simp h)) (by simpa using h.1.2) (fun p hp => ok_pts h p (by simpa using hp))
theorem ok_rot {A B : List Pt} (h : Ok (A ++ B)) : Ok (B ++ A) := simp_ok (ok_simp h).rot (by have := h.1.2; simp at this ⊢; omega) (fun p hp => ok_pts h p (by simp only [List.mem_append] at hp ⊢; exact hp.symm))

theorem sum_perm (f : Pt → Pt → Int) {l m : List Pt} (h : (ring l).Perm (ring m)) : sumOf f l = sumOf f m := by rw [sumOf_tot, sumOf_tot, tot_perm _ h]
theorem sum_rev {f : Pt → Pt → Int} (hf : ∀ a b, f b a = f a b) (l : List Pt) : sumOf f l.reverse = - sumOf f l := by
  rw [sumOf_tot, sumOf_tot]
  exact tot_rev (fun a b => by unfold gOf cross; rw [hf]; grind) l
theorem own_perm {l m : List Pt} (h : (ring l).Perm (ring m)) : ownOf l = ownOf m := by rw [ownOf_tot, ownOf_tot, tot_perm _ h]
theorem pick_perm {l m : List Pt} (h : (ring l).Perm (ring m)) : pickOf l = pickOf m := by
  unfold pickOf
  rw [own_perm h, show tw l = tw m from sum_perm oneF h]

/-- How many sides are crossed. -/
def cntE (q : Pt) : List Edge → Nat
  | [] => 0
  | e :: E => (if crs e.1 e.2 q then 1 else 0) + cntE q E
theorem cntE_append (q : Pt) : ∀ E F, cntE q (E ++ F) = cntE q E + cntE q F
  | [], F => by simp [cntE]
  | e :: E, F => by simp only [List.cons_append, cntE, cntE_append q E F]; omega
theorem cntE_perm (q : Pt) {E F : List Edge} (h : E.Perm F) : cntE q E = cntE q F := by
  induction h with
  | nil => rfl
  | cons x _ ih => simp only [cntE, ih]
  | swap x y _ => simp only [cntE]; omega
  | trans _ _ h1 h2 => exact h1.trans h2
theorem cntTo_ring (l : List Pt) (q : Pt) : ∀ k, cntTo l q k = cntE q ((List.range k).map fun i => (pat l i, pat l (nxt l i)))
  | 0 => rfl
  | k + 1 => by
    rw [cntTo, cntTo_ring l q k, List.range_succ, List.map_append, cntE_append]
    simp [cntE]
theorem cnt_ring (l : List Pt) (q : Pt) : cntTo l q l.length = cntE q (ring l) := by rw [ring_map]; exact cntTo_ring l q _
theorem on_ring (l : List Pt) (q : Pt) : onSome l q ↔ ∃ e ∈ ring l, has e.1 e.2 q = true := by
  constructor
  · rintro ⟨i, hi, h⟩; exact ⟨_, mem_ring.2 ⟨i, hi, rfl⟩, h⟩
  · rintro ⟨e, he, h⟩
    obtain ⟨i, hi, rfl⟩ := mem_ring.1 he
    exact ⟨i, hi, h⟩
theorem crs_swap {a b q : Pt} (h : has a b q = false) : crs b a q = crs a b q := by
  have ht := turn_swap a b q
  unfold crs
  by_cases h1 : decide (q.2 < a.2) = decide (q.2 < b.2)
  · simp [h1]
  · have hT : turn a b q ≠ 0 := by
      intro h0
      have h2 : (b.2 ≤ q.2 ∧ q.2 < a.2) ∨ (a.2 ≤ q.2 ∧ q.2 < b.2) := by
        by_cases q.2 < a.2 <;> by_cases q.2 < b.2 <;> simp_all <;> omega
      rw [has_of_zero h0 h2] at h
      cases h
    rw [Bool.eq_iff_iff]
    simp only [Bool.and_eq_true, bne_iff_ne, ne_eq, beq_iff_eq, decide_eq_decide]
    by_cases q.2 < a.2 <;> by_cases q.2 < b.2 <;> simp_all <;> omega
theorem where_perm (q : Pt) {l m : List Pt} (h : (ring l).Perm (ring m)) : whereOf l q = whereOf m q := by
  have e : onSome l q ↔ onSome m q := by
    rw [on_ring, on_ring]
    exact ⟨fun ⟨e, he, hh⟩ => ⟨e, h.mem_iff.1 he, hh⟩, fun ⟨e, he, hh⟩ => ⟨e, h.mem_iff.2 he, hh⟩⟩
  unfold whereOf
  rw [cnt_ring, cnt_ring, cntE_perm q h]
  simp only [e]
theorem cntE_swap (q : Pt) : ∀ E : List Edge, (∀ e ∈ E, has e.1 e.2 q = false) → cntE q (E.map Prod.swap) = cntE q E
  | [], _ => rfl
  | e :: E, h => by
    simp only [List.map_cons, cntE]
    rw [cntE_swap q E fun f hf => h f (List.mem_cons_of_mem _ hf), show crs e.swap.1 e.swap.2 q = crs e.1 e.2 q from crs_swap (h e List.mem_cons_self)]
theorem where_rev (q : Pt) (l : List Pt) : whereOf l.reverse q = whereOf l q := by
  have e : onSome l.reverse q ↔ onSome l q := by
    rw [on_ring, on_ring]
    constructor
    · rintro ⟨e, he, hh⟩
      have := (ring_rev l).mem_iff.1 he
      rw [List.mem_map] at this
      obtain ⟨f, hf, rfl⟩ := this
      exact ⟨f, hf, by rw [← has_comm]; exact hh⟩
    · rintro ⟨e, he, hh⟩
      exact ⟨e.swap, (ring_rev l).mem_iff.2 (List.mem_map_of_mem he), by rw [← has_comm] at hh; exact hh⟩
  unfold whereOf
  simp only [e]
  by_cases ho : onSome l q
  · rw [if_pos ho, if_pos ho]
  · rw [if_neg ho, if_neg ho, cnt_ring, cnt_ring, cntE_perm q (ring_rev l), cntE_swap]
    intro f hf
    rw [← Bool.not_eq_true]
    exact fun hh => ho ((on_ring l q).2 ⟨f, hf, hh⟩)

theorem cen_perm {l m : List Pt} (h : (ring l).Perm (ring m)) : cenX l = cenX m ∧ cenY l = cenY m := by
  unfold cenX cenY
  rw [show tw l = tw m from sum_perm oneF h, show mx l = mx m from sum_perm fxF h, show my l = my m from sum_perm fyF h]
  exact ⟨rfl, rfl⟩
theorem tw_rev (l : List Pt) : tw l.reverse = - tw l := sum_rev (fun _ _ => rfl) l
theorem mx_rev (l : List Pt) : mx l.reverse = - mx l := sum_rev (fun _ _ => by unfold fxF; omega) l
theorem my_rev (l : List Pt) : my l.reverse = - my l := sum_rev (fun _ _ => by unfold fyF; omega) l
theorem mxx_rev (l : List Pt) : mxx l.reverse = - mxx l := sum_rev (fun _ _ => by unfold xxF sqF; grind) l
theorem myy_rev (l : List Pt) : myy l.reverse = - myy l := sum_rev (fun _ _ => by unfold yyF sqF; grind) l
theorem mxy_rev (l : List Pt) : mxy l.reverse = - mxy l := sum_rev (fun _ _ => by unfold xyF; grind) l
theorem cen_rev {l : List Pt} (h : tw l ≠ 0) : cenX l.reverse = cenX l ∧ cenY l.reverse = cenY l := by
  unfold cenX cenY
  rw [tw_rev, mx_rev, my_rev, show 3 * - tw l = (-1) * (3 * tw l) by omega, show - mx l = (-1) * mx l by omega, show - my l = (-1) * my l by omega, low_mul (by omega) (by omega), low_mul (by omega) (by omega)]
  exact ⟨rfl, rfl⟩
end Go.Proofs.Ytijpolfmiajenaa
