/- The points inside a valid polygon and those of its sides, counted one by one, are as many as the theorem of Pick says. -/
import Derived.Test.YtijpolfmiajenaaWpt
import Derived.Test.YtijpolfmiajenaaArea
import Derived.Test.YtijpolfmiajenaaWhere
namespace Go.Proofs.Ytijpolfmiajenaa

def innF (l : List Pt) (p : Pt) : Int := if whereOf l p = 1 then 1 else 0
def sidF (l : List Pt) (p : Pt) : Int := if whereOf l p = 2 then 1 else 0
theorem onSome_iff {l : List Pt} {p : Pt} : onSome l p ↔ ∃ e ∈ ring l, has e.1 e.2 p = true := by
  constructor
  · rintro ⟨i, hi, h⟩
    exact ⟨_, mem_ring.2 ⟨i, hi, rfl⟩, h⟩
  · rintro ⟨e, he, h⟩
    obtain ⟨i, hi, rfl⟩ := mem_ring.1 he
    exact ⟨i, hi, h⟩
theorem cnt_tot (l : List Pt) (q : Pt) : ∀ k, (cntTo l q k : Int) = tot (fun a b => if crs a b q = true then 1 else 0) ((List.range k).map fun i => (pat l i, pat l (nxt l i)))
  | 0 => rfl
  | k + 1 => by
    rw [List.range_succ, List.map_append, tot_append, ← cnt_tot l q k]
    simp only [cntTo, tot, List.map_cons, List.map_nil]
    split <;> simp_all
theorem crs_cp {a b q : Pt} (h : has a b q = false) : ((if crs a b q = true then (1 : Int) else 0) - cp a b q) % 2 = 0 := by
  rcases Int.lt_trichotomy a.2 b.2 with k | k | k
  · rw [crs_up (by omega), cp_up k]
    by_cases c : a.2 ≤ q.2 ∧ q.2 < b.2 ∧ 0 < turn a b q
    · rw [if_pos c, if_pos (by simp only [Bool.and_eq_true, decide_eq_true_eq]; omega)]
      rfl
    · rw [if_neg c, if_neg (by simp only [Bool.and_eq_true, decide_eq_true_eq]; omega)]
      rfl
  · rw [crs_up (by omega), cp_flat k, if_neg (by simp only [Bool.and_eq_true, decide_eq_true_eq]; omega)]
    rfl
  · rw [crs_down h k, cp_anti b a, cp_up k]
    by_cases c : b.2 ≤ q.2 ∧ q.2 < a.2 ∧ 0 < turn b a q
    · rw [if_pos c, if_pos (by simp only [Bool.and_eq_true, decide_eq_true_eq]; omega)]
      rfl
    · rw [if_neg c, if_neg (by simp only [Bool.and_eq_true, decide_eq_true_eq]; omega)]
      rfl
theorem tot_par {g h : Pt → Pt → Int} : ∀ E : List Edge, (∀ e ∈ E, (g e.1 e.2 - h e.1 e.2) % 2 = 0) → (tot g E - tot h E) % 2 = 0
  | [], _ => rfl
  | e :: E, hh => by
    have h1 := hh e List.mem_cons_self
    have h2 := tot_par E fun f hf => hh f (List.mem_cons_of_mem _ hf)
    simp only [tot]
    omega
theorem cnt_wnd {l : List Pt} {q : Pt} (h : ¬ onSome l q) : ((cntTo l q l.length : Int) - wnd l q) % 2 = 0 := by
  have hh : ∀ e ∈ ring l, has e.1 e.2 q = false := fun e he => by
    cases hc : has e.1 e.2 q with
    | false => rfl
    | true => exact absurd (onSome_iff.2 ⟨e, he, hc⟩) h
  rw [cnt_tot, ← ring_map]
  exact tot_par _ fun e he => crs_cp (hh e he)
theorem where_off {l : List Pt} {q : Pt} (h : ¬ onSome l q) : whereOf l q = if wnd l q % 2 = 0 then 3 else 1 := by
  have hc := cnt_wnd h
  rw [whereOf, if_neg h]
  split <;> split <;> omega
theorem tot_snd (g : Pt → Int) (P : List Pt) : tot (fun _ b => g b) (ring P) = sm g P := by
  have h1 : ∀ E : List Edge, tot (fun a _ => g a) E = sm g (E.map Prod.fst) := fun E => by
    induction E with
    | nil => rfl
    | cons e E ih => rw [tot, List.map_cons, sm, ih]
  have h2 := ring_tele g P
  have h3 : tot (fun a b => g a - g b) (ring P) = tot (fun a b => g a + - g b) (ring P) := tot_congr _ fun _ _ => Int.sub_eq_add_neg
  have h4 := tot_add (fun a _ => g a) (fun _ b => - g b) (ring P)
  have h5 := tot_neg (fun _ b => g b) (ring P)
  have h6 := h1 (ring P)
  rw [ring_fst] at h6
  omega
theorem tot_cong {g h : Pt → Pt → Int} : ∀ E : List Edge, (∀ e ∈ E, g e.1 e.2 = h e.1 e.2) → tot g E = tot h E
  | [], _ => rfl
  | e :: E, hh => by rw [tot, tot, hh e List.mem_cons_self, tot_cong E fun f hf => hh f (List.mem_cons_of_mem _ hf)]
theorem ends_ne {P : List Pt} (h : Simp P) {e : Edge} (he : e ∈ ring P) : e.1 ≠ e.2 := by
  obtain ⟨w, M, u, A, B, rfl, hBA⟩ := rotate_to h.len (ring_mem he).1
  have hQ := h.rot
  have g1 := (ring_rot A B).mem_iff.1 he
  rw [hBA] at hQ g1
  obtain ⟨q1, q2, q3, q4, q5, q6⟩ := first_facts hQ
  have k1 := (first_sides (q := e.2) hQ.nodup).2 g1
  intro k
  exact q4 (k1.symm.trans k.symm)
theorem sid_tot {l : List Pt} (h : Simp l) (p : Pt) : sidF l p = tot (fun a b => hlfo a b p) (ring l) := by
  by_cases hs : onSome l p
  · have e0 : sidF l p = 1 := by
      unfold sidF whereOf
      rw [if_pos hs]
      rfl
    rw [e0]
    by_cases hp : p ∈ l
    · have e1 := tot_snd (fun v => if p = v then 1 else 0) l
      rw [sm_one (fun _ => 1) l h.nodup hp] at e1
      rw [← e1]
      refine tot_cong _ fun e he => ?_
      unfold hlfo
      by_cases k : p = e.2
      · rw [if_pos k, if_pos ⟨by rw [k]; exact has_right _ _, by rw [k]; exact (ends_ne h he).symm⟩]
      · rw [if_neg k, if_neg]
        rintro ⟨k1, k2⟩
        exact (h.good.vert e he p hp k1).elim k2 k
    · obtain ⟨e, he, hh⟩ := onSome_iff.1 hs
      obtain ⟨A, B, hAB⟩ := List.append_of_mem he
      have hnd := ring_nodup h.nodup
      have z : ∀ f ∈ A ++ B, hlfo f.1 f.2 p = 0 := fun f hf => by
        have hf' : f ∈ ring l := by rw [hAB]; simp only [List.mem_append, List.mem_cons] at hf ⊢; exact hf.elim .inl (fun q => .inr (.inr q))
        have hb : ¬ has f.1 f.2 p = true := fun hc => by
          rcases one_side h.good he hf' hp hh hc with ⟨k1, k2⟩ | ⟨k1, k2⟩
          · have : e = f := Prod.ext k1 k2
            subst this
            rw [hAB] at hnd
            have hnd2 := (List.perm_middle (a := e) (l₁ := A) (l₂ := B)).nodup_iff.1 hnd
            exact (List.nodup_cons.1 hnd2).1 hf
          · refine no_swap h (a := e.1) (b := e.2) he ?_
            rw [k1, k2]
            exact hf'
        unfold hlfo
        rw [if_neg fun k => hb k.1]
      rw [hAB, tot_append]
      have zA := tot_zero (g := fun a b => hlfo a b p) A fun f hf => z f (List.mem_append_left _ hf)
      have zB := tot_zero (g := fun a b => hlfo a b p) B fun f hf => z f (List.mem_append_right _ hf)
      have e1 : hlfo e.1 e.2 p = 1 := by
        unfold hlfo
        rw [if_pos ⟨hh, fun k => hp (k ▸ (ring_mem he).1)⟩]
      simp only [tot]
      rw [zA, zB, e1]
      rfl
  · have e0 : sidF l p = 0 := by
      unfold sidF whereOf
      rw [if_neg hs]
      split <;> rfl
    rw [e0, tot_zero]
    intro e he
    unfold hlfo
    rw [if_neg fun k => hs (onSome_iff.2 ⟨e, he, k.1⟩)]
theorem mem_some {l : List Pt} {p : Pt} (h : p ∈ l) : onSome l p := by
  have h1 : p ∈ (ring l).map Prod.fst := by rw [ring_fst]; exact h
  obtain ⟨e, he, rfl⟩ := List.mem_map.1 h1
  exact onSome_iff.2 ⟨e, he, has_left _ _⟩
/-- At each point: both windings are twice what is inside, and once what is on the sides, but for the corners. -/
theorem at_point {l : List Pt} {s : Int} (h : Simp l) (hs : s = 1 ∨ s = -1) (ht : Tri s l) (p : Pt) :
    s * wkk l p = innF l p + innF l p + (sidF l p + sm (fun v => if p = v then s * wkk l v - 1 else 0) l) := by
  by_cases hp : p ∈ l
  · have ho := mem_some hp
    have e1 : whereOf l p = 2 := if_pos ho
    rw [sm_one (fun v => s * wkk l v - 1) l h.nodup hp]
    unfold innF sidF
    rw [e1, if_neg (by decide), if_pos rfl]
    omega
  · rw [sm_not _ _ hp]
    by_cases ho : onSome l p
    · have e1 : whereOf l p = 2 := if_pos ho
      obtain ⟨e, he, hh⟩ := onSome_iff.1 ho
      have k := wnd_on h hs ht hp he hh
      unfold innF sidF wkk
      rw [e1, if_neg (by decide), if_pos rfl]
      omega
    · have k1 := wnd_off (P := l) (p := p) fun e he => by
        cases hc : has e.1 e.2 p with
        | false => rfl
        | true => exact absurd (onSome_iff.2 ⟨e, he, hc⟩) ho
      have k2 := wnd_of h hs ht p
      have k3 := where_off ho
      unfold innF sidF wkk
      rw [← k1, Int.mul_add]
      rcases hs with rfl | rfl
      · rw [k3]
        split
        · rw [if_neg (by decide), if_neg (by decide)]; omega
        · rw [if_pos rfl, if_neg (by decide)]; omega
      · rw [k3]
        split
        · rw [if_neg (by decide), if_neg (by decide)]; omega
        · rw [if_pos rfl, if_neg (by decide)]; omega
theorem rs_mul (c : Int) (f : Int → Int) (lo : Int) : ∀ n : Nat, rs (fun x => c * f x) lo n = c * rs f lo n
  | 0 => by simp [rs]
  | n + 1 => by rw [rs, rs, rs_mul c f lo n, Int.mul_add]
theorem bs_mul (c : Int) (f : Pt → Int) (M : Nat) : bs (fun p => c * f p) M = c * bs f M := by
  unfold bs
  rw [← rs_mul]
  exact rs_congr _ fun y _ _ => rs_mul _ _ _ _
theorem wkk_sign {l : List Pt} (h : Ok l) {s : Int} (hs : s = 1 ∨ s = -1) (ht : Tri s l) (hp : 0 < s * tw l) : sm (fun v => s * wkk l v) l = (l.length : Int) - 2 := by
  rcases hs with rfl | rfl
  · rw [← wkk_sum (ok_simp h) ht]
    exact sm_congr _ fun v _ => by omega
  · have hr := simp_rev (ok_simp h)
    obtain ⟨s, hs, ht2, -⟩ := simp_tri _ _ rfl hr
    have h2 := ht2.pos (g := fun a b => s * cross a b) (Q := fun _ => True) (fun a b => by unfold cross; grind) (fun a b c _ _ _ hp => by
      have e : s * cross a b + s * cross b c + s * cross c a = s * turn a b c := by unfold cross turn; grind
      omega) (fun _ _ => trivial)
    have e : ∀ E : List Edge, tot (fun a b => s * cross a b) E = s * tot cross E := by
      intro E
      induction E with
      | nil => simp [tot]
      | cons e E ih => simp only [tot, ih, Int.mul_add]
    rw [e, tot_rev (g := cross) fun a b => by unfold cross; grind, ← tw_tot] at h2
    have : s = 1 := by rcases hs with rfl | rfl <;> omega
    subst this
    have k := wkk_sum hr ht2
    rw [List.length_reverse, sm_perm _ (List.reverse_perm l)] at k
    rw [← k]
    refine sm_congr _ fun v _ => ?_
    unfold wkk
    rw [wnd_rev, wndm_rev]
    omega
/-- All points of a great box: those inside and those of the sides. -/
theorem pick_box {l : List Pt} (h : Ok l) {M : Nat} (hM : 600 ≤ M) : bs (innF l) M = pickOf l ∧ bs (sidF l) M = ownOf l := by
  obtain ⟨s, hs, ht, hp⟩ := ok_area h
  have hS := ok_simp h
  have hB : ∀ v ∈ l, (-200 ≤ v.1 ∧ v.1 ≤ 200) ∧ (-200 ≤ v.2 ∧ v.2 ≤ 200) := fun v hv => by
    obtain ⟨i, hi, rfl⟩ := mem_pat.1 hv
    exact isPt_bd (h.2.1 i hi)
  have hB2 : ∀ v ∈ l, (-(M : Int) ≤ v.1 ∧ v.1 ≤ M) ∧ (-(M : Int) ≤ v.2 ∧ v.2 ≤ M) := fun v hv => by
    have := hB v hv
    omega
  have s1 : bs (sidF l) M = ownOf l := by
    rw [bs_congr (g := fun p => tot (fun a b => hlfo a b p) (ring l)) fun p => sid_tot hS p, ownOf_tot]
    refine bs_tot (fun a b p => hlfo a b p) gcdF M (ring l) fun e he => ?_
    exact side_count (ends_ne hS he) (hB2 _ (ring_mem he).1) (hB2 _ (ring_mem he).2)
  refine ⟨?_, s1⟩
  have k1 : bs (fun p => s * wkk l p) M = s * tw l := by
    rw [bs_mul, wkk_box_sum hB (by omega), tw_tot]
    rfl
  rw [bs_congr (g := fun p => innF l p + innF l p + (sidF l p + sm (fun v => if p = v then s * wkk l v - 1 else 0) l)) fun p => at_point hS hs ht p, bs_add, bs_add, bs_add, s1, bs_sm (fun v => s * wkk l v - 1) M l hB2] at k1
  have k2 : sm (fun v => s * wkk l v - 1) l = (l.length : Int) - 2 - l.length := by
    have e1 := sm_add (fun v => s * wkk l v) (fun _ => -1) l
    have e2 : ∀ m : List Pt, sm (fun _ => -1) m = - (m.length : Int) := fun m => by
      induction m with
      | nil => rfl
      | cons v m ih => rw [sm, ih, List.length_cons]; omega
    rw [wkk_sign h hs ht hp, e2] at e1
    rw [sm_congr (g := fun v => s * wkk l v + -1) l fun v _ => Int.sub_eq_add_neg, e1]
    omega
  rw [k2] at k1
  have k3 := (pick_is h).2
  have k4 : s * tw l = max (tw l) (- tw l) := by rcases hs with rfl | rfl <;> omega
  omega
/-- A point that is not within the corners' numbers is outside. -/
theorem out_box {l : List Pt} {p : Pt} {lx hx ly hy : Int} (hb : ∀ v ∈ l, (lx ≤ v.1 ∧ v.1 ≤ hx) ∧ (ly ≤ v.2 ∧ v.2 ≤ hy)) (ho : p.1 < lx ∨ hx < p.1 ∨ p.2 < ly ∨ hy < p.2) : innF l p = 0 ∧ sidF l p = 0 := by
  have hn : ¬ onSome l p := fun k => by
    obtain ⟨e, he, hh⟩ := onSome_iff.1 k
    have h1 := has_box hh
    have h2 := hb _ (ring_mem he).1
    have h3 := hb _ (ring_mem he).2
    omega
  have hw : wnd l p = 0 := by
    unfold wnd
    have key : ∀ a b q : Pt, (b.1 - q.1) * (q.2 - a.2) + (b.2 - q.2) * (a.1 - q.1) = turn a b q := fun a b q => by simp only [turn]; grind
    rcases ho with k | k | k
    · rw [← ring_tele (fun v => if v.2 ≤ p.2 then 1 else 0) l]
      refine tot_cong _ fun e he => ?_
      have h2 := hb _ (ring_mem he).1
      have h3 := hb _ (ring_mem he).2
      have up : ∀ a b : Pt, lx ≤ a.1 → lx ≤ b.1 → a.2 ≤ p.2 → p.2 < b.2 → cp a b p = 1 := fun a b ka kb k1 k2 => by
        refine cp_one k1 k2 ?_
        rw [← key]
        have m1 := Int.mul_nonneg (show 0 ≤ b.1 - p.1 by omega) (show 0 ≤ p.2 - a.2 by omega)
        have m2 := Int.mul_pos (show 0 < b.2 - p.2 by omega) (show 0 < a.1 - p.1 by omega)
        omega
      by_cases k1 : e.1.2 ≤ p.2 <;> by_cases k2 : e.2.2 ≤ p.2
      · rw [if_pos k1, if_pos k2, cp_out (.inl ⟨k1, k2⟩)]
        rfl
      · rw [if_pos k1, if_neg k2, up _ _ h2.1.1 h3.1.1 k1 (by omega)]
        rfl
      · rw [if_neg k1, if_pos k2, cp_anti e.2 e.1, up _ _ h3.1.1 h2.1.1 k2 (by omega)]
        rfl
      · rw [if_neg k1, if_neg k2, cp_out (.inr ⟨by omega, by omega⟩)]
        rfl
    · refine tot_zero _ fun e he => ?_
      have h2 := hb _ (ring_mem he).1
      have h3 := hb _ (ring_mem he).2
      have ng : ∀ a b : Pt, a.1 ≤ hx → b.1 ≤ hx → a.2 ≤ p.2 → p.2 < b.2 → turn a b p < 0 := fun a b ka kb k1 k2 => by
        rw [← key]
        have m1 := Int.mul_nonpos_of_nonpos_of_nonneg (show b.1 - p.1 ≤ 0 by omega) (show 0 ≤ p.2 - a.2 by omega)
        have m2 := mul_neg' (show 0 < b.2 - p.2 by omega) (show a.1 - p.1 < 0 by omega)
        omega
      rcases cp_cases e.1 e.2 p with ⟨_, q1, q2, q3⟩ | ⟨_, q1, q2, q3⟩ | q
      · have := ng _ _ h2.1.2 h3.1.2 q1 q2; omega
      · have := ng _ _ h3.1.2 h2.1.2 q1 q2
        rw [turn_neg e.1 e.2] at this
        omega
      · exact q
    · refine tot_zero _ fun e he => ?_
      have h2 := hb _ (ring_mem he).1
      have h3 := hb _ (ring_mem he).2
      exact cp_out (by omega)
  have e := where_off hn
  rw [hw, if_pos (by decide)] at e
  unfold innF sidF
  rw [e]
  exact ⟨rfl, rfl⟩
theorem rs_swap (f : Int → Int → Int) (lo : Int) (n : Nat) (lo2 : Int) : ∀ k : Nat, rs (fun y => rs (fun x => f x y) lo n) lo2 k = rs (fun x => rs (fun y => f x y) lo2 k) lo n
  | 0 => (rs_zero n fun _ _ _ => rfl).symm
  | k + 1 => by
    have := rs_swap f lo n lo2 k
    rw [rs, this, ← rs_add]
    rfl
/-- The box of the corners is enough. -/
theorem bs_small {f : Pt → Int} {M : Nat} {lx ly : Int} {nx ny : Nat} (h1 : -(M : Int) ≤ lx) (h2 : lx + (nx : Int) ≤ (M : Int) + 1) (h3 : -(M : Int) ≤ ly) (h4 : ly + (ny : Int) ≤ (M : Int) + 1)
    (h : ∀ p : Pt, (p.1 < lx ∨ lx + (nx : Int) ≤ p.1 ∨ p.2 < ly ∨ ly + (ny : Int) ≤ p.2) → f p = 0) : bs f M = rs (fun x => rs (fun y => f (x, y)) ly ny) lx nx := by
  unfold bs
  rw [rs_swap (fun x y => f (x, y)), rs_sub (p := lx) (k := nx) h1 (by omega) fun x hx => rs_zero _ fun y _ _ => h (x, y) (by simp only; omega)]
  exact rs_congr _ fun x _ _ => rs_sub h3 (by omega) fun y hy => h (x, y) (by simp only; omega)
end Go.Proofs.Ytijpolfmiajenaa
