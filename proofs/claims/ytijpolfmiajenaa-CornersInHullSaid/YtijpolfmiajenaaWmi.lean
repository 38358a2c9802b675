/- The winding a bit above to the right of a point, and a bit below to the left of it: how they differ. -/
import Derived.Test.YtijpolfmiajenaaWup
namespace Go.Proofs.Ytijpolfmiajenaa

/-- A side to the left of a point that is a bit lower: the winding of the turned polygon. -/
def cmn (a b p : Pt) : Int := cp (neg a) (neg b) (neg p)
theorem cmn_anti (a b p : Pt) : cmn b a p = - cmn a b p := cp_anti _ _ _
/-- Whether a is the lower end of a side: the right one, if it is flat. -/
def lwB (a b : Pt) : Bool := decide (a.2 < b.2) || (decide (a.2 = b.2) && decide (b.1 < a.1))
def dl (a b p : Pt) : Int := if has a b p = true then (if lwB a b = true then (if p = a then 0 else -1) else if lwB b a = true then (if p = b then 0 else 1) else 0) else 0
def psi (p v : Pt) : Int := (if v.2 = p.2 ∧ p.1 < v.1 then 1 else 0) + (if v.2 < p.2 then 1 else 0)
theorem lwB_iff (a b : Pt) : lwB a b = true ↔ a.2 < b.2 ∨ (a.2 = b.2 ∧ b.1 < a.1) := by
  simp only [lwB, Bool.or_eq_true, Bool.and_eq_true, decide_eq_true_eq]
theorem dl_anti (a b p : Pt) : dl b a p = - dl a b p := by
  unfold dl
  rw [has_comm]
  split
  · have h1 := lwB_iff a b
    have h2 := lwB_iff b a
    cases e1 : lwB a b <;> cases e2 : lwB b a <;> rw [e1] at h1 <;> rw [e2] at h2 <;> simp only [Bool.false_eq_true, if_true, if_false]
    · rfl
    · split <;> rfl
    · split <;> rfl
    · have k1 := h1.1 rfl
      have k2 := h2.1 rfl
      omega
  · rfl
theorem cmn_up {a b p : Pt} (h : a.2 < b.2) : cmn a b p = if a.2 < p.2 ∧ p.2 ≤ b.2 ∧ turn a b p < 0 then -1 else 0 := by
  unfold cmn
  rw [cp_anti (neg b) (neg a), cp_up (a := neg b) (b := neg a) (by simp only [neg]; omega), turn_negs, turn_neg a b p]
  by_cases k : a.2 < p.2 ∧ p.2 ≤ b.2 ∧ turn a b p < 0
  · rw [if_pos k, if_pos (by simp only [neg]; omega)]
  · rw [if_neg k, if_neg (by simp only [neg]; omega)]
    rfl
theorem cmn_flat {a b p : Pt} (h : a.2 = b.2) : cmn a b p = 0 := cp_flat (by simp only [neg]; omega)
theorem turn_top {a b p : Pt} (h : p.2 = b.2) : turn a b p = -((b.2 - a.2) * (p.1 - b.1)) := by
  simp only [turn]
  rw [h]
  grind
theorem diff_up {a b p : Pt} (h : a.2 < b.2) : cp a b p - cmn a b p = psi p a - psi p b + dl a b p := by
  rw [cp_up h, cmn_up h]
  have hl : lwB a b = true := (lwB_iff a b).2 (.inl h)
  have hd : 0 < b.2 - a.2 := by omega
  have hh : has a b p = true ↔ turn a b p = 0 ∧ a.2 ≤ p.2 ∧ p.2 ≤ b.2 := by
    constructor
    · intro k
      have := has_box k
      exact ⟨has_turn k, by omega, by omega⟩
    · rintro ⟨k1, k2, k3⟩
      exact has_row k1 h k2 k3
  unfold dl psi
  rw [hl, if_pos rfl]
  rcases Int.lt_trichotomy p.2 a.2 with k | k | k
  · rw [if_neg (by omega), if_neg (by omega), if_neg (by omega), if_neg (by omega), if_neg (by omega), if_neg (by omega), if_neg (by rw [hh]; omega)]
    rfl
  · have t := turn_row (a := a) (b := b) (p := p) k
    have s1 : 0 < turn a b p ↔ p.1 < a.1 := by
      rw [t]
      constructor
      · intro q
        have := neg_of_mul hd (show (b.2 - a.2) * (p.1 - a.1) < 0 by omega)
        omega
      · intro q
        have := mul_neg' hd (show p.1 - a.1 < 0 by omega)
        omega
    have s2 : turn a b p = 0 → p = a := fun q => by
      have := zero_of_mul hd (show (b.2 - a.2) * (p.1 - a.1) = 0 by omega)
      exact Prod.ext (by omega) k
    rw [if_neg (show ¬ (a.2 < p.2 ∧ p.2 ≤ b.2 ∧ turn a b p < 0) by omega), if_neg (show ¬ a.2 < p.2 by omega), if_neg (show ¬ (b.2 = p.2 ∧ p.1 < b.1) by omega), if_neg (show ¬ b.2 < p.2 by omega)]
    have e : (if has a b p = true then (if p = a then (0 : Int) else -1) else 0) = 0 := by
      split
      · rename_i q
        rw [if_pos (s2 (has_turn q))]
      · rfl
    rw [e]
    by_cases q : p.1 < a.1
    · rw [if_pos ⟨by omega, by omega, s1.2 q⟩, if_pos ⟨by omega, q⟩]
      rfl
    · rw [if_neg (by omega), if_neg (by omega)]
      rfl
  · rw [if_neg (show ¬ (a.2 = p.2 ∧ p.1 < a.1) by omega), if_pos (show a.2 < p.2 from k)]
    have hne : p ≠ a := fun e => by rw [e] at k; omega
    rw [if_neg hne]
    rcases Int.lt_trichotomy p.2 b.2 with j | j | j
    · rw [if_neg (show ¬ (b.2 = p.2 ∧ p.1 < b.1) by omega), if_neg (show ¬ b.2 < p.2 by omega)]
      rcases Int.lt_trichotomy (turn a b p) 0 with t | t | t
      · rw [if_neg (by omega), if_pos (by omega), if_neg (by rw [hh]; omega)]
        rfl
      · rw [if_neg (by omega), if_neg (by omega), if_pos (by rw [hh]; omega)]
        rfl
      · rw [if_pos (by omega), if_neg (by omega), if_neg (by rw [hh]; omega)]
        rfl
    · have t := turn_top (a := a) (b := b) (p := p) j
      have s1 : turn a b p < 0 ↔ b.1 < p.1 := by
        rw [t]
        constructor
        · intro q
          have := pos_of_mul hd (show 0 < (b.2 - a.2) * (p.1 - b.1) by omega)
          omega
        · intro q
          have := Int.mul_pos hd (show 0 < p.1 - b.1 by omega)
          omega
      have s2 : turn a b p = 0 ↔ p.1 = b.1 := by
        rw [t]
        constructor
        · intro q
          have := zero_of_mul hd (show (b.2 - a.2) * (p.1 - b.1) = 0 by omega)
          omega
        · intro q
          rw [q, Int.sub_self, Int.mul_zero]
          rfl
      rw [if_neg (show ¬ (a.2 ≤ p.2 ∧ p.2 < b.2 ∧ 0 < turn a b p) by omega), if_neg (show ¬ b.2 < p.2 by omega)]
      rcases Int.lt_trichotomy p.1 b.1 with q | q | q
      · rw [if_neg (by omega), if_pos (by omega), if_neg (by rw [hh]; omega)]
        rfl
      · rw [if_neg (by omega), if_neg (by omega), if_pos (by rw [hh]; omega)]
        rfl
      · rw [if_pos (by omega), if_neg (by omega), if_neg (by rw [hh]; omega)]
        rfl
    · rw [if_neg (by omega), if_neg (by omega), if_neg (by omega), if_pos (by omega), if_neg (by rw [hh]; omega)]
      rfl
theorem diff_flat {a b p : Pt} (h : a.2 = b.2) : cp a b p - cmn a b p = psi p a - psi p b + dl a b p := by
  rw [cp_flat h, cmn_flat h]
  have hh : has a b p = true ↔ p.2 = a.2 ∧ ((a.1 ≤ p.1 ∧ p.1 ≤ b.1) ∨ (b.1 ≤ p.1 ∧ p.1 ≤ a.1)) := by
    constructor
    · intro k
      have := has_box k
      omega
    · rintro ⟨k1, k2⟩
      exact has_flat h k1 k2
  have ea : p = a ↔ p.1 = a.1 ∧ p.2 = a.2 := ⟨fun e => by rw [e]; exact ⟨rfl, rfl⟩, fun e => Prod.ext e.1 e.2⟩
  have eb : p = b ↔ p.1 = b.1 ∧ p.2 = b.2 := ⟨fun e => by rw [e]; exact ⟨rfl, rfl⟩, fun e => Prod.ext e.1 e.2⟩
  have l1 := lwB_iff a b
  have l2 := lwB_iff b a
  unfold dl psi
  by_cases k : p.2 = a.2
  · rw [if_neg (show ¬ a.2 < p.2 by omega), if_neg (show ¬ b.2 < p.2 by omega)]
    rcases Int.lt_trichotomy a.1 b.1 with j | j | j
    · rw [if_neg (c := lwB a b = true) (by rw [l1]; omega), if_pos (c := lwB b a = true) (by rw [l2]; omega)]
      by_cases g : has a b p = true
      · rw [if_pos g]
        rw [hh] at g
        by_cases q : p = b
        · rw [if_pos q]
          rw [eb] at q
          rw [if_neg (by omega), if_neg (by omega)]
          rfl
        · rw [if_neg q]
          rw [eb] at q
          rw [if_neg (by omega), if_pos (by omega)]
          rfl
      · rw [if_neg g]
        rw [hh] at g
        split <;> split <;> omega
    · rw [if_neg (c := lwB a b = true) (by rw [l1]; omega), if_neg (c := lwB b a = true) (by rw [l2]; omega)]
      have e : (if has a b p = true then (0 : Int) else 0) = 0 := by split <;> rfl
      rw [e]
      split <;> split <;> omega
    · rw [if_pos (c := lwB a b = true) (by rw [l1]; omega)]
      by_cases g : has a b p = true
      · rw [if_pos g]
        rw [hh] at g
        by_cases q : p = a
        · rw [if_pos q]
          rw [ea] at q
          rw [if_neg (by omega), if_neg (by omega)]
          rfl
        · rw [if_neg q]
          rw [ea] at q
          rw [if_pos (by omega), if_neg (by omega)]
          rfl
      · rw [if_neg g]
        rw [hh] at g
        split <;> split <;> omega
  · rw [if_neg (c := has a b p = true) (by rw [hh]; omega), if_neg (c := a.2 = p.2 ∧ p.1 < a.1) (by omega), if_neg (c := b.2 = p.2 ∧ p.1 < b.1) (by omega), ← h]
    omega
theorem diff_any (a b p : Pt) : cp a b p - cmn a b p = psi p a - psi p b + dl a b p := by
  rcases Int.lt_trichotomy a.2 b.2 with h | h | h
  · exact diff_up h
  · exact diff_flat h
  · have := diff_up (p := p) h
    rw [cp_anti a b, cmn_anti a b, dl_anti a b] at this
    omega
theorem ring_negs (P : List Pt) : ring (P.map neg) = (ring P).map fun e => (neg e.1, neg e.2) := by
  cases P with
  | nil => rfl
  | cons x t =>
    rw [List.map_cons, ring_cons, ring_cons, ← chain_negs]
    simp
theorem tot_map (g : Pt → Pt → Int) : ∀ E : List Edge, tot g (E.map fun e => (neg e.1, neg e.2)) = tot (fun a b => g (neg a) (neg b)) E
  | [] => rfl
  | e :: E => by simp only [List.map_cons, tot, tot_map g E]
/-- The winding a bit below to the left. -/
def wndm (P : List Pt) (p : Pt) : Int := wnd (P.map neg) (neg p)
theorem wndm_tot (P : List Pt) (p : Pt) : wndm P p = tot (fun a b => cmn a b p) (ring P) := by
  unfold wndm wnd
  rw [ring_negs, tot_map]
  rfl
theorem tot_add (g h : Pt → Pt → Int) : ∀ E : List Edge, tot (fun a b => g a b + h a b) E = tot g E + tot h E
  | [] => rfl
  | e :: E => by simp only [tot, tot_add g h E]; omega
theorem chain_tele (g : Pt → Int) (y : Pt) : ∀ (x : Pt) (t : List Pt), tot (fun a b => g a - g b) (chain x (t ++ [y])) = g x - g y
  | x, [] => by simp only [List.nil_append, chain, tot]; omega
  | x, z :: t => by
    rw [List.cons_append, chain, tot, chain_tele g y z t]
    simp only
    omega
theorem ring_tele (g : Pt → Int) (P : List Pt) : tot (fun a b => g a - g b) (ring P) = 0 := by
  cases P with
  | nil => rfl
  | cons x t => rw [ring_cons, chain_tele]; omega
theorem wnd_diff (P : List Pt) (p : Pt) : wnd P p - wndm P p = tot (fun a b => dl a b p) (ring P) := by
  have h1 := tot_add (fun a b => psi p a - psi p b) (fun a b => dl a b p) (ring P)
  rw [ring_tele] at h1
  have h2 := tot_add (fun a b => cp a b p) (fun a b => - cmn a b p) (ring P)
  have h3 : tot (fun a b => - cmn a b p) (ring P) = - tot (fun a b => cmn a b p) (ring P) := tot_neg _ _
  have h4 : tot (fun a b => cp a b p + - cmn a b p) (ring P) = tot (fun a b => psi p a - psi p b + dl a b p) (ring P) := tot_congr _ fun a b => by have := diff_any a b p; omega
  rw [wndm_tot]
  unfold wnd
  omega
theorem simp_negs {P : List Pt} (h : Simp P) : Simp (P.map neg) := by
  refine ⟨by rw [List.length_map]; exact h.len, List.Pairwise.map _ (fun a b hab e => hab (by rw [← neg_neg a, e, neg_neg])) h.nodup, ?_⟩
  rw [ring_negs]
  refine ⟨fun e he v hv hh => ?_, fun e he f hf hc => ?_, fun e he => ?_⟩
  · obtain ⟨e0, he0, rfl⟩ := List.mem_map.1 he
    obtain ⟨u, hu, rfl⟩ := List.mem_map.1 hv
    simp only at hh ⊢
    rw [has_negs] at hh
    rcases h.good.vert e0 he0 u hu hh with rfl | rfl
    · exact .inl rfl
    · exact .inr rfl
  · obtain ⟨e0, he0, rfl⟩ := List.mem_map.1 he
    obtain ⟨f0, hf0, rfl⟩ := List.mem_map.1 hf
    exact h.good.nocross e0 he0 f0 hf0 ((crs2_negs _ _ _ _).1 hc)
  · obtain ⟨e0, he0, rfl⟩ := List.mem_map.1 he
    exact ⟨List.mem_map_of_mem (h.good.ends e0 he0).1, List.mem_map_of_mem (h.good.ends e0 he0).2⟩
theorem wndm_of {P : List Pt} {s : Int} (h : Simp P) (hs : s = 1 ∨ s = -1) (ht : Tri s P) (p : Pt) : 0 ≤ s * wndm P p ∧ s * wndm P p ≤ 1 := wnd_of (simp_negs h) hs ht.negs (neg p)
theorem tot_zero {g : Pt → Pt → Int} : ∀ E : List Edge, (∀ e ∈ E, g e.1 e.2 = 0) → tot g E = 0
  | [], _ => rfl
  | e :: E, h => by
    rw [tot, h e List.mem_cons_self, tot_zero E fun f hf => h f (List.mem_cons_of_mem _ hf)]
    rfl
/-- Off the sides both windings are the same. -/
theorem wnd_off {P : List Pt} {p : Pt} (h : ∀ e ∈ ring P, has e.1 e.2 p = false) : wnd P p = wndm P p := by
  have h1 := wnd_diff P p
  rw [tot_zero (ring P) fun e he => by unfold dl; rw [h e he]; rfl] at h1
  omega
end Go.Proofs.Ytijpolfmiajenaa
