/- The theorem of the planimeter, plain: the sweep of elbows is the area of the walk, less the turns times the doubled area of the track's points. -/
import Derived.Test.YtfgplmgkejeoiaaWTurn
import Derived.Test.YtfgplmgkejeoiaaLeast
import Derived.Test.YtfgplmgkejeoiaaSorted
import Derived.Test.YtfgplmgkejeoiaaPth
namespace Go.Proofs.Ytfgplmgkejeoiaa
open Go.RowKit

/-- What the sides of the places give. -/
def jTo (T : Trk) (ns : List Nat) : Nat → Int
  | 0 => 0
  | k + 1 => jTo T ns k + cross (pat T.pts (nat ns k)) (pat T.pts (nat ns (nx ns.length k)))
theorem dbl_four (a b c d : Pt) : dbl [a, b, c, d] = cross a b + cross b c + cross c d + cross d a := by
  simp [dbl, dblTo, pat, nxt]
theorem swpTo_sum {T : Trk} {m : List Pt} {ns : List Nat} (hl : ns.length = m.length) : ∀ k, k ≤ m.length → swpTo T m ns k = cross (pat T.pts (nat ns 0)) (pat m 0) - cross (pat T.pts (nat ns (k % m.length))) (pat m (k % m.length)) + dblTo m k - jTo T ns k
  | 0, _ => by simp [swpTo, dblTo, jTo]
  | k + 1, hk => by
    have ih := swpTo_sum hl (T := T) k (by omega)
    have h1 : k % m.length = k := Nat.mod_eq_of_lt (by omega)
    rw [h1] at ih
    have h2 := cross_anti (pat m ((k + 1) % m.length)) (pat T.pts (nat ns ((k + 1) % m.length)))
    have h3 := cross_anti (pat T.pts (nat ns ((k + 1) % m.length))) (pat T.pts (nat ns k))
    rw [swpTo, ih, quad, dbl_four, dblTo, jTo, nxt, nx, hl]
    omega
theorem swp_sum {T : Trk} {m : List Pt} {ns : List Nat} (hl : ns.length = m.length) : swp T m ns = dbl m - jTo T ns ns.length := by
  have h := swpTo_sum (T := T) hl m.length (Nat.le_refl _)
  rw [Nat.mod_self] at h
  rw [swp, hl, h, dbl]
  omega

/-- The places are steps of the track. -/
def stepsOk (T : Trk) (ns : List Nat) : Prop := ∀ i, i < ns.length → nat ns i < T.pts.length ∧ (stepV T (nat ns i) (nat ns (nx ns.length i))).2 = true

/-- The open track: the sides are those of the track from its begin. -/
theorem dblTo_step {l : List Pt} {a : Nat} (h : a + 1 < l.length) : cross (pat l a) (pat l (a + 1)) = dblTo l (a + 1) - dblTo l a := by
  rw [dblTo, nxt, Nat.mod_eq_of_lt h]
  omega
theorem jTo_open {T : Trk} {ns : List Nat} (hc : T.closed = 0) (hs : stepsOk T ns) : ∀ k, k ≤ ns.length → jTo T ns k = dblTo T.pts (nat ns (k % ns.length)) - dblTo T.pts (nat ns 0)
  | 0, _ => by simp [jTo]
  | k + 1, hk => by
    have ih := jTo_open hc hs k (by omega)
    have h1 : k % ns.length = k := Nat.mod_eq_of_lt (by omega)
    rw [h1] at ih
    obtain ⟨h2, h3⟩ := hs k (by omega)
    obtain ⟨h4, -⟩ := hs (nx ns.length k) (nx_lt (by omega))
    rw [jTo, ih]
    change _ = dblTo T.pts (nat ns (nx ns.length k)) - _
    generalize nat ns k = a at *
    generalize nat ns (nx ns.length k) = b at *
    unfold stepV at h3
    split at h3
    · subst_vars
      rw [cross_self]
      omega
    · split at h3
      · rename_i h5
        have h6 : b = a + 1 := by omega
        subst h6
        rw [dblTo_step h4]
        omega
      · split at h3
        · rename_i h5
          have h6 : a = b + 1 := by omega
          subst h6
          have h7 := dblTo_step h2
          have h8 := cross_anti (pat T.pts b) (pat T.pts (b + 1))
          omega
        · cases h3
theorem jTo_open_zero {T : Trk} {ns : List Nat} (hc : T.closed = 0) (hs : stepsOk T ns) : jTo T ns ns.length = 0 := by
  rw [jTo_open hc hs _ (Nat.le_refl _), Nat.mod_self]
  omega

/-- The closed track: the doubled area up to a place, counted on around the track. -/
def lft (l : List Pt) (h : Int) : Int := h / (l.length : Int) * dbl l + dblTo l (h % (l.length : Int)).toNat
theorem lft_succ {l : List Pt} (hn : 0 < l.length) (h : Int) {a : Nat} (ha : h % (l.length : Int) = a) : lft l (h + 1) = lft l h + cross (pat l a) (pat l ((a + 1) % l.length)) ∧ (h + 1) % (l.length : Int) = ((a + 1) % l.length : Nat) := by
  have hL : (l.length : Int) ≠ 0 := by omega
  have hal : a < l.length := by have := Int.emod_lt_of_pos h (show (0 : Int) < l.length by omega); omega
  have he := Int.emod_add_mul_ediv h (l.length : Int)
  rw [ha] at he
  by_cases hw : a + 1 = l.length
  · have h1 : h + 1 = (l.length : Int) * (h / (l.length : Int) + 1) := by
      rw [Int.mul_add]
      omega
    have h2 : (h + 1) / (l.length : Int) = h / (l.length : Int) + 1 := by
      rw [h1, Int.mul_ediv_cancel_left _ hL]
    have h3 : (h + 1) % (l.length : Int) = 0 := by
      rw [h1, Int.mul_emod_right]
    refine ⟨?_, by rw [h3, hw, Nat.mod_self]; rfl⟩
    rw [lft, lft, h2, h3, ha, Int.add_mul]
    have h4 : dbl l = dblTo l a + cross (pat l a) (pat l ((a + 1) % l.length)) := by
      rw [dbl, ← hw, dblTo, nxt, hw]
    simp only [Int.toNat_zero, Int.toNat_natCast, dblTo]
    omega
  · have h1 : h + 1 = ((a + 1 : Nat) : Int) + (l.length : Int) * (h / (l.length : Int)) := by omega
    have h2 : (h + 1) / (l.length : Int) = h / (l.length : Int) := by
      rw [h1, Int.add_mul_ediv_left _ _ hL, Int.ediv_eq_zero_of_lt (by omega) (by omega)]
      omega
    have h3 : (h + 1) % (l.length : Int) = ((a + 1 : Nat) : Int) := by
      rw [h1, Int.add_mul_emod_self_left]
      exact Int.emod_eq_of_lt (by omega) (by omega)
    refine ⟨?_, by rw [h3, Nat.mod_eq_of_lt (by omega)]⟩
    rw [lft, lft, h2, h3, ha]
    simp only [Int.toNat_natCast, dblTo, nxt]
    omega
theorem lft_step {T : Trk} (h3 : 3 ≤ T.pts.length) {a b : Nat} (ha : a < T.pts.length) (hb : b < T.pts.length) (hs : (stepV T a b).2 = true) (h : Int) (hh : h % (T.pts.length : Int) = a) :
    lft T.pts (h + (stepV T a b).1) = lft T.pts h + cross (pat T.pts a) (pat T.pts b) ∧ (h + (stepV T a b).1) % (T.pts.length : Int) = b := by
  unfold stepV at hs ⊢
  split at hs
  · subst_vars
    simp only [if_true, cross_self, Int.add_zero]
    exact ⟨trivial, hh⟩
  · rename_i h0
    rw [if_neg h0]
    split at hs
    · rename_i h5
      rw [if_pos h5]
      have h6 : b = (a + 1) % T.pts.length := by
        rcases h5 with h5 | ⟨-, h5, h7⟩
        · rw [Nat.mod_eq_of_lt (by omega)]; exact h5
        · rw [h5, Nat.mod_self]; exact h7
      rw [h6]
      exact lft_succ (by omega) h hh
    · rename_i h4
      rw [if_neg h4]
      split at hs
      · rename_i h5
        rw [if_pos h5]
        have h6 : a = (b + 1) % T.pts.length := by
          rcases h5 with h5 | ⟨-, h5, h7⟩
          · rw [Nat.mod_eq_of_lt (by omega)]; exact h5.symm
          · rw [h7, Nat.mod_self]; exact h5
        have h8 : (h + -1) % (T.pts.length : Int) = b := by
          have hL : (T.pts.length : Int) ≠ 0 := by omega
          have he := Int.emod_add_mul_ediv h (T.pts.length : Int)
          rw [hh] at he
          by_cases hw : b + 1 = T.pts.length
          · have ha0 : a = 0 := by rw [h6, hw, Nat.mod_self]
            have e1 : h + -1 = (b : Int) + (T.pts.length : Int) * (h / (T.pts.length : Int) - 1) := by
              rw [Int.mul_sub]
              omega
            rw [e1, Int.add_mul_emod_self_left]
            exact Int.emod_eq_of_lt (by omega) (by omega)
          · have ha0 : a = b + 1 := by rw [h6, Nat.mod_eq_of_lt (by omega)]
            have e1 : h + -1 = (b : Int) + (T.pts.length : Int) * (h / (T.pts.length : Int)) := by omega
            rw [e1, Int.add_mul_emod_self_left]
            exact Int.emod_eq_of_lt (by omega) (by omega)
        have h9 := (lft_succ (by omega) (h + -1) h8).1
        rw [← h6] at h9
        have h10 : h + -1 + 1 = h := by omega
        rw [h10] at h9
        have h11 := cross_anti (pat T.pts a) (pat T.pts b)
        exact ⟨by simp only []; omega, h8⟩
      · cases hs
theorem jTo_closed {T : Trk} {ns : List Nat} (h3 : 3 ≤ T.pts.length) (hc : T.closed = 1) (hs : stepsOk T ns) : ∀ k, k ≤ ns.length → 0 < ns.length →
    jTo T ns k = lft T.pts ((nat ns 0 : Nat) + onTo T ns k) - lft T.pts (nat ns 0 : Nat) ∧ (((nat ns 0 : Nat) : Int) + onTo T ns k) % (T.pts.length : Int) = (nat ns (k % ns.length) : Nat)
  | 0, _, hp => by
    have h1 := (hs 0 hp).1
    simp only [jTo, onTo, Int.add_zero, Nat.zero_mod]
    exact ⟨by omega, Int.emod_eq_of_lt (by omega) (by omega)⟩
  | k + 1, hk, hp => by
    obtain ⟨i1, i2⟩ := jTo_closed h3 hc hs k (by omega) hp
    have h1 : k % ns.length = k := Nat.mod_eq_of_lt (by omega)
    rw [h1] at i2
    obtain ⟨h2, h4⟩ := hs k (by omega)
    obtain ⟨h5, -⟩ := hs (nx ns.length k) (nx_lt (by omega))
    obtain ⟨j1, j2⟩ := lft_step h3 h2 h5 h4 _ i2
    rw [jTo, onTo, i1, ← Int.add_assoc, st1, j1]
    exact ⟨by omega, j2⟩
theorem jTo_closed_end {T : Trk} {ns : List Nat} (h3 : 3 ≤ T.pts.length) (hc : T.closed = 1) (hs : stepsOk T ns) (hp : 0 < ns.length) :
    jTo T ns ns.length = (onV T ns).tdiv T.pts.length * dbl T.pts := by
  obtain ⟨h1, h2⟩ := jTo_closed h3 hc hs ns.length (Nat.le_refl _) hp
  rw [Nat.mod_self] at h2
  have ha := (hs 0 hp).1
  rw [h1]
  change lft T.pts (_ + onV T ns) - _ = _
  change (_ + onV T ns) % _ = _ at h2
  generalize onV T ns = s at *
  generalize nat ns 0 = a at *
  have hL : (T.pts.length : Int) ≠ 0 := by omega
  have he := Int.emod_add_mul_ediv ((a : Int) + s) (T.pts.length : Int)
  rw [h2] at he
  have hq : s = (T.pts.length : Int) * (((a : Int) + s) / (T.pts.length : Int)) := by omega
  generalize ((a : Int) + s) / (T.pts.length : Int) = q at *
  subst hq
  rw [Int.mul_tdiv_cancel_left _ hL, lft, lft, Int.add_mul_ediv_left _ _ hL, Int.add_mul_emod_self_left, Int.add_mul]
  omega
theorem steps_of {T : Trk} {m : List Pt} {ns : List Nat} (hn : ∀ i, i < ns.length → nat ns i < T.pts.length) (ha : areN T m ns = true) : stepsOk T ns := by
  simp only [areN, List.all_eq_true, List.mem_range, elOk, Bool.and_eq_true] at ha
  exact fun i hi => ⟨hn i hi, (ha i hi).1⟩
theorem trk_closed {T : Trk} (h : trkB T = true) : (T.closed = 0 ∨ T.closed = 1) ∧ (T.closed ≠ 0 → 3 ≤ T.pts.length) := by
  simp only [trkB, within, Bool.and_eq_true, decide_eq_true_eq, Bool.or_eq_true, beq_iff_eq] at h
  exact ⟨by omega, fun h0 => by omega⟩
/-- Sweep is Area less Turns times the track's doubled area. -/
theorem meter {T : Trk} {m : List Pt} {l : List Int} (h : tldE T m l = 0) : swV T m l = dbl m - tnV T m l * dbl T.pts := by
  obtain ⟨hT, hm, h1, h2, h3, h4⟩ := tldE_zero h
  have hl : (l.map Int.toNat).length = m.length := by rw [List.length_map]; exact h1
  have hs := steps_of (m := m) (fun i hi => h3 i (by rw [List.length_map] at hi; exact hi)) h4
  rw [swV, tnV, if_pos h, if_pos h, swp_sum hl]
  obtain ⟨hc, hc3⟩ := trk_closed hT
  split
  · rename_i h0
    rw [jTo_open_zero h0 hs]
    omega
  · rename_i h0
    rw [jTo_closed_end (hc3 h0) (by omega) hs (by have := walkB_bd hm; omega)]
theorem tn_bd {T : Trk} {m : List Pt} {l : List Int} (h : tldE T m l = 0) : -(m.length : Int) ≤ tnV T m l ∧ tnV T m l ≤ m.length := by
  obtain ⟨hT, hm, h1, -, -, -⟩ := tldE_zero h
  rw [tnV, if_pos h]
  have hb := onTo_bd T (l.map Int.toNat) (l.map Int.toNat).length
  rw [List.length_map, h1] at hb
  split
  · omega
  · have h3 : ((onV T (l.map Int.toNat)).tdiv T.pts.length).natAbs ≤ (onV T (l.map Int.toNat)).natAbs := by rw [Int.natAbs_tdiv]; exact Nat.div_le_self _ _
    rw [onV, List.length_map, h1] at h3 ⊢
    omega
theorem tn_open {T : Trk} {m : List Pt} {l : List Int} (hc : T.closed = 0) : tnV T m l = 0 := by
  rw [tnV, if_pos hc]
  split <;> rfl

/-- All elbows, and nothing else, are among those that the iterator gives. -/
theorem nat_app (a : List Nat) (q : Nat) (e : List Nat) : nat (a ++ q :: e) a.length = q := by simp [nat]
theorem nat_left {a : List Nat} {e : List Nat} {i : Nat} (h : i < a.length) : nat (a ++ e) i = nat a i := by simp [nat, List.getElem?_append_left h]
theorem allR_iff {T : Trk} {m : List Pt} (x : List Nat) : ∀ (r : Nat) (first : List Nat), x ∈ allR T m r first ↔
    (∃ e, x = first ++ e ∧ e.length = r) ∧ (∀ i, first.length ≤ i → i < x.length → nat x i < T.pts.length ∧ reachB T (nat x i) (pat m i) = true ∧ (i ≠ 0 → (stepV T (nat x (i - 1)) (nat x i)).2 = true)) ∧ (stepV T (nat x (x.length - 1)) (nat x 0)).2 = true
  | 0, first => by
    rw [allR]
    constructor
    · intro h
      split at h
      · rename_i hs
        rw [List.mem_singleton] at h
        subst h
        exact ⟨⟨[], by simp, rfl⟩, fun i h1 h2 => by omega, hs⟩
      · cases h
    · rintro ⟨⟨e, he, hl⟩, -, hs⟩
      have he0 := List.eq_nil_of_length_eq_zero hl
      subst he0
      rw [List.append_nil] at he
      subst he
      rw [if_pos hs]
      exact List.mem_singleton.2 rfl
  | r + 1, first => by
    rw [allR, List.mem_flatMap]
    constructor
    · rintro ⟨q, hq, hx⟩
      split at hx
      · rename_i hs
        obtain ⟨⟨e, he, hl⟩, hi, hw⟩ := (allR_iff x r (first ++ [q])).1 hx
        rw [List.append_assoc, List.singleton_append] at he
        subst he
        refine ⟨⟨q :: e, rfl, by simp [hl]⟩, fun i h1 h2 => ?_, hw⟩
        by_cases h3 : i = first.length
        · subst h3
          rw [nat_app]
          simp only [plcN, List.mem_filter, List.mem_range] at hq
          refine ⟨hq.1, hq.2, fun h0 => ?_⟩
          rw [nat_left (by omega)]
          rcases hs with hs | hs
          · exact absurd hs h0
          · exact hs
        · exact hi i (by rw [List.length_append, List.length_singleton]; omega) h2
      · cases hx
    · rintro ⟨⟨e, he, hl⟩, hi, hw⟩
      cases e with
      | nil => simp at hl
      | cons q e =>
        subst he
        have h1 := hi first.length (Nat.le_refl _) (by simp)
        rw [nat_app] at h1
        refine ⟨q, by simp only [plcN, List.mem_filter, List.mem_range]; exact ⟨h1.1, h1.2.1⟩, ?_⟩
        have h2 : first.length = 0 ∨ (stepV T (nat first (first.length - 1)) q).2 = true := by
          by_cases h0 : first.length = 0
          · exact .inl h0
          · have h4 := h1.2.2 h0
            rw [nat_left (by omega)] at h4
            exact .inr h4
        rw [if_pos h2]
        refine (allR_iff _ r (first ++ [q])).2 ⟨⟨e, by simp, by simpa using hl⟩, fun i h3 h4 => hi i (by rw [List.length_append] at h3; omega) h4, hw⟩
theorem elbs_iff {T : Trk} {m : List Pt} {x : List Nat} (hm : 0 < m.length) : x ∈ elbs T m ↔ x.length = m.length ∧ (∀ i, i < x.length → nat x i < T.pts.length) ∧ areN T m x = true := by
  rw [elbs, allR_iff]
  simp only [areN, List.all_eq_true, List.mem_range, elOk, Bool.and_eq_true, List.nil_append, List.length_nil]
  constructor
  · rintro ⟨⟨e, rfl, hl⟩, hi, hw⟩
    refine ⟨hl, fun i h => (hi i (Nat.zero_le _) h).1, fun i h => ⟨?_, (hi i (Nat.zero_le _) h).2.1⟩⟩
    unfold nx
    by_cases h1 : i + 1 = x.length
    · rw [h1, Nat.mod_self]
      have h2 : i = x.length - 1 := by omega
      rw [h2]
      exact hw
    · rw [Nat.mod_eq_of_lt (by omega)]
      exact (hi (i + 1) (Nat.zero_le _) (by omega)).2.2 (by omega)
  · rintro ⟨hl, hn, ha⟩
    refine ⟨⟨x, rfl, hl⟩, fun i _ h => ⟨hn i h, (ha i h).2, fun h0 => ?_⟩, ?_⟩
    · have h2 := (ha (i - 1) (by omega)).1
      unfold nx at h2
      rw [show i - 1 + 1 = i by omega, Nat.mod_eq_of_lt h] at h2
      exact h2
    · have h2 := (ha (x.length - 1) (by omega)).1
      unfold nx at h2
      rw [show x.length - 1 + 1 = x.length by omega, Nat.mod_self] at h2
      exact h2
theorem ddp_const (a : Int) : ∀ l : List Int, l ≠ [] → (∀ x ∈ l, x = a) → ddp l = [a]
  | [], h, _ => absurd rfl h
  | b :: t, _, h => by
    have hb := h b List.mem_cons_self
    subst hb
    rw [ddp]
    cases t with
    | nil => rfl
    | cons c t =>
      have ih := ddp_const b (c :: t) (by simp) (fun x hx => h x (List.mem_cons_of_mem _ hx))
      rw [ih]
      simp
theorem srt_const {a : Int} {l : List Int} (h0 : l ≠ []) (h : ∀ x ∈ l, x = a) : srt l = [a] := by
  rw [srt, ddp_const a l h0 h]
  simp
/-- On an open track, each sweep is the area. -/
theorem swp_open {T : Trk} {m : List Pt} {x : List Nat} (_ : trkB T = true) (hm : walkB m = true) (hc : T.closed = 0) (hx : x ∈ elbs T m) : swp T m x = dbl m := by
  obtain ⟨h1, h2, h3⟩ := (elbs_iff (by have := walkB_bd hm; omega)).1 hx
  rw [swp_sum h1, jTo_open_zero hc (steps_of h2 h3)]
  omega
end Go.Proofs.Ytfgplmgkejeoiaa
