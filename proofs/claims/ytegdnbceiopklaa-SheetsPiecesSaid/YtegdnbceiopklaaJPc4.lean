/- The corners that are left when one is cut off by clip are a simple polygon of the same sign; the triangles cut off together are the polygon. -/
import Derived.Test.YtegdnbceiopklaaJClq
import Derived.Test.YtegdnbceiopklaaJErs
import Derived.Test.YtegdnbceiopklaaJArea
import Derived.Test.YtegdnbceiopklaaSrI
import Derived.Test.YtegdnbceiopklaaMom
import Derived.Test.YtegdnbceiopklaaRi4
namespace Go.Proofs.Ytegdnbceiopklaa

/-- The points of the corners that are left. -/
def lft (l : List Pt) (ls : List Int) : List Pt := ls.map fun k => pat l k.toNat
theorem lft_len (l : List Pt) (ls : List Int) : (lft l ls).length = ls.length := by simp [lft]
theorem lft_pat (l : List Pt) (ls : List Int) {i : Nat} (h : i < ls.length) : pat (lft l ls) i = lpt l ls i := by
  simp only [pat, lft, lpt, iat, List.getD_eq_getElem?_getD, List.getElem?_map, List.getElem?_eq_getElem h, Option.map_some, Option.getD_some]
theorem lft_mem {l : List Pt} {ls : List Int} {z : Pt} (h : z ∈ lft l ls) : ∃ k, k < ls.length ∧ z = lpt l ls k := by
  obtain ⟨i, hi, rfl⟩ := mem_pat.1 h
  rw [lft_len] at hi
  exact ⟨i, hi, lft_pat l ls hi⟩
theorem lpt_mem (l : List Pt) {ls : List Int} {k : Nat} (h : k < ls.length) : lpt l ls k ∈ lft l ls := by
  rw [← lft_pat l ls h]
  exact mem_pat.2 ⟨k, by rw [lft_len]; exact h, rfl⟩
theorem nxn_prv {n i : Nat} (hi : i < n) : nxn n (prv n i) = i := by
  unfold nxn prv
  rcases Nat.eq_zero_or_pos i with rfl | h
  · rw [Nat.zero_add, Nat.mod_eq_of_lt (a := n - 1) (by omega), show n - 1 + 1 = n by omega, Nat.mod_self]
  · rw [show i + n - 1 = (i - 1) + n by omega, Nat.add_mod_right, Nat.mod_eq_of_lt (a := i - 1) (by omega), show i - 1 + 1 = i by omega, Nat.mod_eq_of_lt hi]
theorem prv_nxn {n i : Nat} (hi : i < n) : prv n (nxn n i) = i := by
  unfold nxn prv
  rcases Nat.lt_or_ge (i + 1) n with h | h
  · rw [Nat.mod_eq_of_lt h, show i + 1 + n - 1 = i + n by omega, Nat.add_mod_right, Nat.mod_eq_of_lt hi]
  · have : i + 1 = n := by omega
    rw [this, Nat.mod_self, Nat.zero_add, Nat.mod_eq_of_lt (by omega)]
    omega
theorem ring_next (l : List Pt) {ls : List Int} {k : Nat} (h : k < ls.length) : (lpt l ls k, lpt l ls (nxn ls.length k)) ∈ ring (lft l ls) := by
  refine mem_ring.2 ⟨k, by rw [lft_len]; exact h, ?_⟩
  rw [lft_pat l ls h]
  unfold nxt
  rw [lft_len, show (k + 1) % ls.length = nxn ls.length k from rfl, lft_pat l ls (nxn_lt (by omega))]
theorem lpt_inj {l : List Pt} {ls : List Int} (h : (lft l ls).Nodup) {i j : Nat} (hi : i < ls.length) (hj : j < ls.length) (e : lpt l ls i = lpt l ls j) : i = j := by
  rw [← lft_pat l ls hi, ← lft_pat l ls hj, ← pat_eq (by rw [lft_len]; exact hi), ← pat_eq (by rw [lft_len]; exact hj)] at e
  exact (List.getElem_inj h).1 e
/-- There is a corner to cut off. -/
theorem clip_ex {l : List Pt} {ls : List Int} {s : Int} (h : Simp (lft l ls)) (hR : Res (lft l ls) s) : ∃ i, i < ls.length ∧ (trn l ls i = 0 ∨ EarI l ls s i) := by
  obtain ⟨u, y, w, h1, h2, h3, h4⟩ := ear_any h hR
  obtain ⟨i, hi, e1⟩ := mem_ring.1 h1
  obtain ⟨j, hj, e2⟩ := mem_ring.1 h2
  rw [lft_len] at hi hj
  have n1 := nxn_lt (n := ls.length) (i := i) (by omega)
  have n2 := nxn_lt (n := ls.length) (i := j) (by omega)
  unfold nxt at e1 e2
  rw [lft_len, lft_pat l ls hi] at e1
  rw [lft_len, lft_pat l ls hj] at e2
  rw [show (i + 1) % ls.length = nxn ls.length i from rfl, lft_pat l ls n1] at e1
  rw [show (j + 1) % ls.length = nxn ls.length j from rfl, lft_pat l ls n2] at e2
  injection e1 with a1 a2
  injection e2 with b1 b2
  have hij : nxn ls.length i = j := lpt_inj h.nodup n1 hj (a2.symm.trans b1)
  have hp : prv ls.length j = i := by rw [← hij, prv_nxn hi]
  refine ⟨j, hj, .inr ⟨?_, fun k hk => ?_⟩⟩
  · unfold trn
    rw [hp, ← a1, ← b1, ← b2, Int.mul_comm]
    exact Int.le_of_lt h3
  · rw [hp, ← a1, ← b1, ← b2]
    rintro ⟨c1, c2, c3, c4, c5, c6⟩
    rcases h4 _ (lpt_mem l hk) (by rw [Int.mul_comm]; exact c4) (by rw [Int.mul_comm]; exact c5) (by rw [Int.mul_comm]; exact c6) with q | q | q
    · exact c1 q
    · exact c2 q
    · exact c3 q
theorem two_ring (F : Pt → Pt → Int) (hF : ∀ a b, F b a = - F a b) {P : List Pt} (h : P.length = 2) : tot F (ring P) = 0 := by
  match P, h with
  | [a, b], _ =>
    have := hF a b
    show F a b + (F b a + 0) = 0
    omega
/-- Corner i cut off. -/
theorem cut_at {l : List Pt} {ls : List Int} {i : Nat} (h : 3 ≤ ls.length) (hi : i < ls.length) (hn : (lft l ls).Nodup) :
    ∃ M, (∃ A B, lft l ls = A ++ B ∧ B ++ A = lpt l ls i :: lpt l ls (nxn ls.length i) :: (M ++ [lpt l ls (prv ls.length i)]) ∧
      ∃ C D, lft l (ls.eraseIdx i) = C ++ D ∧ D ++ C = lpt l ls (nxn ls.length i) :: (M ++ [lpt l ls (prv ls.length i)])) := by
  have hi2 : i < (lft l ls).length := by rw [lft_len]; exact hi
  have hx : (lft l ls)[i] = lpt l ls i := by rw [pat_eq hi2, lft_pat l ls hi]
  obtain ⟨A, hA⟩ : ∃ A, A = (lft l ls).take i := ⟨_, rfl⟩
  obtain ⟨B, hB⟩ : ∃ B, B = (lft l ls).drop (i + 1) := ⟨_, rfl⟩
  have e1 : lft l ls = A ++ lpt l ls i :: B := by
    rw [hA, hB, ← hx, ← List.drop_eq_getElem_cons hi2, List.take_append_drop]
  have e2 : lft l (ls.eraseIdx i) = A ++ B := by
    rw [hA, hB, List.eraseIdx_eq_take_drop_succ]
    unfold lft
    rw [List.map_append, List.map_take, List.map_drop]
  have hl : 2 ≤ (B ++ A).length := by
    have := congrArg List.length e1
    rw [lft_len] at this
    simp only [List.length_append, List.length_cons] at this ⊢
    omega
  cases hBA : B ++ A with
  | nil => rw [hBA] at hl; simp at hl
  | cons w t =>
    rcases List.eq_nil_or_concat t with rfl | ⟨M, u, rfl⟩
    · rw [hBA] at hl; simp at hl
    · rw [List.concat_eq_append] at hBA
      have er := ring_rot A (lpt l ls i :: B)
      rw [← e1] at er
      have hn2 : ((lpt l ls i :: B) ++ A).Nodup := (List.perm_append_comm (l₁ := A) (l₂ := lpt l ls i :: B)).nodup_iff.1 (e1 ▸ hn)
      rw [List.cons_append, hBA] at er hn2
      have k1 := (first_sides (q := lpt l ls (nxn ls.length i)) hn2).2 (er.mem_iff.1 (ring_next l hi))
      have pl := prv_lt (n := ls.length) (i := i) (by omega)
      have rp := ring_next l pl
      rw [nxn_prv hi] at rp
      have k2 := (first_sides (q := lpt l ls (prv ls.length i)) hn2).1 (er.mem_iff.1 rp)
      refine ⟨M, A, lpt l ls i :: B, e1, by rw [List.cons_append, hBA, k1, k2], A, B, e2, by rw [hBA, k1, k2]⟩
def triF (F : Pt → Pt → Int) (l : List Pt) (t : Int × Int × Int) : Int := F (pat l t.1.toNat) (pat l t.2.1.toNat) + F (pat l t.2.1.toNat) (pat l t.2.2.toNat) + F (pat l t.2.2.toNat) (pat l t.1.toNat)
def triS (F : Pt → Pt → Int) (l : List Pt) : List (Int × Int × Int) → Int
  | [] => 0
  | t :: T => triF F l t + triS F l T
theorem triS_append (F : Pt → Pt → Int) (l : List Pt) : ∀ T U, triS F l (T ++ U) = triS F l T + triS F l U
  | [], U => by simp [triS]
  | t :: T, U => by rw [List.cons_append, triS, triS, triS_append F l T U]; omega
def triT (l : List Pt) (t : Int × Int × Int) : Int := turn (pat l t.1.toNat) (pat l t.2.1.toNat) (pat l t.2.2.toNat)
/-- A triangle of three corners, by their numbers, in order; it goes around as the sign says, or is flat. -/
def TriOk (l : List Pt) (s : Int) (t : Int × Int × Int) : Prop := 0 ≤ t.1 ∧ t.1 < t.2.1 ∧ t.2.1 < t.2.2 ∧ t.2.2 < l.length ∧ 0 ≤ s * triT l t
/-- What is left, and what is cut off. -/
structure Inv (l : List Pt) (s : Int) (ls : List Int) (T : List (Int × Int × Int)) : Prop where
  two : 2 ≤ ls.length
  len : ls.length + T.length = l.length
  inc : ls.Pairwise (· < ·)
  rng : ∀ k ∈ ls, 0 ≤ k ∧ k < (l.length : Int)
  smp : 3 ≤ ls.length → Simp (lft l ls) ∧ Res (lft l ls) s
  tri : ∀ t ∈ T, TriOk l s t
  sum : ∀ F : Pt → Pt → Int, (∀ a b, F b a = - F a b) → tot F (ring l) = tot F (ring (lft l ls)) + triS F l T
/-- The three numbers at corner i, in order. -/
def srt3 (ls : List Int) (i : Nat) : Int × Int × Int :=
  if i = 0 then (iat ls i, iat ls (nxn ls.length i), iat ls (prv ls.length i)) else if i + 1 = ls.length then (iat ls (nxn ls.length i), iat ls (prv ls.length i), iat ls i) else (iat ls (prv ls.length i), iat ls i, iat ls (nxn ls.length i))
theorem inc_at {ls : List Int} (h : ls.Pairwise (· < ·)) {i j : Nat} (hij : i < j) (hj : j < ls.length) : iat ls i < iat ls j := by
  have := List.pairwise_iff_getElem.1 h i j (by omega) hj hij
  rwa [iat_eq (by omega), iat_eq hj] at this
theorem srt3_inc {ls : List Int} (h : ls.Pairwise (· < ·)) (hn : 3 ≤ ls.length) {i : Nat} (hi : i < ls.length) : (srt3 ls i).1 < (srt3 ls i).2.1 ∧ (srt3 ls i).2.1 < (srt3 ls i).2.2 := by
  unfold srt3
  split
  · rename_i h0
    subst h0
    have e1 : nxn ls.length 0 = 1 := by unfold nxn; exact Nat.mod_eq_of_lt (by omega)
    have e2 : prv ls.length 0 = ls.length - 1 := by unfold prv; rw [Nat.zero_add]; exact Nat.mod_eq_of_lt (by omega)
    rw [e1, e2]
    exact ⟨inc_at h (by omega) (by omega), inc_at h (by omega) (by omega)⟩
  · have e2 : prv ls.length i = i - 1 := by
      unfold prv
      rw [show i + ls.length - 1 = (i - 1) + ls.length by omega, Nat.add_mod_right]
      exact Nat.mod_eq_of_lt (by omega)
    split
    · rename_i h0
      have e1 : nxn ls.length i = 0 := by unfold nxn; rw [h0, Nat.mod_self]
      rw [e1, e2]
      exact ⟨inc_at h (by omega) (by omega), inc_at h (by omega) (by omega)⟩
    · have e1 : nxn ls.length i = i + 1 := by unfold nxn; exact Nat.mod_eq_of_lt (by omega)
      rw [e1, e2]
      exact ⟨inc_at h (by omega) (by omega), inc_at h (by omega) (by omega)⟩
theorem srt3_perm (ls : List Int) (i : Nat) : [iat ls (prv ls.length i), iat ls i, iat ls (nxn ls.length i)].Perm [(srt3 ls i).1, (srt3 ls i).2.1, (srt3 ls i).2.2] := by
  unfold srt3
  split
  · exact List.perm_append_comm (l₁ := [iat ls (prv ls.length i)]) (l₂ := [iat ls i, iat ls (nxn ls.length i)])
  · split
    · exact List.perm_append_comm (l₁ := [iat ls (prv ls.length i), iat ls i]) (l₂ := [iat ls (nxn ls.length i)])
    · exact List.Perm.refl _
theorem srt3_sort {ls : List Int} (h : ls.Pairwise (· < ·)) (hn : 3 ≤ ls.length) {i : Nat} (hi : i < ls.length) :
    ([iat ls (prv ls.length i), iat ls i, iat ls (nxn ls.length i)].mergeSort fun x y => decide (x ≤ y)) = [(srt3 ls i).1, (srt3 ls i).2.1, (srt3 ls i).2.2] := by
  obtain ⟨h1, h2⟩ := srt3_inc h hn hi
  have p1 := List.mergeSort_perm [iat ls (prv ls.length i), iat ls i, iat ls (nxn ls.length i)] (fun x y => decide (x ≤ y))
  have p2 := p1.trans (srt3_perm ls i)
  have s1 := List.pairwise_mergeSort (le := fun x y : Int => decide (x ≤ y)) (fun a b c h1 h2 => by simp at h1 h2 ⊢; omega) (fun a b => by simp; omega) [iat ls (prv ls.length i), iat ls i, iat ls (nxn ls.length i)]
  refine List.Perm.eq_of_pairwise (le := fun x y : Int => decide (x ≤ y) = true) (fun a b _ _ h1 h2 => by simp at h1 h2; omega) s1 ?_ p2
  simp only [List.pairwise_cons, List.mem_cons, List.not_mem_nil, or_false, decide_eq_true_eq, List.Pairwise.nil, and_true]
  refine ⟨fun a ha => ?_, fun a ha => ?_, fun a ha => ha.elim⟩
  · rcases ha with rfl | rfl <;> omega
  · subst ha; omega
theorem srt3_F (F : Pt → Pt → Int) (l : List Pt) (ls : List Int) (i : Nat) : triF F l (srt3 ls i) = F (lpt l ls (prv ls.length i)) (lpt l ls i) + F (lpt l ls i) (lpt l ls (nxn ls.length i)) + F (lpt l ls (nxn ls.length i)) (lpt l ls (prv ls.length i)) := by
  unfold srt3 triF lpt
  split
  · simp only; omega
  · split
    · simp only; omega
    · rfl
theorem srt3_T (l : List Pt) (ls : List Int) (i : Nat) : triT l (srt3 ls i) = trn l ls i := by
  unfold srt3 triT trn lpt
  split
  · exact turn_rot _ _ _
  · split
    · exact (turn_rot _ _ _).symm
    · rfl
def nums (n : Nat) : List Int := (List.range n).map fun i : Nat => (i : Int)
theorem nums_len (n : Nat) : (nums n).length = n := by simp [nums]
theorem nums_next (n : Nat) : nums (n + 1) = nums n ++ [(n : Int)] := by simp [nums, List.range_succ]
theorem lft_all (l : List Pt) : lft l (nums l.length) = l := by
  apply List.ext_getElem
  · simp [lft, nums]
  · intro i h1 h2
    simp [lft, nums, pat, List.getD, h2]
theorem inv_first {l : List Pt} {s : Int} (h : Simp l) (hR : Res l s) : Inv l s (nums l.length) [] := by
  have hl := h.len
  refine ⟨by rw [nums_len]; omega, by rw [nums_len]; rfl, ?_, fun k hk => ?_, fun _ => by rw [lft_all]; exact ⟨h, hR⟩, fun t ht => by simp at ht, fun F _ => by rw [lft_all]; simp [triS]⟩
  · refine List.Pairwise.map _ (fun a b hab => ?_) List.pairwise_lt_range
    omega
  · obtain ⟨i, hi, rfl⟩ := List.mem_map.1 hk
    have := List.mem_range.1 hi
    omega
theorem inv_step {l : List Pt} {s : Int} {ls : List Int} {T : List (Int × Int × Int)} (hI : Inv l s ls T) (h3 : 3 ≤ ls.length) {i : Nat} (hc : ClipI l ls s i) : Inv l s (ls.eraseIdx i) (T ++ [srt3 ls i]) := by
  obtain ⟨hi, hc⟩ := hc
  obtain ⟨hS, hR⟩ := hI.smp h3
  have hlen := List.length_eraseIdx_of_lt hi
  obtain ⟨M, A, B, e1, e2, C, D, e3, e4⟩ := cut_at (l := l) h3 hi hS.nodup
  have rP := ring_rot A B
  rw [← e1, e2] at rP
  have rQ := ring_rot C D
  rw [← e3, e4] at rQ
  have S1 : Simp (lpt l ls i :: lpt l ls (nxn ls.length i) :: (M ++ [lpt l ls (prv ls.length i)])) := by
    rw [← e2]
    exact (e1 ▸ hS).rot
  have R1 : Res (lpt l ls i :: lpt l ls (nxn ls.length i) :: (M ++ [lpt l ls (prv ls.length i)])) s := by
    rw [← e2]
    exact Res.rot (e1 ▸ hR)
  have hm : ∀ z ∈ lpt l ls i :: lpt l ls (nxn ls.length i) :: (M ++ [lpt l ls (prv ls.length i)]), z ∈ lft l ls := fun z hz => by
    rw [← e2, List.mem_append] at hz
    rw [e1, List.mem_append]
    exact hz.symm
  have lM : ls.length = M.length + 3 := by
    have := congrArg List.length e2
    have k := congrArg List.length e1
    rw [lft_len] at k
    simp only [List.length_append, List.length_cons, List.length_nil] at this k
    omega
  have sgn : 0 ≤ s * trn l ls i := by
    rcases hc with k | ⟨_, k, _⟩
    · rw [k, Int.mul_zero]; omega
    · rw [Int.mul_comm]; exact k
  refine ⟨by omega, by rw [hlen, List.length_append, List.length_singleton]; have := hI.len; omega, hI.inc.sublist (List.eraseIdx_sublist _ _), fun k hk => hI.rng k (List.mem_of_mem_eraseIdx hk), fun h4 => ?_, fun t ht => ?_, fun F hF => ?_⟩
  · have hM : M ≠ [] := by
      rintro rfl
      simp at lM
      omega
    have key : Simp (lpt l ls (nxn ls.length i) :: (M ++ [lpt l ls (prv ls.length i)])) ∧ Res (lpt l ls (nxn ls.length i) :: (M ++ [lpt l ls (prv ls.length i)])) s := by
      rcases hc with k | ⟨hz, k1, k2⟩
      · exact drop_straight hM S1 R1 k
      · refine drop_ear hM S1 R1 ?_ fun z hz c1 c2 c3 => ?_
        · have := hz i hi
          have k3 : s * trn l ls i ≠ 0 := fun q => by
            rcases Int.mul_eq_zero.1 q with q | q
            · have := hR.1; omega
            · exact this q
          show 0 < s * trn l ls i
          omega
        · obtain ⟨k, hk, rfl⟩ := lft_mem (hm z hz)
          refine Classical.byContradiction fun q => k2 k hk ⟨fun e => q (.inl e), fun e => q (.inr (.inl e)), fun e => q (.inr (.inr e)), ?_, ?_, ?_⟩
          · rw [Int.mul_comm]; exact c1
          · rw [Int.mul_comm]; exact c2
          · rw [Int.mul_comm]; exact c3
    rw [e3]
    refine ⟨?_, ?_⟩
    · exact (e4 ▸ key.1 : Simp (D ++ C)).rot
    · exact Res.rot (e4 ▸ key.2 : Res (D ++ C) s)
  · rcases List.mem_append.1 ht with k | k
    · exact hI.tri t k
    · rw [List.mem_singleton.1 k]
      obtain ⟨k1, k2⟩ := srt3_inc hI.inc h3 hi
      have hr : ∀ j, j < ls.length → 0 ≤ iat ls j ∧ iat ls j < (l.length : Int) := fun j hj => hI.rng _ (by rw [← iat_eq hj]; exact List.getElem_mem _)
      have r1 := hr _ (prv_lt (n := ls.length) (i := i) (by omega))
      have r2 := hr _ hi
      have r3 := hr _ (nxn_lt (n := ls.length) (i := i) (by omega))
      refine ⟨?_, k1, k2, ?_, by rw [srt3_T]; exact sgn⟩
      · unfold srt3; split
        · exact r2.1
        · split
          · exact r3.1
          · exact r1.1
      · unfold srt3; split
        · exact r1.2
        · split
          · exact r2.2
          · exact r3.2
  · rw [hI.sum F hF, triS_append]
    have k1 := tot_drop F (lpt l ls i) (lpt l ls (nxn ls.length i)) (lpt l ls (prv ls.length i)) M
    rw [← tot_perm F rP, ← tot_perm F rQ] at k1
    have k2 := hF (lpt l ls (prv ls.length i)) (lpt l ls (nxn ls.length i))
    show _ = _ + (triS F l T + (triF F l (srt3 ls i) + 0))
    rw [srt3_F]
    omega
/-- At the end, when two corners are left. -/
theorem inv_last {l : List Pt} {s : Int} {ls : List Int} {T : List (Int × Int × Int)} (hI : Inv l s ls T) (h2 : ls.length = 2) (F : Pt → Pt → Int) (hF : ∀ a b, F b a = - F a b) : tot F (ring l) = triS F l T := by
  rw [hI.sum F hF, two_ring F hF (by rw [lft_len]; exact h2)]
  omega
end Go.Proofs.Ytegdnbceiopklaa
/- Rows of whole numbers that are changed in place, by slices.Sort and slices.Delete; rows of triples. -/
namespace Go.Proofs.Ytegdnbceiopklaa
open Go.RowKit Go.Sort Go.Shelf

/-- A row of numbers in a block that the call made. -/
structure LeftAt (W : World) (B g cap : Nat) (ls : List Int) : Prop where
  base : B ≤ g
  lt : g < W.heap.size
  le : ls.length ≤ cap
  mx : cap ≤ 9223372036854775807
  hold : Holds (Value.int .i64) W g 0 ls.toArray
theorem holds_get {W : World} {g : Nat} {ls : List Int} (h : Holds (Value.int .i64) W g 0 ls.toArray) {i : Nat} (hi : i < ls.length) : W.cell? ⟨g, i, none⟩ = some (Value.int .i64 (iat ls i)) ∧ W.frozen? ⟨g, i, none⟩ = false := by
  have := h i (by simpa using hi)
  rw [Nat.zero_add] at this
  refine ⟨this.1.trans ?_, this.2⟩
  simp [iat, List.getD, hi]
theorem holds_of {W : World} {g : Nat} {ls : List Int} (h : ∀ i, i < ls.length → W.cell? ⟨g, i, none⟩ = some (Value.int .i64 (iat ls i)) ∧ W.frozen? ⟨g, i, none⟩ = false) : Holds (Value.int .i64) W g 0 ls.toArray := fun j hj => by
  have hj2 : j < ls.length := by simpa using hj
  have := h j hj2
  rw [Nat.zero_add]
  refine ⟨this.1.trans ?_, this.2⟩
  simp [iat, List.getD, hj2]
theorem LeftAt.ints {W : World} {B g cap : Nat} {ls : List Int} (h : LeftAt W B g cap ls) : IntsAt W g 0 ls := by
  refine ⟨h.lt, fun i n hi => ?_⟩
  obtain ⟨h1, h2⟩ := List.getElem?_eq_some_iff.1 hi
  have := (holds_get h.hold h1).1
  rw [Nat.zero_add, this, ← h2, iat_eq h1]
theorem LeftAt.kept {W W' : World} {B g cap : Nat} {ls : List Int} {row : Option Nat} (h : LeftAt W B g cap ls) (hg : W.grownBy W' row) (hne : some g ≠ row) : LeftAt W' B g cap ls := by
  have hb := hg.block g h.lt hne
  refine ⟨h.base, Nat.lt_of_lt_of_le h.lt hg.size, h.le, h.mx, fun j hj => ?_⟩
  have := h.hold j hj
  exact ⟨(World.cell?_of_block (w := W) (w' := W') (a := ⟨g, 0 + j, none⟩) hb).trans this.1, (World.frozen?_of_block (w := W) (w' := W') (a := ⟨g, 0 + j, none⟩) hb).trans this.2⟩
theorem below_grown {W W' : World} (h : Below W.heap.size W W') : W.grownBy W' none := ⟨h.os, h.tape, h.output, h.size, fun k hk _ => h.block k hk⟩
theorem LeftAt.below {W W' : World} {B g cap : Nat} {ls : List Int} (h : LeftAt W B g cap ls) (hb : Below W.heap.size W W') : LeftAt W' B g cap ls := h.kept (below_grown hb) (by simp)
theorem blk_kept {W W' : World} {g : Nat} {t : TypeId} {us : Array Value} {row : Option Nat} (h : Blk W g t us) (hg : W.grownBy W' row) (hne : some g ≠ row) : Blk W' g t us := (hg.block g h.lt hne).trans h
/-- A row written anew: all other blocks are as they were. -/
theorem put_grown (W : World) (g q : Nat) (d : Array Int) (os : Array Obj) : W.grownBy (grow (putRow (Value.int .i64) (Sort.ahead W q) g 0 d) os) (some g) := by
  refine ⟨rfl, rfl, rfl, by simp [Sort.ahead], fun k hk hne => ?_⟩
  have hkg : g ≠ k := fun e => hne (by rw [e])
  simp only [grow]
  rw [Array.getElem?_append_left (by simpa [Sort.ahead] using hk)]
  unfold putRow mapBlock Sort.ahead
  simp [Array.getElem?_modify, hkg]
theorem put_grown' (W : World) (g q : Nat) (d : Array Int) : W.grownBy (putRow (Value.int .i64) (Sort.ahead W q) g 0 d) (some g) := by
  have := put_grown W g q d #[]
  simpa using this
theorem LeftAt.del {W : World} {B g cap i q : Nat} {ls : List Int} (h : LeftAt W B g cap ls) (hi : i < ls.length) : LeftAt (putRow (Value.int .i64) (Sort.ahead W q) g 0 (ls.eraseIdx i ++ [0]).toArray) B g cap (ls.eraseIdx i) := by
  have hlen := List.length_eraseIdx_of_lt hi
  have h1 : Holds (Value.int .i64) (Sort.ahead W q) g 0 ls.toArray := h.hold
  have h2 := holds_putRow (Value.int .i64) (Sort.ahead W q) g 0 ls.toArray (ls.eraseIdx i ++ [0]).toArray h1 (by simp; omega)
  have hle := h.le
  refine ⟨h.base, by rw [size_putRow]; exact h.lt, by omega, h.mx, holds_of fun j hj => ?_⟩
  have h3 := holds_get h2 (i := j) (by simp; omega)
  rw [h3.1]
  refine ⟨?_, h3.2⟩
  have : iat (ls.eraseIdx i ++ [0]) j = iat (ls.eraseIdx i) j := by
    simp only [iat, List.getD_eq_getElem?_getD]
    rw [List.getElem?_append_left hj]
  rw [this]
theorem LeftAt.of_row {W : World} {B g cap n : Nat} {ls : List Int} (h : W.ownsRow B 3 1 (.slice (some ⟨g, 0, none⟩) n cap) n (intsV ls)) (hB : B ≤ W.heap.size) : n = ls.length ∧ LeftAt W B g cap ls := by
  have hn : n = ls.length := by
    have h1 := h.1
    rw [intsV_len] at h1
    omega
  refine ⟨hn, ?_⟩
  obtain ⟨k1, k2⟩ := h.lt g rfl
  rcases h.2 with ⟨h0, _⟩ | ⟨g', cap', cur, h0, hb, hc, hle, hm, -⟩
  · simp at h0
  · simp at h0
    obtain ⟨rfl, rfl⟩ := h0
    refine ⟨k1, k2, by omega, by unfold maxLen at hm; omega, holds_of fun j hj => ⟨?_, h.frozenAt j⟩⟩
    have := h.cells (g := g) rfl j (Value.int .i64 (iat ls j)) (by simp [intsV, iat, List.getD, hj])
    rwa [add_at, Nat.zero_add] at this
/-- The cells of triples. -/
def trsV : List (Int × Int × Int) → List Value
  | [] => []
  | t :: T => (Value.int .i64 (t.1)) :: (Value.int .i64 (t.2.1)) :: (Value.int .i64 (t.2.2)) :: trsV T
theorem trsV_len : ∀ T, (trsV T).length = T.length * 3
  | [] => rfl
  | t :: T => by simp [trsV, trsV_len T]; omega
theorem trsV_append : ∀ T U, trsV (T ++ U) = trsV T ++ trsV U
  | [], U => rfl
  | t :: T, U => by rw [List.cons_append, trsV, trsV, trsV_append T U]; rfl
theorem trsV_one : ∀ T, ∀ u ∈ trsV T, u.oneCell' = true
  | [], u, h => by simp [trsV] at h
  | t :: T, u, h => by
    simp only [trsV, List.mem_cons] at h
    rcases h with rfl | rfl | rfl | h
    · rfl
    · rfl
    · rfl
    · exact trsV_one T u h
def tat (T : List (Int × Int × Int)) (i : Nat) : Int × Int × Int := T.getD i (0, 0, 0)
def tnum (t : Int × Int × Int) : Nat → Int
  | 0 => t.1
  | 1 => t.2.1
  | _ => t.2.2
theorem trsV_get : ∀ (T : List (Int × Int × Int)) (i k : Nat), i < T.length → k < 3 → (trsV T)[i * 3 + k]? = some (Value.int .i64 (tnum (tat T i) k))
  | [], i, k, h, _ => by simp at h
  | t :: T, 0, k, _, hk => by
    match k, hk with
    | 0, _ => rfl
    | 1, _ => rfl
    | 2, _ => rfl
  | t :: T, i + 1, k, h, hk => by
    have := trsV_get T i k (by simpa using h) hk
    rw [show (i + 1) * 3 + k = i * 3 + k + 1 + 1 + 1 by omega]
    simpa [trsV, tat] using this
theorem undTrs : Try.prog.underlying 75 = some (.slice 78) := by kernel_rfl
theorem infoTrs : (Try.prog.info? 78).map (fun i => (i.zero, i.size, i.bytes)) = some (some (.agg #[.int .i64 0, .int .i64 0, .int .i64 0]), 3, 24) := by kernel_rfl
theorem holds_grow {X : World} {g : Nat} {d : Array Int} {os : Array Obj} (h : Holds (Value.int .i64) X g 0 d) (hg : g < X.heap.size) : Holds (Value.int .i64) (grow X os) g 0 d := fun j hj => by
  have hb : (grow X os).heap[g]? = X.heap[g]? := by
    simp only [grow]
    rw [Array.getElem?_append_left hg]
  have := h j hj
  exact ⟨(World.cell?_of_block (w := X) (w' := grow X os) (a := ⟨g, 0 + j, none⟩) hb).trans this.1, (World.frozen?_of_block (w := X) (w' := grow X os) (a := ⟨g, 0 + j, none⟩) hb).trans this.2⟩
theorem sort_ok (g cap : Nat) (zs : List Int) (w : World) (hH : Holds (Value.int .i64) w g 0 zs.toArray) (hg : g < w.heap.size) (hsz : zs.length < 4611686018427387904) :
    Calls Try.prog 89 #[.slice (some ⟨g, 0, none⟩) zs.length cap] w fun e w' => e = .returned (.tuple #[]) ∧ w.grownBy w' (some g) ∧ Holds (Value.int .i64) w' g 0 (zs.mergeSort fun x y => decide (x ≤ y)).toArray := by
  refine (sort_any g cap zs w hH hg hsz).mono ?_
  rintro e w' ⟨rfl, n, os, rfl⟩
  have h1 : Holds (Value.int .i64) (Sort.ahead w n) g 0 zs.toArray := hH
  have h2 := holds_putRow (Value.int .i64) (Sort.ahead w n) g 0 zs.toArray (zs.mergeSort fun x y => decide (x ≤ y)).toArray h1 (by simp)
  exact ⟨rfl, put_grown w g n _ os, holds_grow h2 (by rw [size_putRow]; exact hg)⟩
theorem del_ok (B g cap i : Nat) (ls : List Int) (w : World) (h : LeftAt w B g cap ls) (hi : i < ls.length) :
    Calls Try.prog 90 #[.slice (some ⟨g, 0, none⟩) ls.length cap, (Value.int .i64 ((i : Int))), (Value.int .i64 ((i : Int) + 1))] w fun e w' => e = .returned (.slice (some ⟨g, 0, none⟩) (ls.eraseIdx i).length cap) ∧ w.grownBy w' (some g) ∧ LeftAt w' B g cap (ls.eraseIdx i) := by
  refine (del_any g cap i ls w h.hold h.le h.mx hi).mono ?_
  rintro e w' ⟨rfl, q, rfl⟩
  exact ⟨rfl, put_grown' w g q _, h.del hi⟩
theorem tg_news (w : World) (us : List Value) (t : TypeId) : ∀ j u, us[j]? = some u → (w.alloc (.cells us.toArray t)).cell? ((⟨w.heap.size, 0, none⟩ : Addr).add j) = some u := fun j u hj => by
  rw [add_at, Nat.zero_add]
  exact ((Blk.new w t us.toArray).cell j).trans (by rw [List.getElem?_toArray]; exact hj)
theorem tg_one (n : Int) : ∀ u ∈ [(Value.int .i64 (n))], u.oneCell' = true := fun u hu => by rw [List.mem_singleton.1 hu]; rfl
theorem own_mono {w : World} {b b' : Nat} {e : TypeId} {size n : Nat} {v : Value} {xs : List Value} (h : w.ownsRow b e size v n xs) (hb : b' ≤ b) : w.ownsRow b' e size v n xs :=
  ⟨h.1, h.2.imp id fun ⟨g, cap, cur, e, hg, r⟩ => ⟨g, cap, cur, e, Nat.le_trans hb hg, r⟩⟩
end Go.Proofs.Ytegdnbceiopklaa
/- The function corners.Triangles answers triangles of a valid polygon that are together the polygon. -/
namespace Go.Proofs.Ytegdnbceiopklaa
open Go.RowKit Go.Sort Go.Shelf
attribute [local go_sem] After.cell After.frozen

theorem nan_any (x : Int) (w : World) : Calls Try.prog 106 #[(Value.int .i64 (x))] w fun e w' => e = .returned (.bool false) ∧ w' = w := by
  go_enter Try.func106, Try.ntmps106
  go_wp2
  go_ret
  exact ⟨rfl, rfl⟩
theorem compare_any (x : Int) (w : World) : Calls Try.prog 87 #[(Value.int .i64 (x)), (Value.int .i64 (0))] w fun e w' => e = .returned (Value.int .i64 ((if x < 0 then -1 else if 0 < x then 1 else 0))) ∧ w' = w := by
  rcases Int.lt_trichotomy x 0 with h | h | h
  · rw [if_pos h]
    go_enter Try.func87, Try.ntmps87
    go_wp2_with (go_at_call 106; with_reducible refine Calls.mono (nan_any _ _) ?_; rintro e w' ⟨rfl, rfl⟩)
    go_ret
    exact ⟨rfl, rfl⟩
  · subst h
    rw [if_neg (by omega), if_neg (by omega)]
    go_enter Try.func87, Try.ntmps87
    go_wp2_with (go_at_call 106; with_reducible refine Calls.mono (nan_any _ _) ?_; rintro e w' ⟨rfl, rfl⟩)
    go_ret
    exact ⟨rfl, rfl⟩
  · rw [if_neg (by omega), if_pos h]
    have h' : ¬ x < 0 := by omega
    go_enter Try.func87, Try.ntmps87
    go_wp2_with (go_at_call 106; with_reducible refine Calls.mono (nan_any _ _) ?_; rintro e w' ⟨rfl, rfl⟩)
    go_ret
    exact ⟨rfl, rfl⟩
theorem ok_res {l : List Pt} (h : Ok l) : ∃ s : Int, (s = 1 ∨ s = -1) ∧ Res l s ∧ 0 < s * tw l ∧ (if tw l < 0 then (-1 : Int) else if 0 < tw l then 1 else 0) = s := by
  obtain ⟨s, hs, ht, hp⟩ := ok_area h
  refine ⟨s, hs, res_of (ok_simp h) hs ?_, hp, ?_⟩
  · have : tot crF (ring l) = tw l := by rw [tw_tot]; rfl
    rw [this]
    exact hp
  · rcases hs with rfl | rfl
    · rw [if_neg (by omega), if_pos (by omega)]
    · rw [if_pos (by omega)]
/-- Triangles that are together the polygon. -/
structure TrisOk (l : List Pt) (s : Int) (T : List (Int × Int × Int)) : Prop where
  len : T.length + 2 = l.length
  tri : ∀ t ∈ T, TriOk l s t
  sum : ∀ F : Pt → Pt → Int, (∀ a b, F b a = - F a b) → tot F (ring l) = triS F l T

set_option maxRecDepth 100000 in
set_option maxHeartbeats 4000000 in
theorem Triangles_ok (b o ca : Nat) (l : List Pt) (s : Int) (w : World) (hp : PtsAt w b o l) (hok : Ok l) (hs : s = 1 ∨ s = -1) (hR : Res l s) (hsg : (if tw l < 0 then (-1 : Int) else if 0 < tw l then 1 else 0) = s) :
    Calls Try.prog 47 #[.slice (some ⟨b, o, none⟩) l.length ca] w fun e w' => ∃ v T, e = .returned (.tuple #[v, (Value.int .i64 (0))]) ∧ w'.ownsRow w.heap.size 78 3 v T.length (trsV T) ∧ TrisOk l s T ∧ Below w.heap.size w w' := by
  have hl10 := hok.1
  have hS := ok_simp hok
  have hpt := Lib.hid hok.2.1
  have hchk := Lib.hid fun (V : World) (h : Below w.heap.size w V) => Check_any (some ⟨b, o, none⟩) ca l V (.inr ⟨b, o, rfl, hp.below h⟩) (by omega)
  rw [chk_ok hok] at hchk
  have htw := Lib.hid fun (V : World) (h : Below w.heap.size w V) => tw_any b o ca l V (by omega) hl10.2 (hp.below h) hpt.out
  have hcmp := Lib.hid fun (V : World) => compare_any (tw l) V
  rw [hsg] at hcmp
  have hI0 := Lib.hid (inv_first hS hR)
  clear hok hS hR hsg
  obtain ⟨i0, hi0, hz0, hz1, hz2⟩ := info_parts infoInt
  obtain ⟨j0, hj0, hy0, hy1, hy2⟩ := info_parts infoTrs
  go_enter Try.func47, Try.ntmps47
  go_wp2_with (first | (go_at_call 79; with_reducible refine Calls.mono (hchk.out _ (by (repeat (first | with_reducible exact Below.refl _ _ | with_reducible apply bl_alloc | with_reducible apply bl_drew | with_reducible apply bl_after | (with_reducible refine bl_call ?_ (by assumption)))))) ?_; rintro e w1 ⟨rfl, hb1⟩; first | ((with_reducible apply kp_in_step (hb := hb1)); (with_reducible assumption); rintro ⟨hk, hc, hf, hzc, hzf⟩) | ((with_reducible refine kp_in_first hb1 ?_); rintro ⟨hk, hc, hf, hzc, hzf⟩)) | (go_at_call 80; with_reducible refine Calls.mono (htw.out _ (by (repeat (first | with_reducible exact Below.refl _ _ | with_reducible apply bl_alloc | with_reducible apply bl_drew | with_reducible apply bl_after | (with_reducible refine bl_call ?_ (by assumption)))))) ?_; rintro e w1 ⟨rfl, hb1⟩; first | ((with_reducible apply kp_in_step (hb := hb1)); (with_reducible assumption); rintro ⟨hk, hc, hf, hzc, hzf⟩) | ((with_reducible refine kp_in_first hb1 ?_); rintro ⟨hk, hc, hf, hzc, hzf⟩)) | (go_at_call 87; with_reducible refine Calls.mono (hcmp.out _) ?_; rintro e w' ⟨rfl, rfl⟩))
  have hb0 : Below w.heap.size w w' := by (repeat (first | with_reducible exact Below.refl _ _ | with_reducible apply bl_alloc | with_reducible apply bl_drew | with_reducible apply bl_after | (with_reducible refine bl_call ?_ (by assumption))))
  clear hk hc hf hzc hzf hb1
  clear hk hc hf hzc hzf hb1
  clear hchk htw hcmp
  go_loopg [6, 22] l.length (fun g v x wr => ∃ k : Nat, k ≤ l.length ∧ g = l.length - k ∧ x = (Value.int .i64 ((k : Int))) ∧ wr.ownsRow w.heap.size 3 1 v k (intsV (nums k)) ∧ Below w.heap.size w wr)
  case atStart => exact ⟨0, Nat.zero_le _, rfl, rfl, World.ownsRow_nil _ _ _ _, hb0⟩
  case round =>
    obtain ⟨k, kn, rfl, rfl, hO, hbw⟩ := hrel
    clear hb0
    by_cases hlt : k < l.length
    · go_wp2_with (at_builtin; refine wpList_append_own _ rfl (.tmp 25) (.tmp 27) 55 rfl w.heap.size 3 i0 _ 1 8 undInts hi0 hz0 hz1 hz2 rfl (by decide) _ _ _ rfl (World.ownsRow.alloc hO _) ⟨wr.heap.size, 0, none⟩ 1 1 [(Value.int .i64 ((k : Int)))] rfl rfl (tg_news _ [(Value.int .i64 ((k : Int)))] _) (tg_one _) (by unfold maxLen; omega) (by omega) (by have := hbw.size; simp; omega) ?_)
      intro v' w9 hown hgrow _
      have hb9 : Below w.heap.size w w9 := bl_grown (bl_alloc hbw) (World.ownsRow.alloc hO _) hgrow
      have e : intsV (nums k) ++ [(Value.int .i64 ((k : Int)))] = intsV (nums (k + 1)) := by rw [nums_next, intsV_append]; rfl
      rw [e] at hown
      go_wp2
      go_roundg (l.length - (k + 1))
      case measure => omega
      case rel => exact ⟨k + 1, by omega, rfl, by go_num, hown, hb9⟩
    · obtain rfl : k = l.length := by omega
      obtain ⟨g, cap, cur, rfl, -⟩ := hO.2.resolve_left (fun h => by omega)
      obtain ⟨-, hL⟩ := LeftAt.of_row hO hbw.size
      obtain ⟨B2, hB2⟩ : ∃ B2, B2 = wr.heap.size := ⟨_, rfl⟩
      have hgB : g < B2 := by rw [hB2]; exact hL.lt
      have hBB : B2 ≤ wr.heap.size := Nat.le_of_eq hB2
      have hwB : w.heap.size ≤ B2 := by rw [hB2]; exact hbw.size
      replace hL := Lib.hid hL
      clear hO hlt kn hB2
      go_wp2
      go_loopg [6, 8, 9] l.length (fun gh v6 v8 v9 wr => ∃ ls T, gh = ls.length ∧ v6 = .slice (some ⟨g, 0, none⟩) ls.length cap ∧ v9 = (Value.int .i64 ((ls.length : Int))) ∧ LeftAt wr w.heap.size g cap ls ∧ wr.ownsRow B2 78 3 v8 T.length (trsV T) ∧ B2 ≤ wr.heap.size ∧ Hid (Inv l s ls T) ∧ Below w.heap.size w wr)
      case atStart => exact ⟨nums l.length, [], (nums_len _).symm, by rw [nums_len], by rw [nums_len], hL.out, World.ownsRow_nil _ _ _ _, hBB, hI0, hbw⟩
      case round =>
        clear hL hbw hI0 hBB
        obtain ⟨ls, T, rfl, rfl, rfl, hL, hT, hBr, hI, hbw⟩ := hrel
        have h2 := hI.out.two
        have h1 := hI.out.len
        by_cases h3 : 3 ≤ ls.length
        · have h3' : (3 : Int) ≤ (ls.length : Int) := by omega
          have hrng : ∀ k, k < ls.length → 0 ≤ iat ls k ∧ iat ls k < l.length := fun j hj => hI.out.rng _ (by rw [← iat_eq hj]; exact List.getElem_mem _)
          have hcl := clip_any b o ca g 0 cap l ls s wr (hp.below hbw) hL.ints h3 (by omega) hrng (by omega) hpt.out (by omega) (clip_ex (hI.out.smp h3).1 (hI.out.smp h3).2)
          go_upto_region 16 with (go_at_call 88; (with_reducible refine Calls.mono hcl ?_); rintro e w5 ⟨⟨i, rfl, hC⟩, hb5⟩)
          have hL5 := hL.below hb5
          have hT5 := own_below hT hb5
          have hbw5 := bl_call hbw hb5
          have hb5s := hb5.size
          have hi := hC.1
          have hsrt := Lib.hid (srt3_sort (ls := ls) hI.out.inc h3 hi)
          have hstep := Lib.hid (inv_step hI.out h3 hC)
          have hlenE := List.length_eraseIdx_of_lt hi
          have hpl := prv_lt (n := ls.length) (i := i) (by omega)
          have hnl := nxn_lt (n := ls.length) (i := i) (by omega)
          have ee1 : ((i : Int) + (ls.length : Int) - 1).tmod (ls.length : Int) = (prv ls.length i : Int) := by
            unfold prv
            rw [Int.tmod_eq_emod_of_nonneg (by omega), Int.natCast_emod]
            congr 1
            omega
          have ee2 : ((i : Int) + 1).tmod (ls.length : Int) = (nxn ls.length i : Int) := by
            unfold nxn
            rw [Int.tmod_eq_emod_of_nonneg (by omega), Int.natCast_emod]
            congr 1
          have x1 := (holds_get hL5.hold hpl).1
          have x2 := (holds_get hL5.hold hi).1
          have x3 := (holds_get hL5.hold hnl).1
          have l2 := hL5.lt
          clear hL hT hbw hb5 hcl hrng
          generalize prv ls.length i = pr at *
          generalize nxn ls.length i = nx at *
          have nz : (ls = []) = False := by rw [eq_iff_iff, iff_false]; intro q; rw [q] at hi; simp at hi
          have n1 : (pr : Int) < (ls.length : Int) := by omega
          have n2 : (nx : Int) < (ls.length : Int) := by omega
          have n3 : (i : Int) < (ls.length : Int) := by omega
          have hw1 : -9000000000000000000 ≤ ((i : Int) + (ls.length : Int)) ∧ ((i : Int) + (ls.length : Int)) ≤ 9000000000000000000 := by omega
          have hw2 : -9000000000000000000 ≤ ((i : Int) + (ls.length : Int) - 1) ∧ ((i : Int) + (ls.length : Int) - 1) ≤ 9000000000000000000 := by omega
          have hw3 : -9000000000000000000 ≤ ((i : Int) + 1) ∧ ((i : Int) + 1) ≤ 9000000000000000000 := by omega
          have hw4 : -9000000000000000000 ≤ (pr : Int) ∧ (pr : Int) ≤ 9000000000000000000 := by omega
          have hw5 : -9000000000000000000 ≤ (nx : Int) ∧ (nx : Int) ≤ 9000000000000000000 := by omega
          have k1 : IntKind.i64.wrap ((i : Int) + (ls.length : Int)) = (i : Int) + (ls.length : Int) := wrapK hw1
          have k2 : IntKind.i64.wrap ((i : Int) + (ls.length : Int) - 1) = (i : Int) + (ls.length : Int) - 1 := wrapK hw2
          have k3 : IntKind.i64.wrap ((i : Int) + 1) = (i : Int) + 1 := wrapK hw3
          have k4 : IntKind.i64.wrap (pr : Int) = (pr : Int) := wrapK hw4
          have k5 : IntKind.i64.wrap (nx : Int) = (nx : Int) := wrapK hw5
          refine wp_region_C (fun w' => ∃ z : After w5, w' = z.val) (by kernel_rfl) ?_
          change wpAnyC _ _ _ _ _ _ _ (World.drew w5)
          refine wpAnyC_take (i := 0) (v := ?v0u) rfl (by kernel_rfl) (by kernel_rfl) (by kernel_rfl) ?q0u rfl ?y0u ?r0u; (case q0u => exact fun _ _ _ h => h); (case y0u => ((rintro _ ⟨z, rfl⟩); (go_simp); (try with_reducible rfl))); simp only [Act.put, List.getElem_toArray, List.getElem_cons_succ, List.getElem_cons_zero, List.setIfInBounds_toArray, List.set_cons_succ, List.set_cons_zero]
          refine wpAnyC_take (i := 1) (v := ?v1u) rfl (by kernel_rfl) (by kernel_rfl) (by kernel_rfl) ?q1u rfl ?y1u ?r1u; (case q1u => exact fun _ _ _ h => h); (case y1u => ((rintro _ ⟨z, rfl⟩); (go_simp); (try with_reducible rfl))); simp only [Act.put, List.getElem_toArray, List.getElem_cons_succ, List.getElem_cons_zero, List.setIfInBounds_toArray, List.set_cons_succ, List.set_cons_zero]
          refine wpAnyC_take (i := 2) (v := ?v2u) rfl (by kernel_rfl) (by kernel_rfl) (by kernel_rfl) ?q2u rfl ?y2u ?r2u; (case q2u => exact fun _ _ _ h => h); (case y2u => ((rintro _ ⟨z, rfl⟩); (go_simp); (try with_reducible rfl))); simp only [Act.put, List.getElem_toArray, List.getElem_cons_succ, List.getElem_cons_zero, List.setIfInBounds_toArray, List.set_cons_succ, List.set_cons_zero]
          refine wpAnyC_take (i := 3) (v := ?v3u) rfl (by kernel_rfl) (by kernel_rfl) (by kernel_rfl) ?q3u rfl ?y3u ?r3u; (case q3u => exact fun _ _ _ h => h); (case y3u => ((rintro _ ⟨z, rfl⟩); (go_simp); (try with_reducible rfl))); simp only [Act.put, List.getElem_toArray, List.getElem_cons_succ, List.getElem_cons_zero, List.setIfInBounds_toArray, List.set_cons_succ, List.set_cons_zero]
          refine wpAnyC_take (i := 4) (v := ?v4u) rfl (by kernel_rfl) (by kernel_rfl) (by kernel_rfl) ?q4u rfl ?y4u ?r4u; (case q4u => exact fun _ _ _ h => h); (case y4u => ((rintro _ ⟨z, rfl⟩); (go_simp); (try with_reducible rfl))); simp only [Act.put, List.getElem_toArray, List.getElem_cons_succ, List.getElem_cons_zero, List.setIfInBounds_toArray, List.set_cons_succ, List.set_cons_zero]
          refine wpAnyC_take (i := 5) (v := ?v5u) rfl (by kernel_rfl) (by kernel_rfl) (by kernel_rfl) ?q5u rfl ?y5u ?r5u; (case q5u => exact fun _ _ _ h => h); (case y5u => ((rintro _ ⟨z, rfl⟩); (go_simp); (try with_reducible rfl))); simp only [Act.put, List.getElem_toArray, List.getElem_cons_succ, List.getElem_cons_zero, List.setIfInBounds_toArray, List.set_cons_succ, List.set_cons_zero]
          refine wpAnyC_take (i := 6) (v := ?v6u) rfl (by kernel_rfl) (by kernel_rfl) (by kernel_rfl) ?q6u rfl ?y6u ?r6u; (case q6u => exact fun _ _ _ h => h); (case y6u => ((rintro _ ⟨z, rfl⟩); (go_simp); (try with_reducible rfl))); simp only [Act.put, List.getElem_toArray, List.getElem_cons_succ, List.getElem_cons_zero, List.setIfInBounds_toArray, List.set_cons_succ, List.set_cons_zero]
          refine wpAnyC_take (i := 7) (v := ?v7u) rfl (by kernel_rfl) (by kernel_rfl) (by kernel_rfl) ?q7u rfl ?y7u ?r7u; (case q7u => exact fun _ _ _ h => h); (case y7u => ((rintro _ ⟨z, rfl⟩); (go_simp); (try with_reducible rfl))); simp only [Act.put, List.getElem_toArray, List.getElem_cons_succ, List.getElem_cons_zero, List.setIfInBounds_toArray, List.set_cons_succ, List.set_cons_zero]
          refine wpAnyC_take (i := 8) (v := ?v8u) rfl (by kernel_rfl) (by kernel_rfl) (by kernel_rfl) ?q8u rfl ?y8u ?r8u; (case q8u => exact fun _ _ _ h => h); (case y8u => ((rintro _ ⟨z, rfl⟩); (go_simp); (try with_reducible rfl))); simp only [Act.put, List.getElem_toArray, List.getElem_cons_succ, List.getElem_cons_zero, List.setIfInBounds_toArray, List.set_cons_succ, List.set_cons_zero]
          refine wpAnyC_take (i := 9) (v := ?v9u) rfl (by kernel_rfl) (by kernel_rfl) (by kernel_rfl) ?q9u rfl ?y9u ?r9u; (case q9u => exact fun _ _ _ h => h); (case y9u => ((rintro _ ⟨z, rfl⟩); (go_simp); (try with_reducible rfl))); simp only [Act.put, List.getElem_toArray, List.getElem_cons_succ, List.getElem_cons_zero, List.setIfInBounds_toArray, List.set_cons_succ, List.set_cons_zero]
          refine wpAnyC_take (i := 10) (v := ?v10u) rfl (by kernel_rfl) (by kernel_rfl) (by kernel_rfl) ?q10u rfl ?y10u ?r10u; (case q10u => exact fun _ _ _ h => h); (case y10u => ((rintro _ ⟨z, rfl⟩); (go_simp); (try with_reducible rfl))); simp only [Act.put, List.getElem_toArray, List.getElem_cons_succ, List.getElem_cons_zero, List.setIfInBounds_toArray, List.set_cons_succ, List.set_cons_zero]
          refine wpAnyC_take (i := 11) (v := ?v11u) rfl (by kernel_rfl) (by kernel_rfl) (by kernel_rfl) ?q11u rfl ?y11u ?r11u; (case q11u => exact fun _ _ _ h => h); (case y11u => ((rintro _ ⟨z, rfl⟩); (go_simp); (try with_reducible rfl))); simp only [Act.put, List.getElem_toArray, List.getElem_cons_succ, List.getElem_cons_zero, List.setIfInBounds_toArray, List.set_cons_succ, List.set_cons_zero]
          refine wpAnyC_take (i := 12) (v := ?v12u) rfl (by kernel_rfl) (by kernel_rfl) (by kernel_rfl) ?q12u rfl ?y12u ?r12u; (case q12u => exact fun _ _ _ h => h); (case y12u => ((rintro _ ⟨z, rfl⟩); (go_simp); (try with_reducible rfl))); simp only [Act.put, List.getElem_toArray, List.getElem_cons_succ, List.getElem_cons_zero, List.setIfInBounds_toArray, List.set_cons_succ, List.set_cons_zero]
          refine wpAnyC_take (i := 13) (v := ?v13u) rfl (by kernel_rfl) (by kernel_rfl) (by kernel_rfl) ?q13u rfl ?y13u ?r13u; (case q13u => exact fun _ _ _ h => h); (case y13u => ((rintro _ ⟨z, rfl⟩); (go_simp); (try with_reducible rfl))); simp only [Act.put, List.getElem_toArray, List.getElem_cons_succ, List.getElem_cons_zero, List.setIfInBounds_toArray, List.set_cons_succ, List.set_cons_zero]
          refine wpAnyC_take (i := 14) (v := ?v14u) rfl (by kernel_rfl) (by kernel_rfl) (by kernel_rfl) ?q14u rfl ?y14u ?r14u; (case q14u => exact fun _ _ _ h => h); (case y14u => ((rintro _ ⟨z, rfl⟩); (go_simp); (try with_reducible rfl))); simp only [Act.put, List.getElem_toArray, List.getElem_cons_succ, List.getElem_cons_zero, List.setIfInBounds_toArray, List.set_cons_succ, List.set_cons_zero]
          refine wpAnyC_take (i := 15) (v := ?v15u) rfl (by kernel_rfl) (by kernel_rfl) (by kernel_rfl) ?q15u rfl ?y15u ?r15u; (case q15u => exact fun _ _ _ h => h); (case y15u => ((rintro _ ⟨z, rfl⟩); (go_simp); (try with_reducible rfl))); simp only [Act.put, List.getElem_toArray, List.getElem_cons_succ, List.getElem_cons_zero, List.setIfInBounds_toArray, List.set_cons_succ, List.set_cons_zero]
          refine wpAnyC_take (i := 16) (v := ?v16u) rfl (by kernel_rfl) (by kernel_rfl) (by kernel_rfl) ?q16u rfl ?y16u ?r16u; (case q16u => exact fun _ _ _ h => h); (case y16u => ((rintro _ ⟨z, rfl⟩); (go_simp); (try with_reducible rfl))); simp only [Act.put, List.getElem_toArray, List.getElem_cons_succ, List.getElem_cons_zero, List.setIfInBounds_toArray, List.set_cons_succ, List.set_cons_zero]
          refine wpAnyC_take (i := 17) (v := ?v17u) rfl (by kernel_rfl) (by kernel_rfl) (by kernel_rfl) ?q17u rfl ?y17u ?r17u; (case q17u => exact fun _ _ _ h => h); (case y17u => ((rintro _ ⟨z, rfl⟩); (go_simp); (try with_reducible rfl))); simp only [Act.put, List.getElem_toArray, List.getElem_cons_succ, List.getElem_cons_zero, List.setIfInBounds_toArray, List.set_cons_succ, List.set_cons_zero]
          refine wpAnyC_take (i := 18) (v := ?v18u) rfl (by kernel_rfl) (by kernel_rfl) (by kernel_rfl) ?q18u rfl ?y18u ?r18u; (case q18u => exact fun _ _ _ h => h); (case y18u => ((rintro _ ⟨z, rfl⟩); (go_simp); (try with_reducible rfl))); simp only [Act.put, List.getElem_toArray, List.getElem_cons_succ, List.getElem_cons_zero, List.setIfInBounds_toArray, List.set_cons_succ, List.set_cons_zero]
          refine wpAnyC_take (i := 19) (v := ?v19u) rfl (by kernel_rfl) (by kernel_rfl) (by kernel_rfl) ?q19u rfl ?y19u ?r19u; (case q19u => exact fun _ _ _ h => h); (case y19u => ((rintro _ ⟨z, rfl⟩); (go_simp); (try with_reducible rfl))); simp only [Act.put, List.getElem_toArray, List.getElem_cons_succ, List.getElem_cons_zero, List.setIfInBounds_toArray, List.set_cons_succ, List.set_cons_zero]
          refine wpAnyC_take (i := 20) (v := ?v20u) rfl (by kernel_rfl) (by kernel_rfl) (by kernel_rfl) ?q20u rfl ?y20u ?r20u; (case q20u => exact fun _ _ _ h => h); (case y20u => ((rintro _ ⟨z, rfl⟩); (go_simp); (try with_reducible rfl))); simp only [Act.put, List.getElem_toArray, List.getElem_cons_succ, List.getElem_cons_zero, List.setIfInBounds_toArray, List.set_cons_succ, List.set_cons_zero]
          clear x1 x2 x3 k1 k2 k4 k5 hw1 hw2 hw3 hw4 hw5 ee1 ee2
          have hd0 : Below w5.heap.size w5 w5.drew := bl_drew (Below.refl _ _)
          refine wpAnyC_one (i := 21) (by kernel_rfl) rfl ⟨⟨_, hd0⟩, rfl⟩ rfl (fun K hK => ?_)
          (go_simp; refine hK _ _ ?_; clear hK K)
          have hd1 : Below w5.heap.size w5 (w5.alloc (.cells #[(Value.int .i64 (0)), (Value.int .i64 (0)), (Value.int .i64 (0))] 78)).drew := bl_drew (bl_alloc (Below.refl _ _))
          have t1 : Blk (w5.alloc (.cells #[(Value.int .i64 (0)), (Value.int .i64 (0)), (Value.int .i64 (0))] 78)).drew w5.heap.size 78 #[(Value.int .i64 (0)), (Value.int .i64 (0)), (Value.int .i64 (0))] := Blk.new w5 _ _
          generalize (w5.alloc (.cells #[(Value.int .i64 (0)), (Value.int .i64 (0)), (Value.int .i64 (0))] 78)).drew = V1 at *
          refine wpAnyC_one (i := 22) (by kernel_rfl) rfl ⟨⟨_, hd1⟩, rfl⟩ rfl (fun K hK => ?_)
          refine wp_store_row 78 _ _ rfl w5.heap.size #[(Value.int .i64 (iat ls pr)), (Value.int .i64 (iat ls i)), (Value.int .i64 (iat ls nx))] rfl rfl 78 _ t1 (by kernel_rfl) rfl (by simp [Value.oneCell']) (hK _ _ ?_)
          clear hK K
          have hd2 := bl_row (cs := #[(Value.int .i64 (iat ls pr)), (Value.int .i64 (iat ls i)), (Value.int .i64 (iat ls nx))]) hd1 (Nat.le_refl _)
          have t2 := blk_row (cs := #[(Value.int .i64 (iat ls pr)), (Value.int .i64 (iat ls i)), (Value.int .i64 (iat ls nx))]) t1
          clear t1 hd1 hd0
          generalize V1.setRow w5.heap.size #[(Value.int .i64 (iat ls pr)), (Value.int .i64 (iat ls i)), (Value.int .i64 (iat ls nx))] = V2 at *
          refine wpAnyC_done (by kernel_rfl) ⟨⟨_, hd2⟩, rfl⟩ ?_ _
          have L6 := hL5.below hd2
          have T6 := own_below hT5 hd2
          have b6 := bl_call hbw5 hd2
          have s6 : B2 ≤ w5.heap.size := Nat.le_trans hBr hb5s
          have hH6 : Holds (Value.int .i64) V2 w5.heap.size 0 [iat ls pr, iat ls i, iat ls nx].toArray := holds_of fun j hj => by
            match j, hj with
            | 0, _ => exact ⟨t2.cell 0, t2.frozen 0⟩
            | 1, _ => exact ⟨t2.cell 1, t2.frozen 1⟩
            | 2, _ => exact ⟨t2.cell 2, t2.frozen 2⟩
          have hso : Calls Try.prog 89 #[.slice (some ⟨w5.heap.size, 0, none⟩) 3 3] V2 fun e w' => e = .returned (.tuple #[]) ∧ V2.grownBy w' (some w5.heap.size) ∧ Holds (Value.int .i64) w' w5.heap.size 0 ([iat ls pr, iat ls i, iat ls nx].mergeSort fun x y => decide (x ≤ y)).toArray := sort_ok w5.heap.size 3 [iat ls pr, iat ls i, iat ls nx] V2 hH6 t2.lt (by simp)
          rw [hsrt.out] at hso
          have tl := t2.lt
          go_upto_region 18 with (go_at_call 89; (with_reducible refine Calls.mono hso ?_); rintro e w7 ⟨rfl, hg7, hH7⟩)
          have b7 : Below w.heap.size w w7 := b6.grown hg7 b6.size fun k hk => by cases hk; exact hbw5.size
          have hgt : g < w5.heap.size := by omega
          have L7 := L6.kept hg7 (by intro q; cases q; omega)
          have T7 : w7.ownsRow B2 78 3 u8 T.length (trsV T) := T6.kept hg7 (by
            cases hq : u8.ownBlock with
            | none => exact .inl rfl
            | some k =>
              refine .inr fun q => ?_
              cases q
              have := (hT5.lt _ hq).2
              omega)
          have s7 := hg7.size
          have y1 := (holds_get hH7 (i := 0) (by simp)).1
          have y2 := (holds_get hH7 (i := 1) (by simp)).1
          have y3 := (holds_get hH7 (i := 2) (by simp)).1
          have r1 : iat [(srt3 ls i).1, (srt3 ls i).2.1, (srt3 ls i).2.2] 0 = (srt3 ls i).1 := rfl
          have r2 : iat [(srt3 ls i).1, (srt3 ls i).2.1, (srt3 ls i).2.2] 1 = (srt3 ls i).2.1 := rfl
          have r3 : iat [(srt3 ls i).1, (srt3 ls i).2.1, (srt3 ls i).2.2] 2 = (srt3 ls i).2.2 := rfl
          rw [r1] at y1
          rw [r2] at y2
          rw [r3] at y3
          have tl7 : w5.heap.size < w7.heap.size := Nat.lt_of_lt_of_le tl s7
          clear r1 r2 r3 hH7 hso hH6 t2 L6 T6 hL5 hT5 hsrt b6
          have hone : ∀ u ∈ [(Value.int .i64 ((srt3 ls i).1)), (Value.int .i64 ((srt3 ls i).2.1)), (Value.int .i64 ((srt3 ls i).2.2))], u.oneCell' = true := fun u hu => trsV_one [srt3 ls i] u hu
          go_wp2_with (at_builtin; refine wpList_append_own _ rfl (.tmp 63) (.tmp 65) 75 rfl B2 78 j0 _ 3 24 undTrs hj0 hy0 hy1 hy2 rfl (by decide) _ _ _ rfl (World.ownsRow.alloc T7 _) ⟨w7.heap.size, 0, none⟩ 1 1 [(Value.int .i64 ((srt3 ls i).1)), (Value.int .i64 ((srt3 ls i).2.1)), (Value.int .i64 ((srt3 ls i).2.2))] rfl rfl (tg_news _ [(Value.int .i64 ((srt3 ls i).1)), (Value.int .i64 ((srt3 ls i).2.1)), (Value.int .i64 ((srt3 ls i).2.2))] _) hone (by unfold maxLen; omega) (by omega) (by simp; omega) ?_)
          intro v' w9 hown hgrow _
          have A7 := World.ownsRow.alloc T7 (.cells #[(Value.int .i64 ((srt3 ls i).1)), (Value.int .i64 ((srt3 ls i).2.1)), (Value.int .i64 ((srt3 ls i).2.2))] 78)
          have b9 : Below w.heap.size w w9 := (bl_alloc (o := .cells #[(Value.int .i64 ((srt3 ls i).1)), (Value.int .i64 ((srt3 ls i).2.1)), (Value.int .i64 ((srt3 ls i).2.2))] 78) b7).grown hgrow (by have := b7.size; simp; omega) fun k hk => by
            have := (A7.lt k hk).1
            omega
          have L9 : LeftAt w9 w.heap.size g cap ls := (L7.below ((Below.refl _ w7).alloc (Nat.le_refl _) _)).kept hgrow (fun q => by
            have := (A7.lt g q.symm).1
            omega)
          have e3 : trsV T ++ [(Value.int .i64 ((srt3 ls i).1)), (Value.int .i64 ((srt3 ls i).2.1)), (Value.int .i64 ((srt3 ls i).2.2))] = trsV (T ++ [srt3 ls i]) := by rw [trsV_append]; rfl
          have e4 : T.length + 1 = (T ++ [srt3 ls i]).length := by simp
          rw [e3, e4] at hown
          have s9 : B2 ≤ w9.heap.size := by
            have := hgrow.size
            simp at this
            omega
          clear hgrow A7 L7 T7 y1 y2 y3 e3 e4 b7 hg7
          have hde := del_ok w.heap.size g cap i ls w9 L9 hi
          have hw3 : IntKind.i64.wrap ((i : Int) + 1) = (i : Int) + 1 := k3
          go_wp2_with (go_at_call 90; (with_reducible refine Calls.mono hde ?_); rintro e w10 ⟨rfl, hg10, hL10⟩)
          have b10 : Below w.heap.size w w10 := b9.grown hg10 b9.size fun k hk => by cases hk; exact L9.base
          have T10 : w10.ownsRow B2 78 3 v' (T ++ [srt3 ls i]).length (trsV (T ++ [srt3 ls i])) := hown.kept hg10 (by
            cases hq : v'.ownBlock with
            | none => exact .inl rfl
            | some k =>
              refine .inr fun q => ?_
              cases q
              have := (hown.lt _ hq).1
              omega)
          have s10 := hg10.size
          go_roundg (ls.eraseIdx i).length
          case measure => omega
          case rel => exact ⟨ls.eraseIdx i, T ++ [srt3 ls i], rfl, by rw [hlenE], by rw [hlenE]; go_num, hL10, T10, by omega, hstep, b10⟩
        · have h3' : ¬ ((3 : Int) ≤ (ls.length : Int)) := by omega
          go_wp2
          (try simp only [Exit.inBlock, Exit.then])
          refine bodyPost_ret (v := .tuple #[u8, (Value.int .i64 (0))]) (by simp [results, Try.results47, go_sem]) rfl ?_
          exact ⟨u8, rfl, T, own_mono hT hwB, ⟨by omega, hI.out.tri, fun F hF => inv_last hI.out (by omega) F hF⟩, hbw⟩
end Go.Proofs.Ytegdnbceiopklaa
/- The numbers of a polygon are the sums of those of its triangles that are not flat. -/
namespace Go.Proofs.Ytegdnbceiopklaa

/-- The three points of a triangle. -/
def trP (l : List Pt) (t : Int × Int × Int) : List Pt := [pat l t.1.toNat, pat l t.2.1.toNat, pat l t.2.2.toNat]
theorem sum_trP (f : Pt → Pt → Int) (l : List Pt) (t : Int × Int × Int) : sumOf f (trP l t) = triF (gOf f) l t := by
  rw [sumOf_tot]
  have e : ∀ a b c : Pt, tot (gOf f) (ring [a, b, c]) = gOf f a b + (gOf f b c + (gOf f c a + 0)) := fun _ _ _ => rfl
  unfold trP triF
  rw [e]
  omega
theorem sum_trs {l : List Pt} {s : Int} {T : List (Int × Int × Int)} (h : TrisOk l s T) (f : Pt → Pt → Int) (hf : ∀ a b, f b a = f a b) : sumOf f l = triS (gOf f) l T := by
  rw [sumOf_tot]
  refine h.sum _ fun a b => ?_
  unfold gOf
  rw [hf a b]
  unfold cross
  grind
theorem trP_pt {l : List Pt} (hpt : ∀ i, i < l.length → isPt (pat l i) = true) {s : Int} {t : Int × Int × Int} (h : TriOk l s t) : isPt (pat l t.1.toNat) = true ∧ isPt (pat l t.2.1.toNat) = true ∧ isPt (pat l t.2.2.toNat) = true := by
  obtain ⟨h1, h2, h3, h4, -⟩ := h
  exact ⟨hpt _ (by omega), hpt _ (by omega), hpt _ (by omega)⟩
/-- A triangle that is not flat is a valid polygon. -/
theorem trP_ok {l : List Pt} (hpt : ∀ i, i < l.length → isPt (pat l i) = true) {s : Int} {t : Int × Int × Int} (h : TriOk l s t) (hn : triT l t ≠ 0) : Ok (trP l t) := by
  obtain ⟨p1, p2, p3⟩ := trP_pt hpt h
  unfold triT at hn
  unfold trP
  generalize pat l t.1.toNat = a at *
  generalize pat l t.2.1.toNat = b at *
  generalize pat l t.2.2.toNat = c at *
  have hab : a ≠ b := fun e => by rw [e, turn_aab] at hn; exact hn rfl
  have hbc : b ≠ c := fun e => by rw [e, turn_abb] at hn; exact hn rfl
  have hac : a ≠ c := fun e => by rw [e, turn_aba] at hn; exact hn rfl
  have r1 := turn_rot a b c
  have r2 := turn_rot b c a
  have no : ∀ x y z : Pt, turn x y z ≠ 0 → has x y z = false := fun x y z h => by
    cases q : has x y z with
    | false => rfl
    | true => exact absurd (has_turn q) h
  have n0 : nxt [a, b, c] 0 = 1 := by simp [nxt]
  have n1 : nxt [a, b, c] 1 = 2 := by simp [nxt]
  have n2 : nxt [a, b, c] 2 = 0 := by simp [nxt]
  refine ⟨by simp, fun i hi => ?_, fun i hi k hk => ?_, fun i hi => ?_, fun i hi k hk => ?_⟩
  · match i, hi with
    | 0, _ => exact p1
    | 1, _ => exact p2
    | 2, _ => exact p3
  · match i, k, hi, hk with
    | 1, 0, _, _ => exact hab
    | 2, 0, _, _ => exact hac
    | 2, 1, _, _ => exact hbc
  · match i, hi with
    | 0, _ => rw [n0, n1]; exact ⟨no a b c hn, no b c a (by rw [r1]; exact hn)⟩
    | 1, _ => rw [n1, n2]; exact ⟨no b c a (by rw [r1]; exact hn), no c a b (by rw [r2, r1]; exact hn)⟩
    | 2, _ => rw [n2, n0]; exact ⟨no c a b (by rw [r2, r1]; exact hn), no a b c hn⟩
  · match i, k, hi, hk with
    | 0, 0, _, _ => exact .inl rfl
    | 0, 1, _, _ => exact .inr (.inl n0.symm)
    | 0, 2, _, _ => exact .inr (.inr (.inl n2))
    | 1, 0, _, _ => exact .inr (.inr (.inl n0))
    | 1, 1, _, _ => exact .inl rfl
    | 1, 2, _, _ => exact .inr (.inl n1.symm)
    | 2, 0, _, _ => exact .inr (.inl n2.symm)
    | 2, 1, _, _ => exact .inr (.inr (.inl n1))
    | 2, 2, _, _ => exact .inl rfl
theorem trP_no {l : List Pt} {t : Int × Int × Int} (h : triT l t = 0) : ¬ Ok (trP l t) := fun hok => by
  have := tw_ne hok
  apply this
  show sumOf oneF (trP l t) = 0
  rw [sum_trP]
  rw [← h]
  unfold triF triT gOf oneF cross turn
  grind
theorem tw_trP (l : List Pt) (t : Int × Int × Int) : tw (trP l t) = triT l t := by
  show sumOf oneF (trP l t) = _
  rw [sum_trP]
  unfold triF triT gOf oneF cross turn
  grind
/-- The six functions: what a flat triangle gives is 0. -/
structure Six (f : Pt → Pt → Int) : Prop where
  sym : ∀ a b, f b a = f a b
  bd : ∀ a b, isPt a = true → isPt b = true → -1000000 ≤ f a b ∧ f a b ≤ 1000000
  flat : ∀ a b c : Pt, turn a b c = 0 → f a b * cross a b + f b c * cross b c + f c a * cross c a = 0
theorem six_one : Six oneF := ⟨fun _ _ => rfl, one_bd, fun a b c h => by
  have e : oneF a b * cross a b + oneF b c * cross b c + oneF c a * cross c a = turn a b c := by unfold oneF cross turn; grind
  rw [e, h]⟩
theorem six_fx : Six fxF := ⟨fun a b => by unfold fxF; omega, fx_bd, fun a b c h => by
  have e : fxF a b * cross a b + fxF b c * cross b c + fxF c a * cross c a = (a.1 + b.1 + c.1) * turn a b c := by unfold fxF cross turn; grind
  rw [e, h, Int.mul_zero]⟩
theorem six_fy : Six fyF := ⟨fun a b => by unfold fyF; omega, fy_bd, fun a b c h => by
  have e : fyF a b * cross a b + fyF b c * cross b c + fyF c a * cross c a = (a.2 + b.2 + c.2) * turn a b c := by unfold fyF cross turn; grind
  rw [e, h, Int.mul_zero]⟩
theorem six_xx : Six xxF := ⟨fun a b => by unfold xxF sqF; grind, xx_bd, fun a b c h => by
  have e : xxF a b * cross a b + xxF b c * cross b c + xxF c a * cross c a = (a.1 * a.1 + b.1 * b.1 + c.1 * c.1 + a.1 * b.1 + b.1 * c.1 + c.1 * a.1) * turn a b c := by unfold xxF sqF cross turn; grind
  rw [e, h, Int.mul_zero]⟩
theorem six_yy : Six yyF := ⟨fun a b => by unfold yyF sqF; grind, yy_bd, fun a b c h => by
  have e : yyF a b * cross a b + yyF b c * cross b c + yyF c a * cross c a = (a.2 * a.2 + b.2 * b.2 + c.2 * c.2 + a.2 * b.2 + b.2 * c.2 + c.2 * a.2) * turn a b c := by unfold yyF sqF cross turn; grind
  rw [e, h, Int.mul_zero]⟩
theorem six_xy : Six xyF := ⟨fun a b => by unfold xyF; grind, xy_bd, fun a b c h => by
  have e : xyF a b * cross a b + xyF b c * cross b c + xyF c a * cross c a = ((a.1 + b.1 + c.1) * (a.2 + b.2 + c.2) + a.1 * a.2 + b.1 * b.2 + c.1 * c.2) * turn a b c := by unfold xyF cross turn; grind
  rw [e, h, Int.mul_zero]⟩
/-- What the first k triangles give. -/
def upF (f : Pt → Pt → Int) (l : List Pt) (T : List (Int × Int × Int)) (k : Nat) : Int := triS (gOf f) l (T.take k)
theorem upF_next (f : Pt → Pt → Int) (l : List Pt) {T : List (Int × Int × Int)} {k : Nat} (h : k < T.length) : upF f l T (k + 1) = upF f l T k + sumOf f (trP l (tat T k)) := by
  unfold upF
  have e : T.take (k + 1) = T.take k ++ [tat T k] := by
    rw [List.take_succ_eq_append_getElem h]
    simp [tat, List.getD, h]
  rw [e, triS_append, sum_trP]
  show _ + (triF (gOf f) l (tat T k) + 0) = _
  omega
theorem upF_flat {f : Pt → Pt → Int} (hf : Six f) (l : List Pt) {T : List (Int × Int × Int)} {k : Nat} (h : k < T.length) (h0 : triT l (tat T k) = 0) : upF f l T (k + 1) = upF f l T k := by
  rw [upF_next f l h, sum_trP]
  have : triF (gOf f) l (tat T k) = 0 := hf.flat _ _ _ h0
  omega
theorem tat_mem {T : List (Int × Int × Int)} {k : Nat} (h : k < T.length) : tat T k ∈ T := by
  have : tat T k = T[k] := by simp [tat, List.getD, h]
  rw [this]
  exact List.getElem_mem _
theorem upF_bd {f : Pt → Pt → Int} (hf : Six f) {l : List Pt} (hpt : ∀ i, i < l.length → isPt (pat l i) = true) {s : Int} {T : List (Int × Int × Int)} (hT : TrisOk l s T) : ∀ k, k ≤ T.length → -(800000000000 * (k : Int)) ≤ upF f l T k ∧ upF f l T k ≤ 800000000000 * (k : Int)
  | 0, _ => by simp [upF, triS]
  | k + 1, h => by
    have h1 := upF_bd hf hpt hT k (by omega)
    obtain ⟨p1, p2, p3⟩ := trP_pt hpt (hT.tri _ (tat_mem (T := T) (k := k) (by omega)))
    have h2 := sumOf_bd (f := f) (l := trP l (tat T k)) (by simp [trP]) (fun i hi => by
      match i, hi with
      | 0, _ => exact p1
      | 1, _ => exact p2
      | 2, _ => exact p3) hf.bd
    rw [upF_next f l (by omega)]
    omega
theorem upF_all {f : Pt → Pt → Int} (hf : Six f) {l : List Pt} {s : Int} {T : List (Int × Int × Int)} (hT : TrisOk l s T) : upF f l T T.length = sumOf f l := by
  unfold upF
  rw [List.take_length, sum_trs hT f hf.sym]
/-- The sign of a triangle that is not flat. -/
theorem trP_sign {l : List Pt} {s : Int} (hs : s = 1 ∨ s = -1) (hp : 0 < s * tw l) {t : Int × Int × Int} (h : TriOk l s t) (hn : triT l t ≠ 0) : decide (0 < tw (trP l t)) = decide (0 < tw l) := by
  have h1 := h.2.2.2.2
  rw [tw_trP]
  rcases hs with rfl | rfl
  · rw [decide_eq_true (show 0 < triT l t by omega), decide_eq_true (show 0 < tw l by omega)]
  · rw [decide_eq_false (show ¬ 0 < triT l t by omega), decide_eq_false (show ¬ 0 < tw l by omega)]
end Go.Proofs.Ytegdnbceiopklaa
/- What is measured of a polygon, and of its triangles: the sums of the lower bounds are not above the polygon's, those of the upper ones not below. -/
namespace Go.Proofs.Ytegdnbceiopklaa

theorem pc_loF {g : Pt → Int × Int} : ∀ (l : List Pt) (m : Int), (l.foldl (fun m x => min m (low (g x))) m = m ∨ ∃ f ∈ l, l.foldl (fun m x => min m (low (g x))) m = low (g f)) ∧ l.foldl (fun m x => min m (low (g x))) m ≤ m ∧ ∀ f ∈ l, l.foldl (fun m x => min m (low (g x))) m ≤ low (g f)
  | [], m => ⟨.inl rfl, Int.le_refl _, fun f hf => by simp at hf⟩
  | a :: l, m => by
    obtain ⟨h1, h2, h3⟩ := pc_loF (g := g) l (min m (low (g a)))
    rw [List.foldl_cons]
    refine ⟨?_, by omega, fun f hf => ?_⟩
    · rcases h1 with h1 | ⟨f, hf, h1⟩
      · rcases Int.le_total m (low (g a)) with k | k
        · exact .inl (by omega)
        · exact .inr ⟨a, List.mem_cons_self, by omega⟩
      · exact .inr ⟨f, List.mem_cons_of_mem _ hf, h1⟩
    · rcases List.mem_cons.1 hf with rfl | hf
      · omega
      · exact h3 f hf
theorem pc_hiF {g : Pt → Int × Int} : ∀ (l : List Pt) (m : Int), (l.foldl (fun m x => max m (hig (g x))) m = m ∨ ∃ f ∈ l, l.foldl (fun m x => max m (hig (g x))) m = hig (g f)) ∧ m ≤ l.foldl (fun m x => max m (hig (g x))) m ∧ ∀ f ∈ l, hig (g f) ≤ l.foldl (fun m x => max m (hig (g x))) m
  | [], m => ⟨.inl rfl, Int.le_refl _, fun f hf => by simp at hf⟩
  | a :: l, m => by
    obtain ⟨h1, h2, h3⟩ := pc_hiF (g := g) l (max m (hig (g a)))
    rw [List.foldl_cons]
    refine ⟨?_, by omega, fun f hf => ?_⟩
    · rcases h1 with h1 | ⟨f, hf, h1⟩
      · rcases Int.le_total (hig (g a)) m with k | k
        · exact .inl (by omega)
        · exact .inr ⟨a, List.mem_cons_self, by omega⟩
      · exact .inr ⟨f, List.mem_cons_of_mem _ hf, h1⟩
    · rcases List.mem_cons.1 hf with rfl | hf
      · omega
      · exact h3 f hf
theorem pc_lo {g : Pt → Int × Int} {L : List Pt} (hL : L ≠ []) : (∃ f ∈ L, bLo g L = low (g f)) ∧ ∀ f ∈ L, bLo g L ≤ low (g f) := by
  cases L with
  | nil => exact absurd rfl hL
  | cons a l =>
    obtain ⟨h1, h2, h3⟩ := pc_loF (g := g) l (low (g a))
    refine ⟨?_, fun f hf => ?_⟩
    · rcases h1 with h1 | ⟨f, hf, h1⟩
      · exact ⟨a, List.mem_cons_self, h1⟩
      · exact ⟨f, List.mem_cons_of_mem _ hf, h1⟩
    · rcases List.mem_cons.1 hf with rfl | hf
      · exact h2
      · exact h3 f hf
theorem pc_hi {g : Pt → Int × Int} {L : List Pt} (hL : L ≠ []) : (∃ f ∈ L, bHi g L = hig (g f)) ∧ ∀ f ∈ L, hig (g f) ≤ bHi g L := by
  cases L with
  | nil => exact absurd rfl hL
  | cons a l =>
    obtain ⟨h1, h2, h3⟩ := pc_hiF (g := g) l (hig (g a))
    refine ⟨?_, fun f hf => ?_⟩
    · rcases h1 with h1 | ⟨f, hf, h1⟩
      · exact ⟨a, List.mem_cons_self, h1⟩
      · exact ⟨f, List.mem_cons_of_mem _ hf, h1⟩
    · rcases List.mem_cons.1 hf with rfl | hf
      · exact h2
      · exact h3 f hf
theorem le_low {q : Int × Int} (h : FrOk q) {x : Int} (hx : x * q.2 ≤ q.1) : x ≤ low q := by
  obtain ⟨⟨h0, h1⟩, h2, h3⟩ := h
  have e1 : low q = q.1 / q.2 := Int.tdiv_eq_ediv_of_nonneg h0
  rw [e1]
  exact (Int.le_ediv_iff_mul_le h2).2 hx
theorem hig_le {q : Int × Int} (h : FrOk q) {x : Int} (hx : q.1 ≤ x * q.2) : hig q ≤ x := by
  obtain ⟨⟨h0, h1⟩, h2, h3⟩ := h
  have e2 : hig q = (q.1 + q.2 - 1) / q.2 := Int.tdiv_eq_ediv_of_nonneg (by omega)
  rw [e2]
  refine Int.le_of_lt_add_one ((Int.ediv_lt_iff_lt_mul h2).2 ?_)
  rw [Int.add_mul]
  omega
section
variable {S : Sht} (hS : shtB S = true) (hne : trs S ≠ [])
include hS
theorem pc_fac {f : Pt} (hf : f ∈ trs S) : FacOk f := by
  have h0 := sht_ok hS
  have hx := h0.x0; have hx2 := h0.x2; have hy := h0.y0; have hy2 := h0.y2
  have h := mem_trs.1 hf
  simp only [truB, within, Bool.and_eq_true, decide_eq_true_eq] at h
  exact ⟨⟨by omega, by omega⟩, by omega, by omega⟩
include hne
theorem pc_arE {l : List Pt} (hok : Ok l) : arE S l true = 0 := by
  have h1 : msE S l = 0 := by rw [msE, if_pos hS, chk_ok hok]
  rw [arE, if_pos h1]
  exact opS_of hS rfl hne
theorem pc_lo2 {l : List Pt} (hok : Ok l) : (∃ f ∈ trs S, arLo S l = low (arQ l f)) ∧ ∀ f ∈ trs S, arLo S l ≤ low (arQ l f) := by
  rw [arLo, if_pos (pc_arE hS hne hok)]
  exact pc_lo hne
theorem pc_hi2 {l : List Pt} (hok : Ok l) : (∃ f ∈ trs S, arHi S l = hig (arQ l f)) ∧ ∀ f ∈ trs S, hig (arQ l f) ≤ arHi S l := by
  rw [arHi, if_pos (pc_arE hS hne hok)]
  exact pc_hi hne
theorem pc_sane {l : List Pt} (hok : Ok l) : 0 ≤ arLo S l ∧ arLo S l ≤ arHi S l ∧ arHi S l < 1073741824 := by
  obtain ⟨⟨f, hf, e1⟩, h1⟩ := pc_lo2 hS hne hok
  obtain ⟨⟨g, hg, e2⟩, h2⟩ := pc_hi2 hS hne hok
  have k1 := low_le (arQ_ok hok (pc_fac hS hf))
  have k2 := low_le (arQ_ok hok (pc_fac hS hg))
  have k3 := hig_sane (arQ_ok hok (pc_fac hS hg)) (by simp only [arQ]; have := abT_bd2 hok; omega) (ff_bd (pc_fac hS hg)).1
  have k4 := h2 f hf
  omega
variable {l : List Pt} {s : Int} {T : List (Int × Int × Int)} (hok : Ok l) (hs : s = 1 ∨ s = -1) (hps : 0 < s * tw l) (hT : TrisOk l s T)
/-- The sums over the first triangles. -/
def loS (S : Sht) (l : List Pt) (T : List (Int × Int × Int)) : Nat → Int
  | 0 => 0
  | k + 1 => if triT l (tat T k) = 0 then loS S l T k else loS S l T k + arLo S (trP l (tat T k))
def hiS (S : Sht) (l : List Pt) (T : List (Int × Int × Int)) : Nat → Int
  | 0 => 0
  | k + 1 => if triT l (tat T k) = 0 then hiS S l T k else hiS S l T k + arHi S (trP l (tat T k))
include hok hT
theorem pc_bd : ∀ k, k ≤ T.length → 0 ≤ loS S l T k ∧ loS S l T k ≤ 1073741824 * (k : Int) ∧ 0 ≤ hiS S l T k ∧ hiS S l T k ≤ 1073741824 * (k : Int)
  | 0, _ => by simp [loS, hiS]
  | k + 1, h => by
    have ih := pc_bd k (by omega)
    rw [loS, hiS]
    by_cases h0 : triT l (tat T k) = 0
    · rw [if_pos h0, if_pos h0]; omega
    · rw [if_neg h0, if_neg h0]
      have := pc_sane hS hne (trP_ok hok.2.1 (hT.tri _ (tat_mem (T := T) (k := k) (by omega))) h0)
      omega
include hs
theorem pc_sum {f : Pt} (hf : f ∈ trs S) : ∀ k, k ≤ T.length → loS S l T k * (f.1 * f.2) ≤ s * upF oneF l T k * 1000000 ∧ s * upF oneF l T k * 1000000 ≤ hiS S l T k * (f.1 * f.2)
  | 0, _ => by simp [loS, hiS, upF, triS]
  | k + 1, h => by
    have hlt : k < T.length := by omega
    obtain ⟨i1, i2⟩ := pc_sum hf k (by omega)
    have hTk := hT.tri _ (tat_mem hlt)
    rw [loS, hiS]
    by_cases h0 : triT l (tat T k) = 0
    · rw [if_pos h0, if_pos h0, upF_flat six_one l hlt h0]
      exact ⟨i1, i2⟩
    · rw [if_neg h0, if_neg h0, upF_next oneF l hlt]
      have hok2 := trP_ok hok.2.1 hTk h0
      have e : s * sumOf oneF (trP l (tat T k)) = abT (trP l (tat T k)) := by
        have h1 := hTk.2.2.2.2
        have h2 : sumOf oneF (trP l (tat T k)) = triT l (tat T k) := tw_trP l _
        unfold abT
        rw [tw_trP, h2]
        rcases hs with rfl | rfl <;> omega
      have hfr := arQ_ok hok2 (pc_fac hS hf)
      have k1 := low_le hfr
      have k2 := (pc_lo2 hS hne hok2).2 f hf
      have k3 := (pc_hi2 hS hne hok2).2 f hf
      have e1 : (arQ (trP l (tat T k)) f).1 = abT (trP l (tat T k)) * 1000000 := rfl
      have e2 : (arQ (trP l (tat T k)) f).2 = f.1 * f.2 := rfl
      rw [e1, e2] at k1
      have hD := (ff_bd (pc_fac hS hf)).1
      rw [Int.mul_add, e]
      generalize arLo S (trP l (tat T k)) = x at *
      generalize arHi S (trP l (tat T k)) = y at *
      generalize f.1 * f.2 = D at *
      have m1 := Int.mul_le_mul_of_nonneg_right k2 (show 0 ≤ D by omega)
      have m2 := Int.mul_le_mul_of_nonneg_right k3 (show 0 ≤ D by omega)
      rw [Int.add_mul, Int.add_mul, Int.add_mul]
      omega
include hps
theorem pc_law : loS S l T T.length ≤ arLo S l ∧ arHi S l ≤ hiS S l T T.length := by
  obtain ⟨⟨f, hf, e1⟩, -⟩ := pc_lo2 hS hne hok
  obtain ⟨⟨g, hg, e2⟩, -⟩ := pc_hi2 hS hne hok
  have ha : s * upF oneF l T T.length = abT l := by
    rw [upF_all six_one hT]
    show s * tw l = abT l
    unfold abT
    rcases hs with rfl | rfl <;> omega
  have k1 := (pc_sum hS hne hok hs hT hf T.length (Nat.le_refl _)).1
  have k2 := (pc_sum hS hne hok hs hT hg T.length (Nat.le_refl _)).2
  rw [ha] at k1 k2
  rw [e1, e2]
  exact ⟨le_low (arQ_ok hok (pc_fac hS hf)) k1, hig_le (arQ_ok hok (pc_fac hS hg)) k2⟩
end
end Go.Proofs.Ytegdnbceiopklaa
