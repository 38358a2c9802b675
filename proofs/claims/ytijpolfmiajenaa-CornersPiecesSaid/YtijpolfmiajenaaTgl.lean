/- The corners that are left when one is cut off by clip are a simple polygon of the same sign; the triangles cut off together are the polygon. -/
import Derived.Test.YtijpolfmiajenaaClq
import Derived.Test.YtijpolfmiajenaaErs
import Derived.Test.YtijpolfmiajenaaArea
namespace Go.Proofs.Ytijpolfmiajenaa

/-- The points of the corners that are left. -/
def lft (l : List Pt) (ls : List Int) : List Pt := ls.map fun k => pat l k.toNat
theorem lft_len (l : List Pt) (ls : List Int) : (lft l ls).length = ls.length := by simp [lft]
theorem lft_pat (l : List Pt) (ls : List Int) {i : Nat} (h : i < ls.length) : pat (lft l ls) i = lpt l ls i := by
  simp only [pat, lft, lpt, iat, List.getD_eq_getElem?_getD, List.getElem?_map, List.getElem?_eq_getElem h, Option.map_some, Option.getD_some]
theorem lft_mem {l : List Pt} {ls : List Int} {z : Pt} (h : z ∈ lft l ls) : ∃ k, k < ls.length ∧ z = lpt l ls k := by
  obtain ⟨i, hi, rfl⟩ := mem_pat.1 h
  rw [lft_len] at hi
  exact ⟨i, hi, lft_pat l ls hi⟩
theorem lpt_mem (l : List Pt) {ls : List Int} {k : Nat} (h : k < ls.length) : lpt l ls k ∈ lft l ls := by
  rw [← lft_pat l ls h]
  exact mem_pat.2 ⟨k, by rw [lft_len]; exact h, rfl⟩
theorem nxn_prv {n i : Nat} (hi : i < n) : nxn n (prv n i) = i := by
  unfold nxn prv
  rcases Nat.eq_zero_or_pos i with rfl | h
  · rw [Nat.zero_add, Nat.mod_eq_of_lt (a := n - 1) (by omega), show n - 1 + 1 = n by omega, Nat.mod_self]
  · rw [show i + n - 1 = (i - 1) + n by omega, Nat.add_mod_right, Nat.mod_eq_of_lt (a := i - 1) (by omega), show i - 1 + 1 = i by omega, Nat.mod_eq_of_lt hi]
theorem prv_nxn {n i : Nat} (hi : i < n) : prv n (nxn n i) = i := by
  unfold nxn prv
  rcases Nat.lt_or_ge (i + 1) n with h | h
  · rw [Nat.mod_eq_of_lt h, show i + 1 + n - 1 = i + n by omega, Nat.add_mod_right, Nat.mod_eq_of_lt hi]
  · have : i + 1 = n := by omega
    rw [this, Nat.mod_self, Nat.zero_add, Nat.mod_eq_of_lt (by omega)]
    omega
theorem ring_next (l : List Pt) {ls : List Int} {k : Nat} (h : k < ls.length) : (lpt l ls k, lpt l ls (nxn ls.length k)) ∈ ring (lft l ls) := by
  refine mem_ring.2 ⟨k, by rw [lft_len]; exact h, ?_⟩
  rw [lft_pat l ls h]
  unfold nxt
  rw [lft_len, show (k + 1) % ls.length = nxn ls.length k from rfl, lft_pat l ls (nxn_lt (by omega))]
theorem lpt_inj {l : List Pt} {ls : List Int} (h : (lft l ls).Nodup) {i j : Nat} (hi : i < ls.length) (hj : j < ls.length) (e : lpt l ls i = lpt l ls j) : i = j := by
  rw [← lft_pat l ls hi, ← lft_pat l ls hj, ← pat_eq (by rw [lft_len]; exact hi), ← pat_eq (by rw [lft_len]; exact hj)] at e
  exact (List.getElem_inj h).1 e
/-- There is a corner to cut off. -/
theorem clip_ex {l : List Pt} {ls : List Int} {s : Int} (h : Simp (lft l ls)) (hR : Res (lft l ls) s) : ∃ i, i < ls.length ∧ (trn l ls i = 0 ∨ EarI l ls s i) := by
  obtain ⟨u, y, w, h1, h2, h3, h4⟩ := ear_any h hR
  obtain ⟨i, hi, e1⟩ := mem_ring.1 h1
  obtain ⟨j, hj, e2⟩ := mem_ring.1 h2
  rw [lft_len] at hi hj
  have n1 := nxn_lt (n := ls.length) (i := i) (by omega)
  have n2 := nxn_lt (n := ls.length) (i := j) (by omega)
  unfold nxt at e1 e2
  rw [lft_len, lft_pat l ls hi] at e1
  rw [lft_len, lft_pat l ls hj] at e2
  rw [show (i + 1) % ls.length = nxn ls.length i from rfl, lft_pat l ls n1] at e1
  rw [show (j + 1) % ls.length = nxn ls.length j from rfl, lft_pat l ls n2] at e2
  injection e1 with a1 a2
  injection e2 with b1 b2
  have hij : nxn ls.length i = j := lpt_inj h.nodup n1 hj (a2.symm.trans b1)
  have hp : prv ls.length j = i := by rw [← hij, prv_nxn hi]
  refine ⟨j, hj, .inr ⟨?_, fun k hk => ?_⟩⟩
  · unfold trn
    rw [hp, ← a1, ← b1, ← b2, Int.mul_comm]
    exact Int.le_of_lt h3
  · rw [hp, ← a1, ← b1, ← b2]
    rintro ⟨c1, c2, c3, c4, c5, c6⟩
    rcases h4 _ (lpt_mem l hk) (by rw [Int.mul_comm]; exact c4) (by rw [Int.mul_comm]; exact c5) (by rw [Int.mul_comm]; exact c6) with q | q | q
    · exact c1 q
    · exact c2 q
    · exact c3 q
theorem two_ring (F : Pt → Pt → Int) (hF : ∀ a b, F b a = - F a b) {P : List Pt} (h : P.length = 2) : tot F (ring P) = 0 := by
  match P, h with
  | [a, b], _ =>
    have := hF a b
    show F a b + (F b a + 0) = 0
    omega
/-- Corner i cut off. -/
theorem cut_at {l : List Pt} {ls : List Int} {i : Nat} (h : 3 ≤ ls.length) (hi : i < ls.length) (hn : (lft l ls).Nodup) :
    ∃ M, (∃ A B, lft l ls = A ++ B ∧ B ++ A = lpt l ls i :: lpt l ls (nxn ls.length i) :: (M ++ [lpt l ls (prv ls.length i)]) ∧
      ∃ C D, lft l (ls.eraseIdx i) = C ++ D ∧ D ++ C = lpt l ls (nxn ls.length i) :: (M ++ [lpt l ls (prv ls.length i)])) := by
  have hi2 : i < (lft l ls).length := by rw [lft_len]; exact hi
  have hx : (lft l ls)[i] = lpt l ls i := by rw [pat_eq hi2, lft_pat l ls hi]
  obtain ⟨A, hA⟩ : ∃ A, A = (lft l ls).take i := ⟨_, rfl⟩
  obtain ⟨B, hB⟩ : ∃ B, B = (lft l ls).drop (i + 1) := ⟨_, rfl⟩
  have e1 : lft l ls = A ++ lpt l ls i :: B := by
    rw [hA, hB, ← hx, ← List.drop_eq_getElem_cons hi2, List.take_append_drop]
  have e2 : lft l (ls.eraseIdx i) = A ++ B := by
    rw [hA, hB, List.eraseIdx_eq_take_drop_succ]
    unfold lft
    rw [List.map_append, List.map_take, List.map_drop]
  have hl : 2 ≤ (B ++ A).length := by
    have := congrArg List.length e1
    rw [lft_len] at this
    simp only [List.length_append, List.length_cons] at this ⊢
    omega
  cases hBA : B ++ A with
  | nil => rw [hBA] at hl; simp at hl
  | cons w t =>
    rcases List.eq_nil_or_concat t with rfl | ⟨M, u, rfl⟩
    · rw [hBA] at hl; simp at hl
    · rw [List.concat_eq_append] at hBA
      have er := ring_rot A (lpt l ls i :: B)
      rw [← e1] at er
      have hn2 : ((lpt l ls i :: B) ++ A).Nodup := (List.perm_append_comm (l₁ := A) (l₂ := lpt l ls i :: B)).nodup_iff.1 (e1 ▸ hn)
      rw [List.cons_append, hBA] at er hn2
      have k1 := (first_sides (q := lpt l ls (nxn ls.length i)) hn2).2 (er.mem_iff.1 (ring_next l hi))
      have pl := prv_lt (n := ls.length) (i := i) (by omega)
      have rp := ring_next l pl
      rw [nxn_prv hi] at rp
      have k2 := (first_sides (q := lpt l ls (prv ls.length i)) hn2).1 (er.mem_iff.1 rp)
      refine ⟨M, A, lpt l ls i :: B, e1, by rw [List.cons_append, hBA, k1, k2], A, B, e2, by rw [hBA, k1, k2]⟩
def triF (F : Pt → Pt → Int) (l : List Pt) (t : Int × Int × Int) : Int := F (pat l t.1.toNat) (pat l t.2.1.toNat) + F (pat l t.2.1.toNat) (pat l t.2.2.toNat) + F (pat l t.2.2.toNat) (pat l t.1.toNat)
def triS (F : Pt → Pt → Int) (l : List Pt) : List (Int × Int × Int) → Int
  | [] => 0
  | t :: T => triF F l t + triS F l T
theorem triS_append (F : Pt → Pt → Int) (l : List Pt) : ∀ T U, triS F l (T ++ U) = triS F l T + triS F l U
  | [], U => by simp [triS]
  | t :: T, U => by rw [List.cons_append, triS, triS, triS_append F l T U]; omega
def triT (l : List Pt) (t : Int × Int × Int) : Int := turn (pat l t.1.toNat) (pat l t.2.1.toNat) (pat l t.2.2.toNat)
/-- A triangle of three corners, by their numbers, in order; it goes around as the sign says, or is flat. -/
def TriOk (l : List Pt) (s : Int) (t : Int × Int × Int) : Prop := 0 ≤ t.1 ∧ t.1 < t.2.1 ∧ t.2.1 < t.2.2 ∧ t.2.2 < l.length ∧ 0 ≤ s * triT l t
/-- What is left, and what is cut off. -/
structure Inv (l : List Pt) (s : Int) (ls : List Int) (T : List (Int × Int × Int)) : Prop where
  two : 2 ≤ ls.length
  len : ls.length + T.length = l.length
  inc : ls.Pairwise (· < ·)
  rng : ∀ k ∈ ls, 0 ≤ k ∧ k < (l.length : Int)
  smp : 3 ≤ ls.length → Simp (lft l ls) ∧ Res (lft l ls) s
  tri : ∀ t ∈ T, TriOk l s t
  sum : ∀ F : Pt → Pt → Int, (∀ a b, F b a = - F a b) → tot F (ring l) = tot F (ring (lft l ls)) + triS F l T
/-- The three numbers at corner i, in order. -/
def srt3 (ls : List Int) (i : Nat) : Int × Int × Int :=
  if i = 0 then (iat ls i, iat ls (nxn ls.length i), iat ls (prv ls.length i)) else if i + 1 = ls.length then (iat ls (nxn ls.length i), iat ls (prv ls.length i), iat ls i) else (iat ls (prv ls.length i), iat ls i, iat ls (nxn ls.length i))
theorem inc_at {ls : List Int} (h : ls.Pairwise (· < ·)) {i j : Nat} (hij : i < j) (hj : j < ls.length) : iat ls i < iat ls j := by
  have := List.pairwise_iff_getElem.1 h i j (by omega) hj hij
  rwa [iat_eq (by omega), iat_eq hj] at this
theorem srt3_inc {ls : List Int} (h : ls.Pairwise (· < ·)) (hn : 3 ≤ ls.length) {i : Nat} (hi : i < ls.length) : (srt3 ls i).1 < (srt3 ls i).2.1 ∧ (srt3 ls i).2.1 < (srt3 ls i).2.2 := by
  unfold srt3
  split
  · rename_i h0
    subst h0
    have e1 : nxn ls.length 0 = 1 := by unfold nxn; exact Nat.mod_eq_of_lt (by omega)
    have e2 : prv ls.length 0 = ls.length - 1 := by unfold prv; rw [Nat.zero_add]; exact Nat.mod_eq_of_lt (by omega)
    rw [e1, e2]
    exact ⟨inc_at h (by omega) (by omega), inc_at h (by omega) (by omega)⟩
  · have e2 : prv ls.length i = i - 1 := by
      unfold prv
      rw [show i + ls.length - 1 = (i - 1) + ls.length by omega, Nat.add_mod_right]
      exact Nat.mod_eq_of_lt (by omega)
    split
    · rename_i h0
      have e1 : nxn ls.length i = 0 := by unfold nxn; rw [h0, Nat.mod_self]
      rw [e1, e2]
      exact ⟨inc_at h (by omega) (by omega), inc_at h (by omega) (by omega)⟩
    · have e1 : nxn ls.length i = i + 1 := by unfold nxn; exact Nat.mod_eq_of_lt (by omega)
      rw [e1, e2]
      exact ⟨inc_at h (by omega) (by omega), inc_at h (by omega) (by omega)⟩
theorem srt3_perm (ls : List Int) (i : Nat) : [iat ls (prv ls.length i), iat ls i, iat ls (nxn ls.length i)].Perm [(srt3 ls i).1, (srt3 ls i).2.1, (srt3 ls i).2.2] := by
  unfold srt3
  split
  · exact List.perm_append_comm (l₁ := [iat ls (prv ls.length i)]) (l₂ := [iat ls i, iat ls (nxn ls.length i)])
  · split
    · exact List.perm_append_comm (l₁ := [iat ls (prv ls.length i), iat ls i]) (l₂ := [iat ls (nxn ls.length i)])
    · exact List.Perm.refl _
theorem srt3_sort {ls : List Int} (h : ls.Pairwise (· < ·)) (hn : 3 ≤ ls.length) {i : Nat} (hi : i < ls.length) :
    ([iat ls (prv ls.length i), iat ls i, iat ls (nxn ls.length i)].mergeSort fun x y => decide (x ≤ y)) = [(srt3 ls i).1, (srt3 ls i).2.1, (srt3 ls i).2.2] := by
  obtain ⟨h1, h2⟩ := srt3_inc h hn hi
  have p1 := List.mergeSort_perm [iat ls (prv ls.length i), iat ls i, iat ls (nxn ls.length i)] (fun x y => decide (x ≤ y))
  have p2 := p1.trans (srt3_perm ls i)
  have s1 := List.pairwise_mergeSort (le := fun x y : Int => decide (x ≤ y)) (fun a b c h1 h2 => by simp at h1 h2 ⊢; omega) (fun a b => by simp; omega) [iat ls (prv ls.length i), iat ls i, iat ls (nxn ls.length i)]
  refine List.Perm.eq_of_pairwise (le := fun x y : Int => decide (x ≤ y) = true) (fun a b _ _ h1 h2 => by simp at h1 h2; omega) s1 ?_ p2
  simp only [List.pairwise_cons, List.mem_cons, List.not_mem_nil, or_false, decide_eq_true_eq, List.Pairwise.nil, and_true]
  refine ⟨fun a ha => ?_, fun a ha => ?_, fun a ha => ha.elim⟩
  · rcases ha with rfl | rfl <;> omega
  · subst ha; omega
theorem srt3_F (F : Pt → Pt → Int) (l : List Pt) (ls : List Int) (i : Nat) : triF F l (srt3 ls i) = F (lpt l ls (prv ls.length i)) (lpt l ls i) + F (lpt l ls i) (lpt l ls (nxn ls.length i)) + F (lpt l ls (nxn ls.length i)) (lpt l ls (prv ls.length i)) := by
  unfold srt3 triF lpt
  split
  · simp only; omega
  · split
    · simp only; omega
    · rfl
theorem srt3_T (l : List Pt) (ls : List Int) (i : Nat) : triT l (srt3 ls i) = trn l ls i := by
  unfold srt3 triT trn lpt
  split
  · exact turn_rot _ _ _
  · split
    · exact (turn_rot _ _ _).symm
    · rfl
def nums (n : Nat) : List Int := (List.range n).map fun i : Nat => (i : Int)
theorem nums_len (n : Nat) : (nums n).length = n := by simp [nums]
theorem nums_next (n : Nat) : nums (n + 1) = nums n ++ [(n : Int)] := by simp [nums, List.range_succ]
theorem lft_all (l : List Pt) : lft l (nums l.length) = l := by
  apply List.ext_getElem
  · simp [lft, nums]
  · intro i h1 h2
    simp [lft, nums, pat, List.getD, h2]
theorem inv_first {l : List Pt} {s : Int} (h : Simp l) (hR : Res l s) : Inv l s (nums l.length) [] := by
  have hl := h.len
  refine ⟨by rw [nums_len]; omega, by rw [nums_len]; rfl, ?_, fun k hk => ?_, fun _ => by rw [lft_all]; exact ⟨h, hR⟩, fun t ht => by simp at ht, fun F _ => by rw [lft_all]; simp [triS]⟩
  · refine List.Pairwise.map _ (fun a b hab => ?_) List.pairwise_lt_range
    omega
  · obtain ⟨i, hi, rfl⟩ := List.mem_map.1 hk
    have := List.mem_range.1 hi
    omega
theorem inv_step {l : List Pt} {s : Int} {ls : List Int} {T : List (Int × Int × Int)} (hI : Inv l s ls T) (h3 : 3 ≤ ls.length) {i : Nat} (hc : ClipI l ls s i) : Inv l s (ls.eraseIdx i) (T ++ [srt3 ls i]) := by
  obtain ⟨hi, hc⟩ := hc
  obtain ⟨hS, hR⟩ := hI.smp h3
  have hlen := List.length_eraseIdx_of_lt hi
  obtain ⟨M, A, B, e1, e2, C, D, e3, e4⟩ := cut_at (l := l) h3 hi hS.nodup
  have rP := ring_rot A B
  rw [← e1, e2] at rP
  have rQ := ring_rot C D
  rw [← e3, e4] at rQ
  have S1 : Simp (lpt l ls i :: lpt l ls (nxn ls.length i) :: (M ++ [lpt l ls (prv ls.length i)])) := by
    rw [← e2]
    exact (e1 ▸ hS).rot
  have R1 : Res (lpt l ls i :: lpt l ls (nxn ls.length i) :: (M ++ [lpt l ls (prv ls.length i)])) s := by
    rw [← e2]
    exact Res.rot (e1 ▸ hR)
  have hm : ∀ z ∈ lpt l ls i :: lpt l ls (nxn ls.length i) :: (M ++ [lpt l ls (prv ls.length i)]), z ∈ lft l ls := fun z hz => by
    rw [← e2, List.mem_append] at hz
    rw [e1, List.mem_append]
    exact hz.symm
  have lM : ls.length = M.length + 3 := by
    have := congrArg List.length e2
    have k := congrArg List.length e1
    rw [lft_len] at k
    simp only [List.length_append, List.length_cons, List.length_nil] at this k
    omega
  have sgn : 0 ≤ s * trn l ls i := by
    rcases hc with k | ⟨_, k, _⟩
    · rw [k, Int.mul_zero]; omega
    · rw [Int.mul_comm]; exact k
  refine ⟨by omega, by rw [hlen, List.length_append, List.length_singleton]; have := hI.len; omega, hI.inc.sublist (List.eraseIdx_sublist _ _), fun k hk => hI.rng k (List.mem_of_mem_eraseIdx hk), fun h4 => ?_, fun t ht => ?_, fun F hF => ?_⟩
  · have hM : M ≠ [] := by
      rintro rfl
      simp at lM
      omega
    have key : Simp (lpt l ls (nxn ls.length i) :: (M ++ [lpt l ls (prv ls.length i)])) ∧ Res (lpt l ls (nxn ls.length i) :: (M ++ [lpt l ls (prv ls.length i)])) s := by
      rcases hc with k | ⟨hz, k1, k2⟩
      · exact drop_straight hM S1 R1 k
      · refine drop_ear hM S1 R1 ?_ fun z hz c1 c2 c3 => ?_
        · have := hz i hi
          have k3 : s * trn l ls i ≠ 0 := fun q => by
            rcases Int.mul_eq_zero.1 q with q | q
            · have := hR.1; omega
            · exact this q
          show 0 < s * trn l ls i
          omega
        · obtain ⟨k, hk, rfl⟩ := lft_mem (hm z hz)
          refine Classical.byContradiction fun q => k2 k hk ⟨fun e => q (.inl e), fun e => q (.inr (.inl e)), fun e => q (.inr (.inr e)), ?_, ?_, ?_⟩
          · rw [Int.mul_comm]; exact c1
          · rw [Int.mul_comm]; exact c2
          · rw [Int.mul_comm]; exact c3
    rw [e3]
    refine ⟨?_, ?_⟩
    · exact (e4 ▸ key.1 : Simp (D ++ C)).rot
    · exact Res.rot (e4 ▸ key.2 : Res (D ++ C) s)
  · rcases List.mem_append.1 ht with k | k
    · exact hI.tri t k
    · rw [List.mem_singleton.1 k]
      obtain ⟨k1, k2⟩ := srt3_inc hI.inc h3 hi
      have hr : ∀ j, j < ls.length → 0 ≤ iat ls j ∧ iat ls j < (l.length : Int) := fun j hj => hI.rng _ (by rw [← iat_eq hj]; exact List.getElem_mem _)
      have r1 := hr _ (prv_lt (n := ls.length) (i := i) (by omega))
      have r2 := hr _ hi
      have r3 := hr _ (nxn_lt (n := ls.length) (i := i) (by omega))
      refine ⟨?_, k1, k2, ?_, by rw [srt3_T]; exact sgn⟩
      · unfold srt3; split
        · exact r2.1
        · split
          · exact r3.1
          · exact r1.1
      · unfold srt3; split
        · exact r1.2
        · split
          · exact r2.2
          · exact r3.2
  · rw [hI.sum F hF, triS_append]
    have k1 := tot_drop F (lpt l ls i) (lpt l ls (nxn ls.length i)) (lpt l ls (prv ls.length i)) M
    rw [← tot_perm F rP, ← tot_perm F rQ] at k1
    have k2 := hF (lpt l ls (prv ls.length i)) (lpt l ls (nxn ls.length i))
    show _ = _ + (triS F l T + (triF F l (srt3 ls i) + 0))
    rw [srt3_F]
    omega
/-- At the end, when two corners are left. -/
theorem inv_last {l : List Pt} {s : Int} {ls : List Int} {T : List (Int × Int × Int)} (hI : Inv l s ls T) (h2 : ls.length = 2) (F : Pt → Pt → Int) (hF : ∀ a b, F b a = - F a b) : tot F (ring l) = triS F l T := by
  rw [hI.sum F hF, two_ring F hF (by rw [lft_len]; exact h2)]
  omega
end Go.Proofs.Ytijpolfmiajenaa
