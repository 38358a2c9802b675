/- The plain law of the hull: the two chains over the sorted points are what the reference's Hull finds. -/
import Derived.Test.YtijpolfmiajenaaRHul
import Derived.Test.YtijpolfmiajenaaHsr
import Derived.Test.YtijpolfmiajenaaHu3
namespace Go.Proofs.Ytijpolfmiajenaa
open Go.Sort Go.Shelf

theorem pat_inl {l : List Pt} {i : Nat} (h : i < l.length) : pat l i ∈ l := by rw [← pat_eq h]; exact List.getElem_mem h
theorem leP_iff (a b : Pt) : leP a b = true ↔ a.2 < b.2 ∨ (a.2 = b.2 ∧ a.1 ≤ b.1) := by
  unfold leP ltOf
  simp only [Bool.not_eq_true', decide_eq_false_iff_not, low_lt]
  omega
theorem begB_iff (a b : Pt) : begB a b = true ↔ a.2 < b.2 ∨ (a.2 = b.2 ∧ a.1 < b.1) := by
  unfold begB
  simp
theorem pt_rng {a : Pt} (h : isPt a = true) : (-200 ≤ a.1 ∧ a.1 ≤ 200) ∧ -200 ≤ a.2 ∧ a.2 ≤ 200 := by
  unfold isPt within at h
  simp only [Bool.and_eq_true, decide_eq_true_eq] at h
  omega
theorem leP_lin {a b : Pt} (ha : isPt a = true) (hb : isPt b = true) (h : leP a b = true) : lin 1 1000 a ≤ lin 1 1000 b := by
  have h1 := pt_rng ha
  have h2 := pt_rng hb
  have h3 := (leP_iff a b).1 h
  unfold lin
  omega
theorem inj_lin {L : List Pt} (h : ∀ x ∈ L, isPt x = true) : Inj 1 1000 L := fun a ha b hb e => by
  have h1 := pt_rng (h a ha)
  have h2 := pt_rng (h b hb)
  unfold lin at e
  exact Prod.ext (by omega) (by omega)
/-- The points in the order of the hull. -/
def srt2 (l : List Pt) : List Pt := l.mergeSort leP
theorem srt2_len (l : List Pt) : (srt2 l).length = l.length := List.length_mergeSort l
theorem srt2_mem {l : List Pt} {x : Pt} : x ∈ srt2 l ↔ x ∈ l := List.mem_mergeSort
theorem srt2_le (l : List Pt) : (srt2 l).Pairwise fun a b => leP a b = true :=
  List.pairwise_mergeSort (fun a b c h1 h2 => by rw [leP_iff] at *; omega) (fun a b => by
    rw [Bool.or_eq_true, leP_iff, leP_iff]; omega) l
theorem srt2_lin {l : List Pt} (h : ∀ x ∈ l, isPt x = true) : (srt2 l).Pairwise fun a b => lin 1 1000 a ≤ lin 1 1000 b := by
  refine List.Pairwise.imp_of_mem ?_ (srt2_le l)
  intro a b ha hb k
  exact leP_lin (h a (srt2_mem.1 ha)) (h b (srt2_mem.1 hb)) k
/-- What half and half again leave, but for the last one, which is the first one again. -/
def hullL (L : List Pt) : List Pt := ((upC L).reverse.dropLast ++ (dnC L).reverse).dropLast

theorem firstTo_mem {l : List Pt} (h : 0 < l.length) : ∀ k, k ≤ l.length → firstTo l k ∈ l
  | 0, _ => pat_inl h
  | k + 1, hk => by
    unfold firstTo
    split
    · exact pat_inl (by omega)
    · exact firstTo_mem h k (by omega)
theorem firstTo_min (l : List Pt) : ∀ k, ∀ i, i < k → begB (pat l i) (firstTo l k) = false
  | 0, i, h => by omega
  | k + 1, i, h => by
    unfold firstTo
    split
    · rename_i hb
      rcases Nat.lt_succ_iff_lt_or_eq.1 h with q | rfl
      · have h1 := firstTo_min l k i q
        rw [← Bool.not_eq_true, begB_iff] at h1 ⊢
        rw [begB_iff] at hb
        omega
      · rw [← Bool.not_eq_true, begB_iff]; omega
    · rename_i hb
      rcases Nat.lt_succ_iff_lt_or_eq.1 h with q | rfl
      · exact firstTo_min l k i q
      · simpa using hb
theorem mem_pat2 {l : List Pt} {x : Pt} (h : x ∈ l) : ∃ i, i < l.length ∧ pat l i = x := by
  obtain ⟨i, hi, e⟩ := List.getElem_of_mem h
  exact ⟨i, hi, by rw [← pat_eq hi, e]⟩
theorem bestTo_some (l : List Pt) (now : Pt) : ∀ k, k ≤ l.length → bestTo l now k = now ∨ (bestTo l now k ∈ l ∧ bestTo l now k ≠ now)
  | 0, _ => .inl rfl
  | k + 1, hk => by
    unfold bestTo
    split
    · exact bestTo_some l now k (by omega)
    · split
      · exact .inr ⟨pat_inl (by omega), ‹_›⟩
      · exact bestTo_some l now k (by omega)
theorem bestTo_next {l : List Pt} {now nx : Pt} (h : NextP l now nx) : ∀ k, k ≤ l.length → ∀ i, i < k → pat l i = nx → bestTo l now k = nx
  | 0, _, i, hi, _ => by omega
  | k + 1, hk, i, hi, he => by
    have hs := h.2.2
    unfold bestTo
    by_cases c1 : pat l k = now
    · rw [if_pos c1]
      rcases Nat.lt_succ_iff_lt_or_eq.1 hi with q | rfl
      · exact bestTo_next h k (by omega) i q he
      · exact absurd (c1.symm.trans he) h.1
    · rw [if_neg c1]
      by_cases c2 : pat l k = nx
      · rw [c2]
        rcases bestTo_some l now k (by omega) with q | ⟨q, q2⟩
        · rw [if_pos (by unfold takeB; simp [q])]
        · have k1 := hs _ q
          have r := turn_fl now nx (bestTo l now k)
          rw [if_pos]
          unfold takeB
          simp only [Bool.or_eq_true, Bool.and_eq_true, decide_eq_true_eq]
          rcases Int.lt_or_eq_of_le k1.1 with z | z
          · exact .inr (.inl (by omega))
          · exact .inr (.inr ⟨by omega, k1.2 z.symm⟩)
      · rcases Nat.lt_succ_iff_lt_or_eq.1 hi with q | rfl
        · have hb := bestTo_next h k (by omega) i q he
          rw [hb]
          have k1 := hs (pat l k) (pat_inl (by omega))
          rw [if_neg]
          unfold takeB
          simp only [Bool.or_eq_true, Bool.and_eq_true, decide_eq_true_eq]
          rintro (z | z | ⟨z, z2⟩)
          · exact h.1 z.symm
          · omega
          · exact c2 (has_two z2 (k1.2 z))
        · exact absurd he c2
theorem popst_le2 (p : Pt) : ∀ (st : List Pt), (popst st p).length ≤ st.length
  | [] => by simp [popst]
  | [c] => by simp [popst]
  | b :: a :: t => by
    by_cases k : turn a b p ≤ 0
    · rw [popst, if_pos k]
      have := popst_le2 p (a :: t)
      simp only [List.length_cons] at this ⊢
      omega
    · rw [popst, if_neg k]
      exact Nat.le_refl _
theorem fold_len (ps : List Pt) : ∀ st, (ps.foldl pushst st).length ≤ st.length + ps.length := by
  induction ps with
  | nil => intro st; simp
  | cons p ps ih =>
    intro st
    have h1 := ih (pushst st p)
    have h2 : (popst st p).length ≤ st.length := popst_le2 p st
    have h3 : (pushst st p).length = (popst st p).length + 1 := rfl
    simp only [List.foldl_cons, List.length_cons] at *
    omega
theorem line_coll {l : List Pt} : LineB l ↔ Coll l := by
  constructor
  · intro h a ha b hb c hc
    obtain ⟨i, hi, rfl⟩ := mem_pat2 ha
    obtain ⟨j, hj, rfl⟩ := mem_pat2 hb
    obtain ⟨k, hk, rfl⟩ := mem_pat2 hc
    have key : ∀ i j k, i < l.length → j < l.length → k < l.length → j < i → k < j → turn (pat l i) (pat l j) (pat l k) = 0 := fun i j k h1 _ _ h2 h3 => h i h1 j h2 k h3
    have t1 := turn_fl (pat l i) (pat l j) (pat l k)
    have t2 := turn_fl (pat l j) (pat l k) (pat l i)
    have t3 := turn_fl (pat l k) (pat l i) (pat l j)
    have r1 := turn_rot (pat l i) (pat l j) (pat l k)
    have r2 := turn_rot (pat l j) (pat l k) (pat l i)
    have r3 := turn_rot (pat l k) (pat l i) (pat l j)
    have s1 := turn_rot (pat l i) (pat l k) (pat l j)
    have s2 := turn_rot (pat l k) (pat l j) (pat l i)
    have s3 := turn_rot (pat l j) (pat l i) (pat l k)
    rcases Nat.lt_trichotomy i j with q | q | q
    · rcases Nat.lt_trichotomy j k with z | z | z
      · have := key k j i hk hj hi z q; omega
      · rw [z]; exact turn_abb _ _
      · rcases Nat.lt_trichotomy i k with y | y | y
        · have := key j k i hj hk hi z y; omega
        · rw [y, turn_aba]
        · have := key j i k hj hi hk q y; omega
    · rw [q]; exact turn_aab _ _
    · rcases Nat.lt_trichotomy j k with z | z | z
      · rcases Nat.lt_trichotomy i k with y | y | y
        · have := key k i j hk hi hj y q; omega
        · rw [y, turn_aba]
        · have := key i k j hi hk hj y z; omega
      · rw [z]; exact turn_abb _ _
      · exact key i j k hi hj hk q z
  · intro h i hi k hk j hj
    exact h _ (pat_inl hi) _ (pat_inl (by omega)) _ (pat_inl (by omega))
theorem coll_srt {l : List Pt} : Coll (srt2 l) ↔ Coll l :=
  ⟨fun h a ha b hb c hc => h a (srt2_mem.2 ha) b (srt2_mem.2 hb) c (srt2_mem.2 hc), fun h a ha b hb c hc => h a (srt2_mem.1 ha) b (srt2_mem.1 hb) c (srt2_mem.1 hc)⟩
theorem next_srt {l : List Pt} {a b : Pt} (h : NextP (srt2 l) a b) : NextP l a b := ⟨h.1, srt2_mem.1 h.2.1, fun s hs => h.2.2 s (srt2_mem.2 hs)⟩
theorem ring_at : ∀ {K : List Pt} {m : Nat}, m < K.length → (pat K m, pat K ((m + 1) % K.length)) ∈ ring K := fun {K m} hm => by
  obtain ⟨p, t, rfl⟩ : ∃ p t, K = p :: t := by
    cases K with
    | nil => simp at hm
    | cons p t => exact ⟨p, t, rfl⟩
  have key : ∀ (t : List Pt) (x z : Pt) (m : Nat), m < t.length + 1 → (pat (x :: t) m, pat (x :: (t ++ [z])) (m + 1)) ∈ chain x (t ++ [z]) := by
    intro t
    induction t with
    | nil => intro x z m h; obtain rfl : m = 0 := by simp at h; omega
             simp [chain, pat]
    | cons y t ih =>
      intro x z m h
      match m with
      | 0 => simp [chain, pat]
      | m + 1 =>
        have := ih y z m (by simp at h ⊢; omega)
        refine List.mem_cons_of_mem _ ?_
        simpa [pat] using this
  have h1 := key t p p m (by simpa using hm)
  unfold ring
  have e : pat (p :: t) ((m + 1) % (p :: t).length) = pat (p :: (t ++ [p])) (m + 1) := by
    rcases Nat.lt_or_ge (m + 1) (p :: t).length with q | q
    · rw [Nat.mod_eq_of_lt q]
      simp only [pat, List.getD_eq_getElem?_getD]
      rw [show p :: (t ++ [p]) = (p :: t) ++ [p] from rfl, List.getElem?_append_left q]
    · have e1 : m + 1 = (p :: t).length := by omega
      rw [e1, Nat.mod_self]
      simp only [pat, List.getD_eq_getElem?_getD]
      rw [show p :: (t ++ [p]) = (p :: t) ++ [p] from rfl, List.getElem?_append_right (Nat.le_refl _)]
      simp
  rw [e]
  exact h1
/-- Not all on one line: the hull as the reference finds it. -/
theorem hull_gift {l : List Pt} (hB : PtsB l) (hL : ¬ LineB l) : ∃ p0, HullOk (srt2 l) (hullL (srt2 l)) p0 ∧ Gift l (hullL (srt2 l)) ∧ 3 ≤ (hullL (srt2 l)).length := by
  have hpt : ∀ x ∈ l, isPt x = true := fun x hx => by
    obtain ⟨i, hi, rfl⟩ := mem_pat2 hx
    exact hB.2 i hi
  have hs := srt2_lin hpt
  have hi : Inj 1 1000 (srt2 l) := inj_lin fun x hx => hpt x (srt2_mem.1 hx)
  have hc : ¬ Coll (srt2 l) := fun h => hL (line_coll.2 (coll_srt.1 h))
  have hle := srt2_le l
  have hm : ∀ x, x ∈ srt2 l ↔ x ∈ l := fun x => srt2_mem
  have hn : ∀ a b, NextP (srt2 l) a b → NextP l a b := fun a b => next_srt
  have hlen := srt2_len l
  have hl10 := hB.1
  generalize srt2 l = L at *
  match L, hs, hi, hc, hle, hm, hn, hlen with
  | [], _, _, hc, _, _, _, _ => exact absurd (fun a ha => by simp at ha) hc
  | p0 :: ps, hs, hi, hc, hle, hm, hn, hlen =>
    have hd : ∃ x ∈ ps, x ≠ p0 := by
      refine Classical.byContradiction fun k => hc ?_
      have e : ∀ x ∈ p0 :: ps, x = p0 := fun x hx => by
        rcases List.mem_cons.1 hx with rfl | q
        · rfl
        · exact Classical.byContradiction fun z => k ⟨x, q, z⟩
      intro a ha b hb c hc
      rw [e a ha, e b hb, e c hc, turn_aab]
    obtain ⟨A, B, e1, e2, hK⟩ := hull_ok hs hi hd
    have eK : hullL (p0 :: ps) = p0 :: (A ++ lastP (p0 :: ps) :: B) := by
      unfold hullL
      rw [e1, e2]
      have : (p0 :: (A ++ [lastP (p0 :: ps)])).dropLast ++ lastP (p0 :: ps) :: (B ++ [p0]) = (p0 :: (A ++ lastP (p0 :: ps) :: B)) ++ [p0] := by
        rw [show p0 :: (A ++ [lastP (p0 :: ps)]) = (p0 :: A) ++ [lastP (p0 :: ps)] from rfl, List.dropLast_concat]
        simp
      rw [this, List.dropLast_concat]
    rw [← eK] at hK
    have h3 : 3 ≤ (hullL (p0 :: ps)).length := by
      refine Nat.lt_of_not_le fun k => hc (hK.coll.1 ?_)
      omega
    refine ⟨p0, hK, ⟨by omega, ?_, ?_, fun m hm2 => ?_, fun m h0 hm2 => ?_⟩, h3⟩
    · have l1 := fold_len (p0 :: ps) []
      have l2 := fold_len (p0 :: ps).dropLast.reverse [lastP (p0 :: ps)]
      unfold hullL upC dnC
      simp only [List.length_dropLast, List.length_append, List.length_reverse, List.length_cons, List.length_nil] at *
      omega
    · obtain ⟨t, et, _⟩ := hK.first
      rw [et]
      have hpos : 0 < l.length := by rw [← hlen]; simp
      have m1 := firstTo_mem hpos l.length (Nat.le_refl _)
      have h1 := (List.pairwise_cons.1 hle).1
      obtain ⟨i, hi2, ei⟩ := mem_pat2 ((hm p0).1 List.mem_cons_self)
      have h2 := firstTo_min l l.length i hi2
      rw [ei, ← Bool.not_eq_true, begB_iff] at h2
      show p0 = _
      rcases List.mem_cons.1 ((hm _).2 m1) with q | q
      · exact q.symm
      · have h4 := (leP_iff _ _).1 (h1 _ q)
        exact Prod.ext (by omega) (by omega)
    · have hx := hn _ _ (hK.ring_next _ (ring_at hm2))
      obtain ⟨i, hi2, ei⟩ := mem_pat2 hx.2.1
      exact bestTo_next hx l.length (Nat.le_refl _) i hi2 ei
    · obtain ⟨t, et, ht⟩ := hK.first
      rw [et] at hm2 ⊢
      match m, h0 with
      | m + 1, _ =>
        have hm3 : m < t.length := by simpa using hm2
        have := ht (pat t m) (pat_inl hm3)
        simpa [pat] using this
theorem hull_line {l : List Pt} (hB : PtsB l) (hL : LineB l) : (hullL (srt2 l)).length < 3 := by
  have hpt : ∀ x ∈ l, isPt x = true := fun x hx => by
    obtain ⟨i, hi, rfl⟩ := mem_pat2 hx
    exact hB.2 i hi
  have hs := srt2_lin hpt
  have hi : Inj 1 1000 (srt2 l) := inj_lin fun x hx => hpt x (srt2_mem.1 hx)
  have hc : Coll (srt2 l) := coll_srt.2 (line_coll.1 hL)
  generalize srt2 l = L at *
  match L, hs, hi, hc with
  | [], _, _, _ => simp [hullL, upC, dnC]
  | p0 :: ps, hs, hi, hc =>
    by_cases hd : ∃ x ∈ ps, x ≠ p0
    · obtain ⟨A, B, e1, e2, hK⟩ := hull_ok hs hi hd
      have eK : hullL (p0 :: ps) = p0 :: (A ++ lastP (p0 :: ps) :: B) := by
        unfold hullL
        rw [e1, e2]
        have : (p0 :: (A ++ [lastP (p0 :: ps)])).dropLast ++ lastP (p0 :: ps) :: (B ++ [p0]) = (p0 :: (A ++ lastP (p0 :: ps) :: B)) ++ [p0] := by
          rw [show p0 :: (A ++ [lastP (p0 :: ps)]) = (p0 :: A) ++ [lastP (p0 :: ps)] from rfl, List.dropLast_concat]
          simp
        rw [this, List.dropLast_concat]
      rw [← eK] at hK
      have := hK.coll.2 hc
      omega
    · have e : ∀ x ∈ p0 :: ps, x = p0 := fun x hx => by
        rcases List.mem_cons.1 hx with rfl | q
        · rfl
        · exact Classical.byContradiction fun z => hd ⟨x, q, z⟩
      have key : ∀ (qs st : List Pt), (∀ x ∈ qs, x = p0) → (st = [] ∨ st = [p0] ∨ st = [p0, p0]) → (qs.foldl pushst st).length ≤ 2 := by
        intro qs
        induction qs with
        | nil => intro st _ h; rcases h with rfl | rfl | rfl <;> simp
        | cons q qs ih =>
          intro st h1 h2
          have hq := h1 q List.mem_cons_self
          subst hq
          refine ih _ (fun x hx => h1 x (List.mem_cons_of_mem _ hx)) ?_
          rcases h2 with rfl | rfl | rfl
          · right; left; rfl
          · right; right; rfl
          · right; right
            unfold pushst
            rw [popst, if_pos (by rw [turn_aab]; omega)]
            rfl
      have l1 := key (p0 :: ps) [] e (.inl rfl)
      have l2 := key (p0 :: ps).dropLast.reverse [lastP (p0 :: ps)] (fun x hx => e x (List.dropLast_subset _ (List.mem_reverse.1 hx))) (.inr (.inl (by rw [e _ (lastP_mem (by simp))])))
      unfold hullL upC dnC
      simp only [List.length_dropLast, List.length_append, List.length_reverse] at *
      omega
end Go.Proofs.Ytijpolfmiajenaa
