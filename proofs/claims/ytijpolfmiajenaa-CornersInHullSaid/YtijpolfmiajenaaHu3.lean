/- Two chains, up and down, are the hull: its corners follow each other as they must; there are three unless all points are on one line. -/
import Derived.Test.YtijpolfmiajenaaHu2
namespace Go.Proofs.Ytijpolfmiajenaa

theorem lin_neg (α β : Int) (p : Pt) : lin (-α) (-β) p = - lin α β p := by simp only [lin]; grind
theorem fold_top : ∀ (ps : List Pt) (st : List Pt), ps ≠ [] → ∃ t, ps.foldl pushst st = (ps.getLast?.getD (0, 0)) :: t
  | [p], st, _ => ⟨popst st p, rfl⟩
  | p :: q :: ps, st, _ => by
    obtain ⟨t, h⟩ := fold_top (q :: ps) (pushst st p) (by simp)
    exact ⟨t, by rw [List.foldl_cons, h]; simp⟩
/-- The hull of points in their order: up to the last one, and back. -/
def upC (L : List Pt) : List Pt := L.foldl pushst []
def lastP (L : List Pt) : Pt := L.getLast?.getD (0, 0)
def dnC (L : List Pt) : List Pt := L.dropLast.reverse.foldl pushst [lastP L]
def Coll (L : List Pt) : Prop := ∀ a ∈ L, ∀ b ∈ L, ∀ c ∈ L, turn a b c = 0
section
variable {α β : Int}
theorem lastP_mem {L : List Pt} (h : L ≠ []) : lastP L ∈ L := by
  unfold lastP
  rw [List.getLast?_eq_some_getLast h]
  exact List.getLast_mem h
theorem sorted_last {L : List Pt} (hs : L.Pairwise fun a b => lin α β a ≤ lin α β b) (h : L ≠ []) : ∀ s ∈ L, lin α β s ≤ lin α β (lastP L) := fun s hs2 => by
  have e : L = L.dropLast ++ [lastP L] := by
    unfold lastP
    rw [List.getLast?_eq_some_getLast h]
    exact (List.dropLast_concat_getLast h).symm
  rw [e] at hs hs2
  rcases List.mem_append.1 hs2 with k | k
  · exact (List.pairwise_append.1 hs).2.2 s k _ (by simp)
  · rw [List.mem_singleton.1 k]; exact Int.le_refl _
theorem coll_of {a b c : Pt} {u v : Pt} (huv : lin α β u < lin α β v) (ha : turn u v a = 0) (hb : turn u v b = 0) (hc : turn u v c = 0) : turn a b c = 0 := by
  have e := tl α β u v a b c
  rw [ha, hb, hc, Int.mul_zero, Int.mul_zero, Int.mul_zero] at e
  exact zero_of_mul (show 0 < lin α β v - lin α β u by omega) (by omega)
/-- What is known of the hull. -/
structure HullOk (L K : List Pt) (p0 : Pt) : Prop where
  ring_next : ∀ e ∈ ring K, NextP L e.1 e.2
  first : ∃ t, K = p0 :: t ∧ ∀ x ∈ t, x ≠ p0
  coll : K.length ≤ 2 ↔ Coll L
  two : 2 ≤ K.length
theorem hull_ok {p0 : Pt} {ps : List Pt} (hs : (p0 :: ps).Pairwise fun a b => lin α β a ≤ lin α β b) (hinj : Inj α β (p0 :: ps)) (hd : ∃ x ∈ ps, x ≠ p0) :
    ∃ A B, (upC (p0 :: ps)).reverse = p0 :: (A ++ [lastP (p0 :: ps)]) ∧ (dnC (p0 :: ps)).reverse = lastP (p0 :: ps) :: (B ++ [p0]) ∧ HullOk (p0 :: ps) (p0 :: (A ++ lastP (p0 :: ps) :: B)) p0 := by
  obtain ⟨z, hz, hzp⟩ := hd
  have hl := sorted_last hs (by simp)
  have hlm := lastP_mem (L := p0 :: ps) (by simp)
  have hmin : ∀ s ∈ p0 :: ps, lin α β p0 ≤ lin α β s := fun s hs2 => by
    rcases List.mem_cons.1 hs2 with rfl | k
    · exact Int.le_refl _
    · exact (List.pairwise_cons.1 hs).1 s k
  have hzl : lin α β p0 < lin α β z := by
    have h1 := hmin z (List.mem_cons_of_mem _ hz)
    rcases Int.lt_or_le (lin α β p0) (lin α β z) with k | k
    · exact k
    · exact absurd (hinj z (List.mem_cons_of_mem _ hz) p0 List.mem_cons_self (by omega)) hzp
  have hpl : lin α β p0 < lin α β (lastP (p0 :: ps)) := by
    have := hl z (List.mem_cons_of_mem _ hz)
    omega
  generalize hm : lastP (p0 :: ps) = m at *
  -- the way up
  have m1 : ∀ s, s ∈ ps.reverse ++ [p0] ↔ s ∈ p0 :: ps := fun s => by simp [or_comm]
  have i1 : Inj α β (ps.reverse ++ [p0]) := fun a ha b hb => hinj a ((m1 a).1 ha) b ((m1 b).1 hb)
  have k1 : Stk α β (ps.reverse ++ [p0]) (upC (p0 :: ps)) := Stk.all ps (.inl ⟨Cv.one p0, by simp [pushst]⟩) i1 (List.pairwise_cons.1 hs).2 fun s hs2 p hp => by
    rw [List.mem_singleton.1 hs2]
    exact hmin p (List.mem_cons_of_mem _ hp)
  obtain ⟨t1, e1⟩ := fold_top (p0 :: ps) [] (by simp)
  have c1 : Cv α β (ps.reverse ++ [p0]) (upC (p0 :: ps)) := by
    rcases k1 with ⟨h, _⟩ | ⟨c, _, _, hc⟩
    · exact h
    · have a1 := hc z ((m1 z).2 (List.mem_cons_of_mem _ hz))
      have a2 := hc p0 ((m1 p0).2 List.mem_cons_self)
      exact absurd (a1.trans a2.symm) hzp
  have e1' : upC (p0 :: ps) = m :: t1 := by rw [← hm]; exact e1
  -- the way down
  have m2 : ∀ s, s ∈ (p0 :: ps).dropLast.reverse.reverse ++ [m] ↔ s ∈ p0 :: ps := fun s => by
    rw [List.reverse_reverse]
    have : (p0 :: ps).dropLast ++ [m] = p0 :: ps := by
      rw [← hm]
      unfold lastP
      rw [List.getLast?_eq_some_getLast (by simp)]
      exact List.dropLast_concat_getLast (by simp)
    rw [this]
  have i2 : Inj (-α) (-β) ((p0 :: ps).dropLast.reverse.reverse ++ [m]) := fun a ha b hb e => hinj a ((m2 a).1 ha) b ((m2 b).1 hb) (by rw [lin_neg, lin_neg] at e; omega)
  have k2 : Stk (-α) (-β) ((p0 :: ps).dropLast.reverse.reverse ++ [m]) (dnC (p0 :: ps)) := by
    have e : dnC (p0 :: ps) = (p0 :: ps).dropLast.reverse.foldl pushst [m] := by rw [← hm]; rfl
    rw [e]
    refine Stk.all _ (.inl ⟨Cv.one m, by simp⟩) i2 ?_ fun s hs2 p hp => ?_
    · rw [List.pairwise_reverse]
      refine (hs.sublist (List.dropLast_sublist _)).imp fun {a b} h => ?_
      rw [lin_neg, lin_neg]
      omega
    · rw [List.mem_singleton.1 hs2, lin_neg, lin_neg]
      have := hl p (List.dropLast_subset _ (List.mem_reverse.1 hp))
      omega
  have hps : ps ≠ [] := List.ne_nil_of_mem hz
  obtain ⟨t2, e2⟩ := fold_top (p0 :: ps).dropLast.reverse [m] (by
    cases ps with
    | nil => exact absurd rfl hps
    | cons q ps => simp)
  have c2 : Cv (-α) (-β) ((p0 :: ps).dropLast.reverse.reverse ++ [m]) (dnC (p0 :: ps)) := by
    rcases k2 with ⟨h, _⟩ | ⟨c, _, _, hc⟩
    · exact h
    · have a1 := hc z ((m2 z).2 (List.mem_cons_of_mem _ hz))
      have a2 := hc p0 ((m2 p0).2 List.mem_cons_self)
      exact absurd (a1.trans a2.symm) hzp
  have e2' : dnC (p0 :: ps) = p0 :: t2 := by
    have e : dnC (p0 :: ps) = (p0 :: ps).dropLast.reverse.foldl pushst [m] := by rw [← hm]; rfl
    rw [e, e2]
    cases ps with
    | nil => exact absurd rfl hps
    | cons q ps => simp
  -- the ends of both
  have end1 : ∃ A, (upC (p0 :: ps)).reverse = p0 :: (A ++ [m]) := by
    rcases List.eq_nil_or_concat t1 with rfl | ⟨A, x, rfl⟩
    · have := c1.bot m [] (by rw [e1']; rfl) p0 ((m1 p0).2 List.mem_cons_self)
      omega
    · rw [List.concat_eq_append] at e1'
      have b1 := c1.bot x (m :: A) (by rw [e1']; rfl) p0 ((m1 p0).2 List.mem_cons_self)
      have hx := (m1 x).1 (c1.sub x (by rw [e1']; simp))
      have := hinj x hx p0 List.mem_cons_self (by have := hmin x hx; omega)
      subst this
      exact ⟨A.reverse, by rw [e1']; simp⟩
  have end2 : ∃ B, (dnC (p0 :: ps)).reverse = m :: (B ++ [p0]) := by
    rcases List.eq_nil_or_concat t2 with rfl | ⟨B, x, rfl⟩
    · have := c2.bot p0 [] (by rw [e2']; rfl) m ((m2 m).2 hlm)
      rw [lin_neg, lin_neg] at this
      omega
    · rw [List.concat_eq_append] at e2'
      have b1 := c2.bot x (p0 :: B) (by rw [e2']; rfl) m ((m2 m).2 hlm)
      rw [lin_neg, lin_neg] at b1
      have hx := (m2 x).1 (c2.sub x (by rw [e2']; simp))
      have := hinj x hx m hlm (by have := hl x hx; omega)
      subst this
      exact ⟨B.reverse, by rw [e2']; simp⟩
  obtain ⟨A, hA⟩ := end1
  obtain ⟨B, hB⟩ := end2
  have nm : ∀ {S S' : List Pt} {a b : Pt}, (∀ s, s ∈ S ↔ s ∈ S') → NextP S a b → NextP S' a b := fun hm h => ⟨h.1, (hm _).1 h.2.1, fun s hs => h.2.2 s ((hm s).2 hs)⟩
  have n1 := c1.nexts i1 hA
  have n2 := c2.nexts i2 hB
  have er : ring (p0 :: (A ++ m :: B)) = chain p0 (A ++ [m]) ++ chain m (B ++ [p0]) := by
    show chain p0 (A ++ m :: B ++ [p0]) = _
    rw [show A ++ m :: B ++ [p0] = A ++ m :: (B ++ [p0]) by simp, chain_cut]
  refine ⟨A, B, hA, hB, ⟨fun e he => ?_, ⟨_, rfl, fun x hx => ?_⟩, ?_, by simp; omega⟩⟩
  · rw [er] at he
    rcases List.mem_append.1 he with k | k
    · exact nm m1 (n1 e k)
    · exact nm m2 (n2 e k)
  · have j1 := c1.inc
    have j2 := c2.inc
    have r1 := congrArg List.reverse hA
    have r2 := congrArg List.reverse hB
    rw [List.reverse_reverse] at r1 r2
    rw [r1] at j1
    rw [r2] at j2
    intro q
    subst q
    rcases List.mem_append.1 hx with k | k
    · rw [List.reverse_cons] at j1
      have := (List.pairwise_append.1 j1).2.2 x (by simp [k]) x (by simp)
      omega
    · rcases List.mem_cons.1 k with rfl | k
      · omega
      · have e : (m :: (B ++ [x])).reverse = x :: (m :: B).reverse := by simp
        rw [e] at j2
        have := (List.pairwise_cons.1 j2).1 x (by simp [k])
        omega
  · constructor
    · intro hlen
      have hA0 : A = [] ∧ B = [] := by
        simp only [List.length_cons, List.length_append] at hlen
        exact ⟨List.eq_nil_of_length_eq_zero (by omega), List.eq_nil_of_length_eq_zero (by omega)⟩
      obtain ⟨rfl, rfl⟩ := hA0
      have q1 := n1 (p0, m) (by simp [chain])
      have q2 := n2 (m, p0) (by simp [chain])
      have z : ∀ s ∈ p0 :: ps, turn p0 m s = 0 := fun s hs2 => by
        have a1 := (q1.2.2 s ((m1 s).2 hs2)).1
        have a2 := (q2.2.2 s ((m2 s).2 hs2)).1
        have := turn_neg p0 m s
        simp only at a1 a2
        omega
      intro a ha b hb c hc
      exact coll_of hpl (z a ha) (z b hb) (z c hc)
    · intro hc
      refine Nat.le_of_not_lt fun hlen => ?_
      simp only [List.length_cons, List.length_append] at hlen
      have big : ∀ {γ δ : Int} {S st : List Pt}, Cv γ δ S st → (∀ s ∈ S, s ∈ p0 :: ps) → 3 ≤ st.length → False := fun {γ δ S st} h hm hl => by
        match st, h, hl with
        | x :: y :: w :: t, h, _ =>
          have := (List.pairwise_cons.1 h.t3.1).1 w List.mem_cons_self
          have k := hc w (hm w (h.sub w (by simp))) y (hm y (h.sub y (by simp))) x (hm x (h.sub x (by simp)))
          omega
      have l1 := congrArg List.length hA
      have l2 := congrArg List.length hB
      simp only [List.length_reverse, List.length_cons, List.length_append, List.length_nil] at l1 l2
      by_cases hA1 : 0 < A.length
      · exact big c1 (fun s hs2 => (m1 s).1 hs2) (by omega)
      · exact big c2 (fun s hs2 => (m2 s).1 hs2) (by omega)
end
end Go.Proofs.Ytijpolfmiajenaa
