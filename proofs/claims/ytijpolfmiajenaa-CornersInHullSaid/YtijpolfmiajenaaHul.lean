/- A chain of points that goes around to the left, made by taking points in their order and striking those at which it would not turn to the left: all points are to the left of it. -/
import Derived.Test.YtijpolfmiajenaaTri
namespace Go.Proofs.Ytijpolfmiajenaa

/-- Points are struck from the top until the way to p turns to the left. -/
def popst : List Pt → Pt → List Pt
  | b :: a :: t, p => if turn a b p ≤ 0 then popst (a :: t) p else b :: a :: t
  | st, _ => st
def pushst (st : List Pt) (p : Pt) : List Pt := p :: popst st p
theorem tl (α β : Int) (a b p q v : Pt) : (lin α β b - lin α β a) * turn p q v = (lin α β q - lin α β p) * turn a b v - (lin α β q - lin α β v) * turn a b p - (lin α β v - lin α β p) * turn a b q := by
  simp only [lin, turn]; grind
theorem nn_of_mul {a b : Int} (ha : 0 < a) (h : 0 ≤ a * b) : 0 ≤ b := Int.not_lt.1 fun k => by
  have := Int.mul_neg_of_pos_of_neg ha k
  omega
section
variable {α β : Int}
/-- Four points in order, two turns to the left: the first with the last. -/
theorem left4 {a b c d : Pt} (h1 : lin α β a < lin α β b) (h2 : lin α β b < lin α β c) (h3 : lin α β c < lin α β d) (t1 : 0 < turn a b c) (t2 : 0 < turn b c d) : 0 < turn a b d ∧ 0 < turn a c d := by
  constructor
  · have e := tl α β a b b c d
    rw [turn_abb, Int.mul_zero, Int.sub_zero] at e
    have k1 := Int.mul_pos (show 0 < lin α β b - lin α β a by omega) t2
    have k2 := Int.mul_pos (show 0 < lin α β d - lin α β b by omega) t1
    exact pos_of_mul (show 0 < lin α β c - lin α β b by omega) (by omega)
  · have e := tl α β c d a b c
    have r : turn c d c = 0 := turn_aba c d
    have r1 : turn c d b = turn b c d := turn_rot b c d
    have r2 : turn c d a = turn a c d := turn_rot a c d
    rw [r, Int.mul_zero, r1, r2] at e
    have k1 := Int.mul_pos (show 0 < lin α β d - lin α β c by omega) t1
    have k2 := Int.mul_pos (show 0 < lin α β c - lin α β a by omega) t2
    have e2 : (lin α β b - lin α β c) * turn a c d = -((lin α β c - lin α β b) * turn a c d) := by rw [← Int.neg_mul, Int.neg_sub]
    exact pos_of_mul (show 0 < lin α β c - lin α β b by omega) (by omega)
/-- A point between two ends, to the left of them, is where both ends are. -/
theorem left_mid {a b p q v : Pt} (h1 : lin α β a < lin α β b) (h2 : lin α β p < lin α β q) (h3 : lin α β p ≤ lin α β v) (h4 : lin α β v ≤ lin α β q) (t1 : 0 ≤ turn p q v) (t2 : 0 ≤ turn a b p) (t3 : 0 ≤ turn a b q) : 0 ≤ turn a b v := by
  have e := tl α β a b p q v
  have k1 := Int.mul_nonneg (show 0 ≤ lin α β b - lin α β a by omega) t1
  have k2 := Int.mul_nonneg (show 0 ≤ lin α β q - lin α β v by omega) t2
  have k3 := Int.mul_nonneg (show 0 ≤ lin α β v - lin α β p by omega) t3
  exact nn_of_mul (show 0 < lin α β q - lin α β p by omega) (by omega)
theorem left_mid2 {a b p q v : Pt} (h1 : lin α β a < lin α β b) (h2 : lin α β p < lin α β q) (h3 : lin α β p ≤ lin α β v) (h4 : lin α β v ≤ lin α β q) (t1 : 0 ≤ turn p q v) (t2 : 0 ≤ turn a b p) (t3 : 0 ≤ turn a b q) (h : (lin α β v < lin α β q ∧ 0 < turn a b p) ∨ (lin α β p < lin α β v ∧ 0 < turn a b q)) : 0 < turn a b v := by
  have e := tl α β a b p q v
  have k1 := Int.mul_nonneg (show 0 ≤ lin α β b - lin α β a by omega) t1
  have k2 := Int.mul_nonneg (show 0 ≤ lin α β q - lin α β v by omega) t2
  have k3 := Int.mul_nonneg (show 0 ≤ lin α β v - lin α β p by omega) t3
  refine pos_of_mul (show 0 < lin α β q - lin α β p by omega) ?_
  rcases h with ⟨h5, h6⟩ | ⟨h5, h6⟩
  · have := Int.mul_pos (show 0 < lin α β q - lin α β v by omega) h6; omega
  · have := Int.mul_pos (show 0 < lin α β v - lin α β p by omega) h6; omega

/-- All threes of a chain (its top first) turn to the left. -/
def T3 : List Pt → Prop
  | [] => True
  | c :: t => t.Pairwise (fun b a => 0 < turn a b c) ∧ T3 t
/-- All points of S are to the left of each side of the chain. -/
def EdL (S : List Pt) : List Pt → Prop
  | b :: a :: t => (∀ s ∈ S, 0 ≤ turn a b s) ∧ EdL S (a :: t)
  | _ => True
/-- A chain over the points S, its top first. -/
structure Cv (α β : Int) (S st : List Pt) : Prop where
  inc : st.Pairwise fun b a => lin α β a < lin α β b
  sub : ∀ c ∈ st, c ∈ S
  t3 : T3 st
  ed : EdL S st
  top : ∀ c t, st = c :: t → ∀ s ∈ S, lin α β s ≤ lin α β c
  bot : ∀ c t, st = t ++ [c] → ∀ s ∈ S, lin α β c ≤ lin α β s
/-- Different points have different numbers. -/
def Inj (α β : Int) (S : List Pt) : Prop := ∀ a ∈ S, ∀ b ∈ S, lin α β a = lin α β b → a = b
/-- A point of S lies between two that follow each other. -/
theorem between : ∀ (st : List Pt) (c : Pt) (t : List Pt) (v : Pt), st = c :: t → 2 ≤ st.length → lin α β v ≤ lin α β c → (∀ d u, st = u ++ [d] → lin α β d ≤ lin α β v) → ∃ b a u w, st = u ++ b :: a :: w ∧ lin α β a ≤ lin α β v ∧ lin α β v ≤ lin α β b
  | _, c, [], v, rfl, h, _, _ => by simp at h
  | _, c, d :: t, v, rfl, _, h1, h2 => by
    rcases Int.lt_or_le (lin α β v) (lin α β d) with k | k
    · have hl : 2 ≤ (d :: t).length := by
        cases t with
        | nil => have := h2 d [c] rfl; omega
        | cons e t => simp
      obtain ⟨b, a, u, w, e, k1, k2⟩ := between (d :: t) d t v rfl hl (by omega) fun e u he => h2 e (c :: u) (by rw [he]; rfl)
      exact ⟨b, a, c :: u, w, by rw [e]; rfl, k1, k2⟩
    · exact ⟨c, d, [], t, rfl, k, h1⟩
theorem EdL.at_ {S : List Pt} : ∀ {st u w : List Pt} {b a : Pt}, EdL S st → st = u ++ b :: a :: w → ∀ s ∈ S, 0 ≤ turn a b s
  | _, [], w, b, a, h, rfl => h.1
  | _, [x], w, b, a, h, rfl => h.2.1
  | _, x :: y :: u, w, b, a, h, rfl => EdL.at_ (u := y :: u) (w := w) h.2 rfl
theorem EdL.tail {S : List Pt} {c : Pt} {t : List Pt} (h : EdL S (c :: t)) : EdL S t := by
  cases t with
  | nil => trivial
  | cons a t => exact h.2
theorem EdL.mono {S S' : List Pt} (hs : ∀ s ∈ S', s ∈ S) : ∀ {st : List Pt}, EdL S st → EdL S' st
  | [], _ => trivial
  | [_], _ => trivial
  | b :: a :: t, h => ⟨fun s hs' => h.1 s (hs s hs'), EdL.mono hs (st := a :: t) h.2⟩
/-- While points are struck: those that are struck lie to the left of the way from the top to p. -/
theorem pop_inv {p : Pt} : ∀ (st gone : List Pt), (st.Pairwise fun b a => lin α β a < lin α β b) → (∀ c ∈ st, lin α β c < lin α β p) → (∀ g ∈ gone, lin α β g < lin α β p) → (∀ c t, st = c :: t → ∀ g ∈ gone, lin α β c < lin α β g ∧ 0 ≤ turn c p g) →
    ∃ u, st = u ++ popst st p ∧ (∀ c t, popst st p = c :: t → ∀ g, g ∈ u ∨ g ∈ gone → lin α β c < lin α β g ∧ 0 ≤ turn c p g) ∧ (∀ b a t, popst st p = b :: a :: t → 0 < turn a b p)
  | [], gone, _, _, _, hg => ⟨[], rfl, fun c t h => by simp [popst] at h, fun b a t h => by simp [popst] at h⟩
  | [c], gone, _, _, _, hg => ⟨[], rfl, fun c' t h g hg' => by
      have h : [c] = c' :: t := h
      injection h with h1 h2
      subst h1
      exact hg c [] rfl g (hg'.resolve_left (by simp)), fun b a t h => by
      have h : [c] = b :: a :: t := h
      simp at h⟩
  | b :: a :: t, gone, hi, hp, hgp, hg => by
    by_cases k : turn a b p ≤ 0
    · have e : popst (b :: a :: t) p = popst (a :: t) p := by rw [popst, if_pos k]
      obtain ⟨i1, i2⟩ := List.pairwise_cons.1 hi
      have hab := i1 a List.mem_cons_self
      have hb := hp b List.mem_cons_self
      have ha := hp a (List.mem_cons_of_mem _ List.mem_cons_self)
      obtain ⟨u, u1, k1, k2⟩ := pop_inv (a :: t) (b :: gone) i2 (fun c hc => hp c (List.mem_cons_of_mem _ hc)) (fun g hg' => by
        rcases List.mem_cons.1 hg' with rfl | hg'
        · exact hb
        · exact hgp g hg') (fun c t' hc g hg' => by
        injection hc with hc1 hc2
        subst hc1
        have tb : 0 ≤ turn a p b := by
          have r : turn a p b = - turn a b p := by simp only [turn]; grind
          omega
        rcases List.mem_cons.1 hg' with rfl | hg'
        · exact ⟨hab, tb⟩
        · obtain ⟨g1, g2⟩ := hg b (a :: t) rfl g hg'
          refine ⟨by omega, ?_⟩
          have e := tl α β a p b p g
          rw [turn_abb, Int.mul_zero, Int.sub_zero] at e
          have m1 := Int.mul_nonneg (show 0 ≤ lin α β p - lin α β a by omega) g2
          have m2 := Int.mul_nonneg (show 0 ≤ lin α β p - lin α β g by have := hgp g hg'; omega) tb
          exact nn_of_mul (show 0 < lin α β p - lin α β b by omega) (by omega))
      rw [e]
      refine ⟨b :: u, by rw [List.cons_append, ← u1], fun c t' h g hg' => k1 c t' h g ?_, k2⟩
      rcases hg' with hg' | hg'
      · rcases List.mem_cons.1 hg' with rfl | hg'
        · exact .inr List.mem_cons_self
        · exact .inl hg'
      · exact .inr (List.mem_cons_of_mem _ hg')
    · have e : popst (b :: a :: t) p = b :: a :: t := by rw [popst, if_neg k]
      rw [e]
      exact ⟨[], rfl, fun c t' h g hg' => by injection h with h1 h2; subst h1; exact hg b _ rfl g (hg'.resolve_left (by simp)), fun b' a' t' h => by injection h with h1 h2; injection h2 with h2 h3; subst h1; subst h2; omega⟩
theorem T3.drop : ∀ (u : List Pt) {w : List Pt}, T3 (u ++ w) → T3 w
  | [], _, h => h
  | _ :: u, _, h => T3.drop u h.2
theorem EdL.drop {S : List Pt} : ∀ (u : List Pt) {w : List Pt}, EdL S (u ++ w) → EdL S w
  | [], _, h => h
  | _ :: u, _, h => EdL.drop u h.tail
/-- One point more, farther than all before. -/
theorem EdL.cons {S : List Pt} {p : Pt} : ∀ {st : List Pt}, EdL S st → (st.Pairwise fun b a => 0 < turn a b p) → EdL (p :: S) st
  | [], _, _ => trivial
  | [_], _, _ => trivial
  | b :: a :: t, h, hp => ⟨fun s hs => by
      rcases List.mem_cons.1 hs with rfl | hs
      · exact Int.le_of_lt ((List.pairwise_cons.1 hp).1 a List.mem_cons_self)
      · exact h.1 s hs, EdL.cons (st := a :: t) h.2 (List.pairwise_cons.1 hp).2⟩
theorem Cv.push {S st : List Pt} (h : Cv α β S st) (hne : st ≠ []) (hinj : Inj α β S) {p : Pt} (hp : ∀ s ∈ S, lin α β s < lin α β p) : Cv α β (p :: S) (pushst st p) := by
  obtain ⟨u, u1, u2, u3⟩ := pop_inv (α := α) (β := β) (p := p) st [] h.inc (fun c hc => hp c (h.sub c hc)) (fun g hg => by simp at hg) (fun c t _ g hg => by simp at hg)
  unfold pushst
  cases hw : popst st p with
  | nil =>
    exfalso
    match st, hne, hw with
    | [c], _, hw => simp [popst] at hw
    | b :: a :: t, _, hw =>
      have key : ∀ (t : List Pt) (c : Pt), popst (c :: t) p ≠ [] := by
        intro t
        induction t with
        | nil => intro c; simp [popst]
        | cons d t ih => intro c; rw [popst]; split; exact ih d; simp
      exact key _ _ hw
  | cons c w =>
    rw [hw] at u1 u2 u3
    have hst := u1
    have i1 := h.inc
    rw [hst] at i1
    have i2 := (List.pairwise_append.1 i1).2.1
    have i3 := (List.pairwise_append.1 i1).2.2
    have hcS : ∀ x ∈ c :: w, x ∈ S := fun x hx => h.sub x (by rw [hst]; exact List.mem_append_right _ hx)
    have t1 : T3 (c :: w) := T3.drop u (hst ▸ h.t3)
    have e1 : EdL S (c :: w) := EdL.drop u (hst ▸ h.ed)
    -- all threes with p
    have tp : (c :: w).Pairwise fun b a => 0 < turn a b p := by
      refine List.pairwise_cons.2 ⟨fun a ha => ?_, ?_⟩
      · cases w with
        | nil => simp at ha
        | cons d w =>
          have h0 := u3 c d w rfl
          rcases List.mem_cons.1 ha with rfl | ha
          · exact h0
          · have a1 := (List.pairwise_cons.1 (List.pairwise_cons.1 i2).2).1 a ha
            have a2 := (List.pairwise_cons.1 i2).1 d List.mem_cons_self
            have a3 := hp c (hcS c List.mem_cons_self)
            have a4 := (List.pairwise_cons.1 t1.1).1 a ha
            exact (left4 (α := α) (β := β) a1 a2 a3 a4 h0).2
      · refine List.Pairwise.imp_of_mem ?_ (List.Pairwise.and t1.1 (List.pairwise_cons.1 i2).2)
        intro b a hb ha hba
        have h0 : 0 < turn b c p := by
          cases w with
          | nil => simp at hb
          | cons d w =>
            have h0 := u3 c d w rfl
            rcases List.mem_cons.1 hb with rfl | hb
            · exact h0
            · have a1 := (List.pairwise_cons.1 (List.pairwise_cons.1 i2).2).1 b hb
              have a2 := (List.pairwise_cons.1 i2).1 d List.mem_cons_self
              have a3 := hp c (hcS c List.mem_cons_self)
              have a4 := (List.pairwise_cons.1 t1.1).1 b hb
              exact (left4 (α := α) (β := β) a1 a2 a3 a4 h0).2
        exact (left4 (α := α) (β := β) hba.2 ((List.pairwise_cons.1 i2).1 b hb) (hp c (hcS c List.mem_cons_self)) hba.1 h0).1
    have hcp := hp c (hcS c List.mem_cons_self)
    -- all points to the left of the new side
    have newE : ∀ s ∈ S, 0 ≤ turn c p s := fun s hs => by
      rcases Int.lt_or_le (lin α β c) (lin α β s) with k | k
      · -- beyond c: between two that were struck, or c
        have hl : 2 ≤ (u ++ [c]).length := by
          cases u with
          | nil => have := h.top c w hst s hs; omega
          | cons x u => simp
        obtain ⟨x, t, hx⟩ : ∃ x t, u ++ [c] = x :: t := by
          cases u with
          | nil => exact ⟨c, [], rfl⟩
          | cons x u => exact ⟨x, u ++ [c], rfl⟩
        obtain ⟨b, a, u', w', e2, k1, k2⟩ := between (α := α) (β := β) (u ++ [c]) x t s hx hl (by
          have : st = x :: (t ++ w) := by rw [hst, ← List.cons_append, ← hx]; simp
          exact h.top x _ this s hs) fun d u0 he => by
          have := List.append_inj_right' he (by simp)
          injection this with h1
          subst h1
          omega
        have eb : 0 ≤ turn a b s := h.ed.at_ (u := u') (w := w' ++ w) (by rw [hst, show u ++ c :: w = u ++ [c] ++ w by simp, e2]; simp) s hs
        have hg : ∀ x ∈ u ++ [c], 0 ≤ turn c p x := fun x hx => by
          rcases List.mem_append.1 hx with q | q
          · exact (u2 c w rfl x (.inl q)).2
          · rw [List.mem_singleton.1 q, turn_aba]; omega
        have ib : lin α β a < lin α β b := by
          have : (u ++ [c]).Pairwise fun b a => lin α β a < lin α β b := by
            rw [show u ++ c :: w = (u ++ [c]) ++ w by simp] at i1
            exact (List.pairwise_append.1 i1).1
          rw [e2] at this
          exact (List.pairwise_cons.1 (List.pairwise_append.1 this).2.1).1 a List.mem_cons_self
        exact left_mid (α := α) (β := β) hcp ib k1 k2 eb (hg a (by rw [e2]; simp)) (hg b (by rw [e2]; simp))
      · -- up to c: between two that are left
        cases w with
        | nil =>
          have := h.bot c u (by rw [hst]) s hs
          rw [hinj s hs c (hcS c List.mem_cons_self) (by omega), turn_aba]
          omega
        | cons d w =>
          obtain ⟨b, a, u', w', e2, k1, k2⟩ := between (α := α) (β := β) (c :: d :: w) c (d :: w) s rfl (by simp) k fun x u0 he => h.bot x (u ++ u0) (by rw [hst, he]; simp) s hs
          have eb : 0 ≤ turn a b s := e1.at_ e2 s hs
          have hg : ∀ x ∈ c :: d :: w, 0 ≤ turn c p x := fun x hx => by
            rcases List.mem_cons.1 hx with rfl | hx
            · rw [turn_aba]; omega
            · have := (List.pairwise_cons.1 tp).1 x hx
              rw [turn_rot x c p]
              omega
          have ib : lin α β a < lin α β b := by
            rw [e2] at i2
            exact (List.pairwise_cons.1 (List.pairwise_append.1 i2).2.1).1 a List.mem_cons_self
          exact left_mid (α := α) (β := β) hcp ib k1 k2 eb (hg a (by rw [e2]; simp)) (hg b (by rw [e2]; simp))
    refine ⟨List.pairwise_cons.2 ⟨fun x hx => hp x (hcS x hx), i2⟩, fun x hx => ?_, ⟨tp, t1⟩, ⟨fun s hs => ?_, e1.cons tp⟩, fun x t e s hs => ?_, fun x t e s hs => ?_⟩
    · rcases List.mem_cons.1 hx with rfl | hx
      · exact List.mem_cons_self
      · exact List.mem_cons_of_mem _ (hcS x hx)
    · rcases List.mem_cons.1 hs with rfl | hs
      · rw [turn_abb]; omega
      · exact newE s hs
    · injection e with e1 e2
      subst e1
      rcases List.mem_cons.1 hs with rfl | hs
      · exact Int.le_refl _
      · exact Int.le_of_lt (hp s hs)
    · cases t with
      | nil => simp at e
      | cons y t =>
        injection e with _ e2
        have hx : x ∈ S := hcS x (by rw [e2]; simp)
        rcases List.mem_cons.1 hs with rfl | hs
        · exact Int.le_of_lt (hp x hx)
        · exact h.bot x (u ++ t) (by rw [hst, e2]; simp) s hs
theorem Cv.one (c : Pt) : Cv α β [c] [c] := by
  refine ⟨by simp, fun x hx => hx, ⟨by simp, trivial⟩, trivial, fun x t e s hs => ?_, fun x t e s hs => ?_⟩
  · injection e with e1 _
    subst e1
    rw [List.mem_singleton.1 hs]
    exact Int.le_refl _
  · cases t with
    | nil => injection e with e1 _; subst e1; rw [List.mem_singleton.1 hs]; exact Int.le_refl _
    | cons y t => simp at e
/-- The top again: nothing changes. -/
theorem push_same {S st : List Pt} (h : Cv α β S st) {c d : Pt} {t : List Pt} (e : st = c :: d :: t) : pushst st c = st := by
  subst e
  unfold pushst
  rw [popst, if_pos (by rw [turn_abb]; omega)]
  cases t with
  | nil => rfl
  | cons a t =>
    have := (List.pairwise_cons.1 h.t3.1).1 a List.mem_cons_self
    rw [popst, if_neg (by omega)]
theorem Cv.cons_same {S st : List Pt} (h : Cv α β S st) {p : Pt} (hp : p ∈ S) : Cv α β (p :: S) st := by
  have hm : ∀ s ∈ p :: S, s ∈ S := fun s hs => by
    rcases List.mem_cons.1 hs with rfl | hs
    · exact hp
    · exact hs
  exact ⟨h.inc, fun c hc => List.mem_cons_of_mem _ (h.sub c hc), h.t3, h.ed.mono hm, fun c t e s hs => h.top c t e s (hm s hs), fun c t e s hs => h.bot c t e s (hm s hs)⟩
/-- The stack: a chain, or one point twice. -/
def Stk (α β : Int) (S st : List Pt) : Prop := (Cv α β S st ∧ st ≠ []) ∨ ∃ c, st = [c, c] ∧ S ≠ [] ∧ ∀ s ∈ S, s = c
theorem Stk.push {S st : List Pt} (h : Stk α β S st) {p : Pt} (hinj : Inj α β (p :: S)) (hp : ∀ s ∈ S, lin α β s ≤ lin α β p) : Stk α β (p :: S) (pushst st p) := by
  have hinj2 : Inj α β S := fun a ha b hb => hinj a (List.mem_cons_of_mem _ ha) b (List.mem_cons_of_mem _ hb)
  rcases h with ⟨h, hne⟩ | ⟨c, rfl, hS, hc⟩
  · obtain ⟨c, t, hst⟩ : ∃ c t, st = c :: t := by
      cases st with
      | nil => exact absurd rfl hne
      | cons c t => exact ⟨c, t, rfl⟩
    have hcS := h.sub c (by rw [hst]; exact List.mem_cons_self)
    have hcp := hp c hcS
    rcases Int.lt_or_le (lin α β c) (lin α β p) with k | k
    · exact .inl ⟨h.push hne hinj2 fun s hs => by have := h.top c t hst s hs; omega, by unfold pushst; simp⟩
    · have e : p = c := hinj p List.mem_cons_self c (List.mem_cons_of_mem _ hcS) (by omega)
      subst e
      cases t with
      | nil =>
        refine .inr ⟨p, by rw [hst]; rfl, by simp, fun s hs => ?_⟩
        rcases List.mem_cons.1 hs with rfl | hs
        · rfl
        · have a1 := h.top p [] hst s hs
          have a2 := h.bot p [] (by rw [hst]; rfl) s hs
          exact hinj2 s hs p hcS (by omega)
      | cons d t =>
        rw [push_same h hst]
        exact .inl ⟨h.cons_same hcS, hne⟩
  · obtain ⟨s0, hs0⟩ := List.exists_mem_of_ne_nil _ hS
    have hcS : c ∈ S := hc s0 hs0 ▸ hs0
    have e1 : popst [c, c] p = [c] := by rw [popst, if_pos (by rw [turn_aab]; omega)]; rfl
    have e2 : popst [c] p = [c] := rfl
    have e3 : pushst [c, c] p = pushst [c] p := by unfold pushst; rw [e1, e2]
    rw [e3]
    have h1 : Cv α β S [c] := by
      refine ⟨by simp, fun x hx => by rw [List.mem_singleton.1 hx]; exact hcS, ⟨by simp, trivial⟩, trivial, fun x t e s hs => ?_, fun x t e s hs => ?_⟩
      · injection e with e1 _
        subst e1
        rw [hc s hs]
        exact Int.le_refl _
      · cases t with
        | nil => injection e with e1 _; subst e1; rw [hc s hs]; exact Int.le_refl _
        | cons y t => simp at e
    rcases Int.lt_or_le (lin α β c) (lin α β p) with k | k
    · exact .inl ⟨h1.push (by simp) hinj2 fun s hs => by rw [hc s hs]; exact k, by unfold pushst; simp⟩
    · have e : p = c := hinj p List.mem_cons_self c (List.mem_cons_of_mem _ hcS) (by have := hp c hcS; omega)
      subst e
      refine .inr ⟨p, rfl, by simp, fun s hs => ?_⟩
      rcases List.mem_cons.1 hs with rfl | hs
      · rfl
      · exact hc s hs
/-- All points in their order. -/
theorem Stk.all : ∀ (ps : List Pt) {S st : List Pt}, Stk α β S st → Inj α β (ps.reverse ++ S) → (ps.Pairwise fun a b => lin α β a ≤ lin α β b) → (∀ s ∈ S, ∀ p ∈ ps, lin α β s ≤ lin α β p) → Stk α β (ps.reverse ++ S) (ps.foldl pushst st)
  | [], _, _, h, _, _, _ => h
  | p :: ps, S, st, h, hi, hs, hb => by
    rw [List.foldl_cons, List.reverse_cons, List.append_assoc, List.singleton_append]
    rw [List.reverse_cons, List.append_assoc, List.singleton_append] at hi
    obtain ⟨s1, s2⟩ := List.pairwise_cons.1 hs
    refine Stk.all ps (h.push (fun a ha b hb => hi a (List.mem_append_right _ ha) b (List.mem_append_right _ hb)) fun s hs => hb s hs p List.mem_cons_self) hi s2 fun s hs q hq => ?_
    rcases List.mem_cons.1 hs with rfl | hs
    · exact s1 q hq
    · exact hb s hs q (List.mem_cons_of_mem _ hq)
end
end Go.Proofs.Ytijpolfmiajenaa
