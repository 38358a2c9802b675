/- The hull of points, made of two chains: from each corner the next one has all points to the left of the way to it; it is the only such. -/
import Derived.Test.YtijpolfmiajenaaHul
import Derived.Test.YtijpolfmiajenaaWsd
namespace Go.Proofs.Ytijpolfmiajenaa

/-- From a the corner b is the next one. -/
def NextP (S : List Pt) (a b : Pt) : Prop := a ≠ b ∧ b ∈ S ∧ ∀ s ∈ S, 0 ≤ turn a b s ∧ (turn a b s = 0 → has a b s = true)
theorem has_two {a b c : Pt} (h1 : has a b c = true) (h2 : has a c b = true) : b = c := by
  have k1 := has_box h1
  have k2 := has_box h2
  exact Prod.ext (by omega) (by omega)
theorem turn_fl (a b c : Pt) : turn a c b = - turn a b c := by simp only [turn]; grind
theorem NextP.one {S : List Pt} {a b c : Pt} (h1 : NextP S a b) (h2 : NextP S a c) : b = c := by
  obtain ⟨a1, a2, a3⟩ := h1
  obtain ⟨b1, b2, b3⟩ := h2
  have k1 := a3 c b2
  have k2 := b3 b a2
  have r := turn_fl a b c
  exact has_two (k1.2 (by omega)) (k2.2 (by omega))
section
variable {α β : Int}
theorem T3.at_ : ∀ {u w : List Pt} {b a x : Pt}, T3 (u ++ b :: a :: w) → x ∈ u → 0 < turn a b x
  | [], w, b, a, x, _, hx => by simp at hx
  | y :: u, w, b, a, x, h, hx => by
    rcases List.mem_cons.1 hx with rfl | hx
    · have := (List.pairwise_append.1 h.1).2.1
      exact (List.pairwise_cons.1 this).1 a List.mem_cons_self
    · exact T3.at_ h.2 hx
theorem T3.at2 {u w : List Pt} {b a x : Pt} (h : T3 (u ++ b :: a :: w)) (hx : x ∈ w) : 0 < turn a b x := by
  have h2 := T3.drop u h
  have := (List.pairwise_cons.1 h2.1).1 x hx
  rw [← turn_rot x a b] at this
  exact this
/-- Each side of a chain leads to the next corner. -/
theorem Cv.next {S st u w : List Pt} {b a : Pt} (h : Cv α β S st) (hinj : Inj α β S) (e : st = u ++ b :: a :: w) : NextP S a b := by
  have hinc := h.inc
  have hsub := h.sub
  have ht3 := h.t3
  rw [e] at hinc hsub ht3
  have i2 := (List.pairwise_append.1 hinc).2.1
  have hab := (List.pairwise_cons.1 i2).1 a List.mem_cons_self
  have hbu := (List.pairwise_append.1 hinc).2.2
  have hed := h.ed.at_ e
  refine ⟨fun q => by rw [q] at hab; omega, hsub b (by simp), fun s hs => ⟨hed s hs, fun h0 => ?_⟩⟩
  have hsS := hs
  have lo : lin α β a ≤ lin α β s := Int.not_lt.1 fun k => by
    have hl : 2 ≤ (a :: w).length := by
      cases w with
      | nil => have := h.bot a (u ++ [b]) (by rw [e]; simp) s hs; omega
      | cons x w => simp
    obtain ⟨b', a', u', w', e2, k1, k2⟩ := between (α := α) (β := β) (a :: w) a w s rfl hl (by omega) fun d u0 he => h.bot d (u ++ b :: u0) (by rw [e, he]; simp) s hs
    have i3 := (List.pairwise_cons.1 i2).2
    rw [e2] at i3
    have i4 := (List.pairwise_append.1 i3).2.1
    have hlt := (List.pairwise_cons.1 i4).1 a' List.mem_cons_self
    have hw : ∀ x ∈ a :: w, lin α β x < lin α β a → 0 < turn a b x := fun x hx hlx => by
      rcases List.mem_cons.1 hx with rfl | hx
      · omega
      · exact ht3.at2 hx
    have ha'm : a' ∈ a :: w := by rw [e2]; simp
    have hb'm : b' ∈ a :: w := by rw [e2]; simp
    have p1 := hw a' ha'm (by omega)
    have hed2 := h.ed.at_ (u := u ++ b :: u') (w := w') (b := b') (a := a') (by rw [e, e2]; simp) s hs
    rcases Int.lt_or_le (lin α β s) (lin α β b') with q | q
    · have hb0 : 0 ≤ turn a b b' := by
        rcases Int.lt_or_le (lin α β b') (lin α β a) with z | z
        · exact Int.le_of_lt (hw b' hb'm z)
        · have : b' = a := by
            rcases List.mem_cons.1 hb'm with z2 | z2
            · exact z2
            · have := (List.pairwise_cons.1 (List.pairwise_cons.1 i2).2).1 b' z2; omega
          rw [this, turn_aba]
          omega
      have := left_mid2 (α := α) (β := β) hab hlt k1 k2 hed2 (Int.le_of_lt p1) hb0 (.inl ⟨q, p1⟩)
      omega
    · have : s = b' := hinj s hs b' (hsub b' (List.mem_append_right _ (List.mem_cons_of_mem _ hb'm))) (by omega)
      have := hw b' hb'm (by omega)
      rw [← ‹s = b'›] at this
      omega
  have hi : lin α β s ≤ lin α β b := Int.not_lt.1 fun k => by
    have hl : 2 ≤ (u ++ [b]).length := by
      cases u with
      | nil => have := h.top b (a :: w) (by rw [e]; rfl) s hs; omega
      | cons x u => simp
    obtain ⟨x, t, hx⟩ : ∃ x t, u ++ [b] = x :: t := by
      cases u with
      | nil => exact ⟨b, [], rfl⟩
      | cons x u => exact ⟨x, u ++ [b], rfl⟩
    obtain ⟨b', a', u', w', e2, k1, k2⟩ := between (α := α) (β := β) (u ++ [b]) x t s hx hl (h.top x (t ++ a :: w) (by rw [e, ← List.cons_append, ← hx]; simp) s hs) fun d u0 he => by
      have := List.append_inj_right' he (by simp)
      injection this with h1
      subst h1
      omega
    have i3 : (u ++ [b]).Pairwise fun b a => lin α β a < lin α β b := by
      rw [show u ++ b :: a :: w = (u ++ [b]) ++ a :: w by simp] at hinc
      exact (List.pairwise_append.1 hinc).1
    have i5 := i3
    rw [e2] at i3
    have hlt := (List.pairwise_cons.1 (List.pairwise_append.1 i3).2.1).1 a' List.mem_cons_self
    have hw : ∀ x ∈ u ++ [b], lin α β b < lin α β x → 0 < turn a b x := fun x hx hlx => by
      rcases List.mem_append.1 hx with hx | hx
      · exact ht3.at_ hx
      · rw [List.mem_singleton.1 hx] at hlx; omega
    have ha'm : a' ∈ u ++ [b] := by rw [e2]; simp
    have hb'm : b' ∈ u ++ [b] := by rw [e2]; simp
    have p1 := hw b' hb'm (by omega)
    have hed2 := h.ed.at_ (u := u') (w := w' ++ a :: w) (b := b') (a := a') (by rw [e, show u ++ b :: a :: w = (u ++ [b]) ++ a :: w by simp, e2]; simp) s hs
    rcases Int.lt_or_le (lin α β a') (lin α β s) with q | q
    · have ha0 : 0 ≤ turn a b a' := by
        rcases Int.lt_or_le (lin α β b) (lin α β a') with z | z
        · exact Int.le_of_lt (hw a' ha'm z)
        · have : a' = b := by
            rcases List.mem_append.1 ha'm with z2 | z2
            · have := (List.pairwise_append.1 i5).2.2 a' z2 b (by simp); omega
            · exact List.mem_singleton.1 z2
          rw [this, turn_abb]
          omega
      have := left_mid2 (α := α) (β := β) hab hlt k1 k2 hed2 ha0 (Int.le_of_lt p1) (.inr ⟨q, p1⟩)
      omega
    · have hsa : s = a' := hinj s hs a' (hsub a' (by
        rcases List.mem_append.1 ha'm with z | z
        · exact List.mem_append_left _ z
        · rw [List.mem_singleton.1 z]; simp)) (by omega)
      have := hw a' ha'm (by omega)
      rw [← hsa] at this
      omega
  exact between_of α β h0 lo hi hab
theorem chain_edges : ∀ (x : Pt) (t : List Pt) (e : Edge), e ∈ chain x t → ∃ u w, x :: t = u ++ e.1 :: e.2 :: w
  | x, [], e, h => by simp [chain] at h
  | x, y :: t, e, h => by
    rw [chain] at h
    rcases List.mem_cons.1 h with rfl | h
    · exact ⟨[], t, rfl⟩
    · obtain ⟨u, w, k⟩ := chain_edges y t e h
      exact ⟨x :: u, w, by rw [k]; rfl⟩
/-- All sides of a chain, from its bottom. -/
theorem Cv.nexts {S st : List Pt} (h : Cv α β S st) (hinj : Inj α β S) {x : Pt} {t : List Pt} (e : st.reverse = x :: t) : ∀ f ∈ chain x t, NextP S f.1 f.2 := fun f hf => by
  obtain ⟨u, w, k⟩ := chain_edges x t f hf
  refine h.next hinj (u := w.reverse) (w := u.reverse) ?_
  have := congrArg List.reverse (e.trans k)
  simpa using this
end
end Go.Proofs.Ytijpolfmiajenaa
