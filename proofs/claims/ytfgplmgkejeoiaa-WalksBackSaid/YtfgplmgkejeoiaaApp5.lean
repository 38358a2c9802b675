/- An append of points or numbers to an empty slice that was just made, for a nil slice too. -/
import Derived.Test.YtfgplmgkejeoiaaReach
namespace Go.Proofs.Ytfgplmgkejeoiaa
open Go.RowKit

theorem wpList_copy_pts {ops : Array Oper} {rest : List Oper} {o : Oper} {a : Act} {X : World} {Q : Exit → Act → World → Prop} (hgd : o.guard = none) (s x : Operand) (ho : o.op = .call { callee := .builtin .append, args := #[s, x], argTypes := #[22, 22] })
    (B : Option Addr) (cb : Nat) (m : List Pt) (hs : a.eval s = .slice (some ⟨X.heap.size, 0, none⟩) 0 0) (hx : a.eval x = .slice B m.length cb) (hc : B = none → cb = 0) (hP : Pts X B m) (hl : m.length ≤ 1000000)
    (h : ∀ A' ca' w', Pts w' A' m → Below X.heap.size X w' → (A' = none → ca' = 0) → wpList Try.prog ops Q rest (a.put o.dst (.slice A' m.length ca')) w') : wpList Try.prog ops Q (o :: rest) a (X.alloc (.cells #[] 31)) := by
  obtain ⟨i0, hi, hz0, hz1, hz2⟩ := info_parts infoPt
  have hmade := World.ownsRow_made (base := X.heap.size) (e := 31) (size := 2) X #[] 0 (Nat.le_refl _) (by decide) rfl
  rcases B with _ | ad
  · have h0 := hP.nil
    have h1 := hc rfl
    subst h0; subst h1
    refine wpList_append_own_none hgd s x 22 ho X.heap.size 31 i0 2 undPts hi _ 0 [] hs hmade hx ?_
    exact h _ _ _ (.inl rfl) (bl_alloc (Below.refl _ _)) (fun e => by cases e)
  · refine wpList_append_own _ hgd s x 22 ho X.heap.size 31 i0 _ 2 16 undPts hi hz0 hz1 hz2 rfl (by decide) _ 0 [] hs hmade ad m.length cb (ptsV m) hx (ptsV_len m) (hP.alloc _).cellsV (ptsV_one m) (by unfold maxLen; omega) (by omega) (by simp) ?_
    intro v' w1 hown hgrow hnil
    have hb : Below X.heap.size X w1 := bl_grown (bl_alloc (Below.refl _ _)) hmade hgrow
    rw [Nat.zero_add, List.nil_append] at hown
    obtain ⟨_, A', ca', rfl, hP'⟩ := own_parts hown
    refine h _ _ _ hP' hb fun e => ?_
    subst e
    rcases hown.2 with ⟨e, _⟩ | ⟨g, cap, cur, e, _⟩
    · simp only [Value.slice.injEq] at e; exact e.2.2
    · simp at e
theorem wpList_copy_ints {ops : Array Oper} {rest : List Oper} {o : Oper} {a : Act} {X : World} {Q : Exit → Act → World → Prop} (hgd : o.guard = none) (s x : Operand) (ho : o.op = .call { callee := .builtin .append, args := #[s, x], argTypes := #[37, 37] })
    (B : Option Addr) (cb : Nat) (m : List Int) (hs : a.eval s = .slice (some ⟨X.heap.size, 0, none⟩) 0 0) (hx : a.eval x = .slice B m.length cb) (hc : B = none → cb = 0) (hP : Ints X B m) (hl : m.length ≤ 1000000)
    (h : ∀ A' ca' w', Ints w' A' m → Below X.heap.size X w' → (A' = none → ca' = 0) → wpList Try.prog ops Q rest (a.put o.dst (.slice A' m.length ca')) w') : wpList Try.prog ops Q (o :: rest) a (X.alloc (.cells #[] 3)) := by
  obtain ⟨i0, hi, hz0, hz1, hz2⟩ := info_parts infoInt
  have hmade := World.ownsRow_made (base := X.heap.size) (e := 3) (size := 1) X #[] 0 (Nat.le_refl _) (by decide) rfl
  rcases B with _ | ad
  · have h0 := hP.nil
    have h1 := hc rfl
    subst h0; subst h1
    refine wpList_append_own_none hgd s x 37 ho X.heap.size 3 i0 1 undInts hi _ 0 [] hs hmade hx ?_
    exact h _ _ _ (.inl rfl) (bl_alloc (Below.refl _ _)) (fun e => by cases e)
  · refine wpList_append_own _ hgd s x 37 ho X.heap.size 3 i0 _ 1 8 undInts hi hz0 hz1 hz2 rfl (by decide) _ 0 [] hs hmade ad m.length cb (intsV m) hx (intsV_len m) (hP.alloc _).cellsV (intsV_one m) (by unfold maxLen; omega) (by omega) (by simp) ?_
    intro v' w1 hown hgrow hnil
    have hb : Below X.heap.size X w1 := bl_grown (bl_alloc (Below.refl _ _)) hmade hgrow
    rw [Nat.zero_add, List.nil_append] at hown
    obtain ⟨_, A', ca', rfl, hP', _⟩ := own_ints hown
    refine h _ _ _ hP' hb fun e => ?_
    subst e
    rcases hown.2 with ⟨e, _⟩ | ⟨g, cap, cur, e, _⟩
    · simp only [Value.slice.injEq] at e; exact e.2.2
    · simp at e
end Go.Proofs.Ytfgplmgkejeoiaa
