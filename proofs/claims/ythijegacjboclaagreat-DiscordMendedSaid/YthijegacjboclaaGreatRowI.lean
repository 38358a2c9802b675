/- A row of numbers that a call owns. -/
import Derived.Test.YthijegacjboclaaGreatInts
import Derived.Maps.AppendAt
namespace Go.Proofs.YthijegacjboclaaGreat
open Go.RowKit

theorem intsV_snoc (l : List Int) (n : Int) : intsV l ++ [(Value.int .i64 (n))] = intsV (l ++ [n]) := by simp [intsV]
def RowI (w : World) (B : Nat) (v : Value) (l : List Int) : Prop := w.ownsRow B 3 1 v l.length (intsV l)
theorem RowI.below {w w' : World} {B : Nat} {v : Value} {l : List Int} (h : RowI w B v l) (hb : Below w.heap.size w w') : RowI w' B v l := own_below h hb
theorem rowI_nil (w : World) (B : Nat) : RowI w B (.slice none 0 0) [] := World.ownsRow_nil _ _ _ _
theorem RowI.snoc {w : World} {B n : Nat} {v : Value} {l : List Int} {x : Int} (h : w.ownsRow B 3 1 v (n + 1) (intsV l ++ [(Value.int .i64 (x))])) (hn : n = l.length) : RowI w B v (l ++ [x]) := by
  unfold RowI
  subst hn
  rw [← intsV_snoc, List.length_append]
  exact h
theorem RowI.parts {w : World} {B : Nat} {v : Value} {l : List Int} (h : RowI w B v l) : ∃ A ca, v = .slice A l.length ca ∧ Ints w A l := by
  obtain ⟨-, A, ca, h1, h2, -⟩ := own_ints h
  exact ⟨A, ca, h1, h2⟩
theorem one_int (n : Int) : ∀ u ∈ [(Value.int .i64 (n))], u.oneCell' = true := fun u hu => by rw [List.mem_singleton.1 hu]; rfl
end Go.Proofs.YthijegacjboclaaGreat
