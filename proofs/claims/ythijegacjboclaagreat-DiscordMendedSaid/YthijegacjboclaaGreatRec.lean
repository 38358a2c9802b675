/- Slices of records of numbers in memory, as rows of cells, for any width. -/
import Derived.Test.YthijegacjboclaaGreatJOwn
import Derived.Deep.AppendLies
namespace Go.Proofs.YthijegacjboclaaGreat
open Go.RowKit

section
variable {α : Type} {enc : α → List Int}
/-- The cells of records, one behind the other. -/
def recV (enc : α → List Int) : List α → List Value
  | [] => []
  | a :: l => (enc a).map (fun n => (Value.int .i64 (n))) ++ recV enc l
theorem recV_len {K : Nat} (hK : ∀ a, (enc a).length = K) : ∀ l : List α, (recV enc l).length = l.length * K
  | [] => by simp [recV]
  | a :: l => by
    have := recV_len hK l
    rw [recV, List.length_append, List.length_map, hK, this, List.length_cons, Nat.succ_mul]
    omega
theorem recV_append : ∀ (l m : List α), recV enc (l ++ m) = recV enc l ++ recV enc m
  | [], m => rfl
  | a :: l, m => by rw [List.cons_append, recV, recV, recV_append l m, List.append_assoc]
theorem recV_one : ∀ (l : List α), ∀ u ∈ recV enc l, u.oneCell' = true
  | [], u, h => by simp [recV] at h
  | a :: l, u, h => by
    rw [recV, List.mem_append, List.mem_map] at h
    rcases h with ⟨n, _, rfl⟩ | h
    · rfl
    · exact recV_one l u h
theorem recV_at {K : Nat} (hK : ∀ a, (enc a).length = K) : ∀ (l : List α) (i j : Nat) (a : α), l[i]? = some a → j < K → (recV enc l)[i * K + j]? = ((enc a)[j]?).map fun n => (Value.int .i64 (n))
  | [], i, j, a, h, _ => by simp at h
  | b :: l, 0, j, a, h, hj => by
    simp only [List.getElem?_cons_zero, Option.some.injEq] at h
    subst h
    rw [recV, Nat.zero_mul, Nat.zero_add, List.getElem?_append_left (by rw [List.length_map, hK]; exact hj), List.getElem?_map]
  | b :: l, i + 1, j, a, h, hj => by
    simp only [List.getElem?_cons_succ] at h
    rw [recV, List.getElem?_append_right (by rw [List.length_map, hK, Nat.succ_mul]; omega), List.length_map, hK, show (i + 1) * K + j - K = i * K + j by rw [Nat.succ_mul]; omega]
    exact recV_at hK l i j a h hj
/-- From address b, o on the cells hold the records of l. -/
structure RecAt (enc : α → List Int) (w : World) (b o : Nat) (l : List α) : Prop where
  lt : b < w.heap.size
  x : ∀ j u, (recV enc l)[j]? = some u → w.cell? ⟨b, o + j, none⟩ = some u
def Recs (enc : α → List Int) (w : World) (A : Option Addr) (l : List α) : Prop := l = [] ∨ ∃ b o, A = some ⟨b, o, none⟩ ∧ RecAt enc w b o l
theorem RecAt.below {w w' : World} {b o : Nat} {l : List α} (h : RecAt enc w b o l) (hb : Below w.heap.size w w') : RecAt enc w' b o l :=
  ⟨Nat.lt_of_lt_of_le h.lt hb.size, fun j u hj => (hb.cell (p := ⟨b, _, none⟩) h.lt).trans (h.x j u hj)⟩
theorem Recs.below {w w' : World} {A : Option Addr} {l : List α} (h : Recs enc w A l) (hb : Below w.heap.size w w') : Recs enc w' A l := by
  rcases h with h | ⟨b, o, hA, h⟩
  · exact .inl h
  · exact .inr ⟨b, o, hA, h.below hb⟩
theorem Recs.alloc {w : World} {A : Option Addr} {l : List α} (h : Recs enc w A l) (o : Obj) : Recs enc (w.alloc o) A l := h.below ((Below.refl _ w).alloc (Nat.le_refl _) o)
theorem Recs.at_ {w : World} {A : Option Addr} {l : List α} (h : Recs enc w A l) {k : Nat} (hk : k < l.length) : ∃ b o, A = some ⟨b, o, none⟩ ∧ RecAt enc w b o l := by
  rcases h with h | h
  · rw [h] at hk; exact absurd hk (by simp)
  · exact h
theorem Recs.fix {w : World} {b o : Nat} {l : List α} (h : Recs enc w (some ⟨b, o, none⟩) l) {k : Nat} (hk : k < l.length) : RecAt enc w b o l := by
  obtain ⟨b', o', e, p⟩ := h.at_ hk
  cases e
  exact p
theorem Recs.nil {w : World} {l : List α} (h : Recs enc w none l) : l = [] := by
  rcases h with h | ⟨b, o, h, _⟩
  · exact h
  · cases h
theorem RecAt.cell {K : Nat} (hK : ∀ a, (enc a).length = K) {w : World} {b o : Nat} {l : List α} (h : RecAt enc w b o l) {i j : Nat} {a : α} (hi : l[i]? = some a) (hj : j < K) {n : Int} (hn : (enc a)[j]? = some n) : w.cell? ⟨b, o + (i * K + j), none⟩ = some (Value.int .i64 (n)) :=
  h.x _ _ (by rw [recV_at hK l i j a hi hj, hn]; rfl)
theorem Recs.cellsV {w : World} {ad : Addr} {l : List α} (h : Recs enc w (some ad) l) : ∀ j u, (recV enc l)[j]? = some u → w.cell? (ad.add j) = some u := by
  rcases h with rfl | ⟨b, o, h, hp⟩
  · intro j u hj; simp [recV] at hj
  · cases h
    intro j u hj
    rw [add_at]
    exact hp.x j u hj
theorem recAt_own {K : Nat} {w : World} {B g ca n : Nat} {e : TypeId} {l : List α} (h : w.ownsRow B e K (.slice (some ⟨g, 0, none⟩) n ca) n (recV enc l)) : RecAt enc w g 0 l := by
  have hc := h.cells (g := g) rfl
  refine ⟨(h.lt g rfl).2, fun j u hj => ?_⟩
  have := hc j u hj
  rwa [add_at] at this
/-- A slice that owns its records, as a slice in memory. -/
theorem ownR_parts {K : Nat} (hK : ∀ a, (enc a).length = K) (hp : 0 < K) {w : World} {B n : Nat} {e : TypeId} {v : Value} {l : List α} (h : w.ownsRow B e K v n (recV enc l)) : n = l.length ∧ ∃ A ca, v = .slice A l.length ca ∧ Recs enc w A l := by
  have hn : n = l.length := by
    have h1 := h.1
    rw [recV_len hK] at h1
    exact (Nat.eq_of_mul_eq_mul_right hp h1).symm
  subst hn
  refine ⟨rfl, ?_⟩
  rcases h.2 with ⟨rfl, h0⟩ | ⟨g, cap, cur, rfl, hr⟩
  · refine ⟨none, 0, by rw [h0], .inl (List.eq_nil_of_length_eq_zero h0)⟩
  · exact ⟨_, _, rfl, .inr ⟨_, _, rfl, recAt_own h⟩⟩
theorem Recs.step {W W' : World} {A : Option Addr} {l : List α} (h : Recs enc W A l) (hs : ∀ (k : Nat) (o : Obj), W.heap[k]? = some o → o.isCells = true → W'.heap[k]? = some o) (hz : W.heap.size ≤ W'.heap.size) : Recs enc W' A l := by
  rcases h with h | ⟨b, o, rfl, hI⟩
  · exact .inl h
  · refine .inr ⟨b, o, rfl, Nat.lt_of_lt_of_le hI.lt hz, fun j u hj => ?_⟩
    have h1 := hI.x j u hj
    obtain ⟨ob, h2, h3⟩ : ∃ ob, W.heap[b]? = some ob ∧ ob.isCells = true := by
      cases hb : W.heap[b]? with
      | none => simp [World.cell?, hb] at h1
      | some ob => refine ⟨ob, rfl, ?_⟩; cases ob <;> simp_all [World.cell?, Obj.isCells]
    exact (World.cell?_of_block ((hs b ob h2 h3).trans h2.symm)).trans h1
end
/-- A row of records that a call owns. -/
def RowR {α : Type} (enc : α → List Int) (e : TypeId) (K : Nat) (w : World) (B : Nat) (v : Value) (l : List α) : Prop := w.ownsRow B e K v l.length (recV enc l)
section
variable {α : Type} {enc : α → List Int} {e : TypeId} {K : Nat}
theorem rowR_nil (w : World) (B : Nat) : RowR enc e K w B (.slice none 0 0) [] := World.ownsRow_nil _ _ _ _
theorem RowR.alloc {w : World} {B : Nat} {v : Value} {l : List α} (h : RowR enc e K w B v l) (o : Obj) : RowR enc e K (w.alloc o) B v l := World.ownsRow.alloc h o
theorem RowR.below {w w' : World} {B : Nat} {v : Value} {l : List α} (h : RowR enc e K w B v l) (hb : Below w.heap.size w w') : RowR enc e K w' B v l := by
  refine ⟨h.1, ?_⟩
  rcases h.2 with h0 | ⟨g, cap, cur, hv, hg, hc, hr⟩
  · exact .inl h0
  · exact .inr ⟨g, cap, cur, hv, hg, (hb.block g (Array.getElem?_eq_some_iff.1 hc).1).trans hc, hr⟩
theorem RowR.snoc {w : World} {B n : Nat} {v : Value} {l : List α} {a : α} (h : w.ownsRow B e K v (n + 1) (recV enc l ++ (enc a).map fun n => (Value.int .i64 (n)))) (hn : n = l.length) : RowR enc e K w B v (l ++ [a]) := by
  unfold RowR
  subst hn
  rw [recV_append, List.length_append]
  have : recV enc [a] = (enc a).map fun n => (Value.int .i64 (n)) := by rw [recV, recV, List.append_nil]
  rw [this]
  exact h
theorem RowR.join {w : World} {B n k : Nat} {v : Value} {l m : List α} (h : w.ownsRow B e K v (n + k) (recV enc l ++ recV enc m)) (hn : n = l.length := by rfl) (hk : k = m.length := by rfl) : RowR enc e K w B v (l ++ m) := by
  unfold RowR
  subst hn; subst hk
  rw [recV_append, List.length_append]
  exact h
end
end Go.Proofs.YthijegacjboclaaGreat
