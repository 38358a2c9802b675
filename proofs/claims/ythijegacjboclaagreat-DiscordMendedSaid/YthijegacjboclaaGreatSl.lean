/- Points in memory, and how a walk reads and compares them, for any world. -/
import Derived.Test.YthijegacjboclaaGreatLeaf
namespace Go.Proofs.YthijegacjboclaaGreat
open Go.RowKit

/-- From address b, o on the cells hold the points of l. -/
structure PtsAt (w : World) (b o : Nat) (l : List Pt) : Prop where
  lt : b < w.heap.size
  x : ∀ i p, l[i]? = some p → w.cell? ⟨b, o + i * 2, none⟩ = some (.int .i64 p.1)
  y : ∀ i p, l[i]? = some p → w.cell? ⟨b, o + i * 2 + 1, none⟩ = some (.int .i64 p.2)

def Pts (w : World) (A : Option Addr) (l : List Pt) : Prop := l = [] ∨ ∃ b o, A = some ⟨b, o, none⟩ ∧ PtsAt w b o l

theorem PtsAt.below {w w' : World} {b o : Nat} {l : List Pt} (h : PtsAt w b o l) (hb : Below w.heap.size w w') : PtsAt w' b o l :=
  ⟨Nat.lt_of_lt_of_le h.lt hb.size, fun i p hi => (hb.cell (p := ⟨b, _, none⟩) h.lt).trans (h.x i p hi), fun i p hi => (hb.cell (p := ⟨b, _, none⟩) h.lt).trans (h.y i p hi)⟩
theorem Pts.below {w w' : World} {A : Option Addr} {l : List Pt} (h : Pts w A l) (hb : Below w.heap.size w w') : Pts w' A l := by
  rcases h with h | ⟨b, o, hA, h⟩
  · exact .inl h
  · exact .inr ⟨b, o, hA, h.below hb⟩
theorem Pts.at_ {w : World} {A : Option Addr} {l : List Pt} (h : Pts w A l) {k : Nat} (hk : k < l.length) : ∃ b o, A = some ⟨b, o, none⟩ ∧ PtsAt w b o l := by
  rcases h with h | h
  · rw [h] at hk; exact absurd hk (by simp)
  · exact h

theorem run_eqIn_pt (d : Nat) (a b : Pt) (w : World) : (Op.equalIn (d + 2) 98 (Value.agg #[.int .i64 a.1, .int .i64 a.2]) (Value.agg #[.int .i64 b.1, .int .i64 b.2])).run Tryz.prog w = .ok (decide (a = b)) w := by
  obtain ⟨a1, a2⟩ := a
  obtain ⟨b1, b2⟩ := b
  rw [run_equalIn_struct w (d + 1) _ _ _ (by kernel_rfl) (by kernel_rfl)]
  by_cases h1 : a1 = b1 <;> by_cases h2 : a2 = b2 <;> simp [go_sem, h1, h2]
theorem run_eql_pt (a b : Pt) (w : World) : (binOp .eql 98 (Value.agg #[.int .i64 a.1, .int .i64 a.2]) (Value.agg #[.int .i64 b.1, .int .i64 b.2])).run Tryz.prog w = .ok (.bool (decide (a = b))) w := by
  rw [run_eql_struct, show (10000 : Nat) = 9998 + 2 from rfl, run_eqIn_pt]; rfl
theorem run_neq_pt (a b : Pt) (w : World) : (binOp .neq 98 (Value.agg #[.int .i64 a.1, .int .i64 a.2]) (Value.agg #[.int .i64 b.1, .int .i64 b.2])).run Tryz.prog w = .ok (.bool (!decide (a = b))) w := by
  rw [run_neq_struct, show (10000 : Nat) = 9998 + 2 from rfl, run_eqIn_pt]; rfl

theorem PtsAt.xp {w : World} {b o : Nat} {l : List Pt} (h : PtsAt w b o l) {i : Nat} (hi : i < l.length) : w.cell? ⟨b, o + i * 2, none⟩ = some (.int .i64 (pat l i).1) := h.x i _ (pat_get hi)
theorem PtsAt.yp {w : World} {b o : Nat} {l : List Pt} (h : PtsAt w b o l) {i : Nat} (hi : i < l.length) : w.cell? ⟨b, o + i * 2 + 1, none⟩ = some (.int .i64 (pat l i).2) := h.y i _ (pat_get hi)
theorem Pts.fix {w : World} {b o : Nat} {l : List Pt} (h : Pts w (some ⟨b, o, none⟩) l) {k : Nat} (hk : k < l.length) : PtsAt w b o l := by
  obtain ⟨b', o', e, p⟩ := h.at_ hk
  cases e
  exact p

/-- Block g holds the point p. -/
def PtBox (w : World) (g : Nat) (p : Pt) : Prop := g < w.heap.size ∧ w.cell? ⟨g, 0, none⟩ = some (.int .i64 p.1) ∧ w.cell? ⟨g, 1, none⟩ = some (.int .i64 p.2)
theorem PtBox.below {w w' : World} {g : Nat} {p : Pt} (h : PtBox w g p) (hb : Below w.heap.size w w') : PtBox w' g p :=
  ⟨Nat.lt_of_lt_of_le h.1 hb.size, (hb.cell (p := ⟨g, _, none⟩) h.1).trans h.2.1, (hb.cell (p := ⟨g, _, none⟩) h.1).trans h.2.2⟩

/-- Block g holds just these cells. -/
def Blk (w : World) (g : Nat) (t : TypeId) (cs : Array Value) : Prop := w.heap[g]? = some (.cells cs t (0, 0))
section
variable {w w' : World} {g : Nat} {t : TypeId} {cs : Array Value}
theorem Blk.lt (h : Blk w g t cs) : g < w.heap.size := (Array.getElem?_eq_some_iff.1 h).1
theorem Blk.cell (h : Blk w g t cs) (i : Nat) : w.cell? ⟨g, i, none⟩ = cs[i]? := cell_of_row w g i cs t (0, 0) h
theorem Blk.frozen (h : Blk w g t cs) (i : Nat) : w.frozen? ⟨g, i, none⟩ = false := by
  unfold Blk at h
  simp [World.frozen?, h]
theorem Blk.new (w : World) (t : TypeId) (cs : Array Value) : Blk (w.alloc (.cells cs t)) w.heap.size t cs := heap_alloc_new w _
theorem Blk.alloc (h : Blk w g t cs) (o : Obj) : Blk (w.alloc o) g t cs := (Below.heap_alloc w o g h.lt).trans h
theorem Blk.below (h : Blk w g t cs) (hb : Below w.heap.size w w') : Blk w' g t cs := (hb.block g h.lt).trans h
theorem Blk.old {B : Nat} (h : Blk w g t cs) (hb : Below B w w') (hg : g < B) : Blk w' g t cs := (hb.block g hg).trans h
theorem Blk.set_ (h : Blk w g t cs) (i : Nat) (u : Value) : Blk (w.setCell ⟨g, i, none⟩ u) g t (cs.setIfInBounds i u) := by
  unfold Blk at h ⊢
  simp [World.setCell, Array.getElem?_modify, h]
theorem Blk.far (h : Blk w g t cs) {p : Addr} (hp : g ≠ p.block) (u : Value) : Blk (w.setCell p u) g t cs := (Below.heap_setCell w p u g hp).trans h
end
theorem Blk.boxed {w : World} {g : Nat} {t : TypeId} {v : Value} (h : Blk w g t #[v]) : w.heap[g]? = some (.cells #[v] t (0, 0)) := h
end Go.Proofs.YthijegacjboclaaGreat
