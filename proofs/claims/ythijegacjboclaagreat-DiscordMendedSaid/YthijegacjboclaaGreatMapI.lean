/- Maps of numbers that a call makes, and what they leave as it lay (for any seat). -/
import Derived.Test.YthijegacjboclaaGreatSrt
import Derived.Test.YthijegacjboclaaGreatRg
import Derived.Test.YthijegacjboclaaGreatRowI
import Derived.Lib.SmallJoins
namespace Go.Proofs.YthijegacjboclaaGreat
open Go.RowKit Go.Shelf

theorem kf_grownM {B r : Nat} {W X Y : World} (h : KeepsFrom B W X) (hg : X.grownBy Y (some r)) (hr : r < B) : KeepsFrom B W Y :=
  ⟨Nat.le_trans h.size hg.size, fun k o hk ho hc => by
    have h1 := h.same k o hk ho hc
    exact (hg.block k (heap_lt h1) (by intro e; cases e; omega)).trans h1⟩
theorem cf_grown {B r : Nat} {W X Y : World} (h : CellsFrom B W X) (hg : X.grownBy Y (some r)) (hr : r < B) : CellsFrom B W Y :=
  ⟨Nat.le_trans h.size hg.size, fun k o hk ho hc => by
    have h1 := h.same k o hk ho hc
    exact (hg.block k (heap_lt h1) (by intro e; cases e; omega)).trans h1⟩
theorem blk_grown {r g : Nat} {X Y : World} {t : TypeId} {cs : Array Value} (h : Blk X g t cs) (hg : X.grownBy Y (some r)) (hr : g ≠ r) : Blk Y g t cs := (hg.block g h.lt (by intro e; cases e; exact hr rfl)).trans h
theorem wf64 (y : Int) : (Lit.int .i64 (wrap64 y)).wf = true := by
  simp [Lit.wf, wrap64, IntKind.min, IntKind.max, IntKind.signed, IntKind.bits]
  omega
def OwnM (W : World) (r k : Nat) (D : DataW Unit) : Prop := W.ownsMap Tryz.prog 3 (plainElem Tryz.prog 3) r k D
theorem OwnM.step {W W' : World} {r k B : Nat} {D : DataW Unit} (h : OwnM W r k D) (hs : Step B W W') (hr : r < B) : OwnM W' r k D := by
  obtain ⟨es, clock, hb, F, hz, hD⟩ := h
  exact ⟨es, clock, hs.same r _ hb (.inr hr), F, hz, hD⟩
theorem OwnM.below {W W' : World} {r k : Nat} {D : DataW Unit} (h : OwnM W r k D) (hb : Below W.heap.size W W') : OwnM W' r k D := by
  have hl := World.ownsMap.lt h
  obtain ⟨es, clock, hb0, F, hz, hD⟩ := h
  exact ⟨es, clock, (hb.block r hl).trans hb0, F, hz, hD⟩
theorem und_map : Tryz.prog.underlying 67 = some (.map 3 3) := by kernel_rfl
theorem cell_cells {W : World} {b o : Nat} {v : Value} (h : W.cell? ⟨b, o, none⟩ = some v) : ∃ ob, W.heap[b]? = some ob ∧ ob.isCells = true := by
  cases hb : W.heap[b]? with
  | none => simp [World.cell?, hb] at h
  | some ob => refine ⟨ob, rfl, ?_⟩; cases ob <;> simp_all [World.cell?, Obj.isCells]
theorem Ints.step {B : Nat} {W W' : World} {A : Option Addr} {l : List Int} (h : Ints W A l) (hs : Step B W W') : Ints W' A l := by
  rcases h with h | ⟨b, o, rfl, hI⟩
  · exact .inl h
  · refine .inr ⟨b, o, rfl, Nat.lt_of_lt_of_le hI.lt hs.size, fun i n hi => ?_⟩
    obtain ⟨ob, h1, h2⟩ := cell_cells (hI.x i n hi)
    exact (World.cell?_of_block ((hs.same b ob h1 (.inl h2)).trans h1.symm)).trans (hI.x i n hi)
end Go.Proofs.YthijegacjboclaaGreat
