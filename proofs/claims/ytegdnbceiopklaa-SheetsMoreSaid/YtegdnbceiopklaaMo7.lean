/- Three copies of a sheet and three boxes for them, made in any order: what is known at each moment. Rows of controls of which one can be off by less. -/
import Derived.Test.YtegdnbceiopklaaIn4
import Derived.Test.YtegdnbceiopklaaCp4
import Derived.Test.YtegdnbceiopklaaQst
namespace Go.Proofs.Ytegdnbceiopklaa
open Go.RowKit

/-- No block belongs to both values. -/
def Dis4 (u v : Value) : Prop := ∀ g, u.ownBlock = some g → v.ownBlock ≠ some g
theorem rowC_base {w : World} {B B' : Nat} {v : Value} {l : List Ctl} (h : RowC w B v l) (hb : B' ≤ B) : RowC w B' v l := own_le4 h hb
structure Mo7 (S : Sht) (W : World) (b1 b3 b5 b6 b7 b8 : Bool) (v1 v3 v5 v6 v7 v8 r1 r3 r5 : Value) (g6 g7 g8 : Nat) (w : World) : Prop where
  low : Below W.heap.size W w
  x1 : b1 = true → v1 = .agg #[(Value.int .i64 (S.xlo)), (Value.int .i64 (S.xhi)), (Value.int .i64 (S.ylo)), (Value.int .i64 (S.yhi)), r1, (Value.int .i64 (S.wrong))] ∧ RowC w W.heap.size r1 S.cs
  x3 : b3 = true → v3 = .agg #[(Value.int .i64 (S.xlo)), (Value.int .i64 (S.xhi)), (Value.int .i64 (S.ylo)), (Value.int .i64 (S.yhi)), r3, (Value.int .i64 (S.wrong))] ∧ RowC w W.heap.size r3 S.cs
  x5 : b5 = true → v5 = .agg #[(Value.int .i64 (S.xlo)), (Value.int .i64 (S.xhi)), (Value.int .i64 (S.ylo)), (Value.int .i64 (S.yhi)), r5, (Value.int .i64 (S.wrong))] ∧ RowC w W.heap.size r5 S.cs
  y1 : b1 = true → b3 = true → Dis4 r1 r3
  y2 : b1 = true → b5 = true → Dis4 r1 r5
  y3 : b3 = true → b5 = true → Dis4 r3 r5
  x6 : b6 = true → v6 = .pointer (some ⟨g6, 0, none⟩) ∧ W.heap.size ≤ g6 ∧ Blk w g6 26 #[(Value.int .i64 (0)), (Value.int .i64 (0)), (Value.int .i64 (0)), (Value.int .i64 (0)), .slice none 0 0, (Value.int .i64 (0))]
  x7 : b7 = true → v7 = .pointer (some ⟨g7, 0, none⟩) ∧ W.heap.size ≤ g7 ∧ Blk w g7 26 #[(Value.int .i64 (0)), (Value.int .i64 (0)), (Value.int .i64 (0)), (Value.int .i64 (0)), .slice none 0 0, (Value.int .i64 (0))]
  x8 : b8 = true → v8 = .pointer (some ⟨g8, 0, none⟩) ∧ W.heap.size ≤ g8 ∧ Blk w g8 26 #[(Value.int .i64 (0)), (Value.int .i64 (0)), (Value.int .i64 (0)), (Value.int .i64 (0)), .slice none 0 0, (Value.int .i64 (0))]
  z1 : b6 = true → b7 = true → g6 ≠ g7
  z2 : b6 = true → b8 = true → g6 ≠ g8
  z3 : b7 = true → b8 = true → g7 ≠ g8
def Mo7E (S : Sht) (W : World) (b1 b3 b5 b6 b7 b8 : Bool) (v1 v3 v5 v6 v7 v8 : Value) (w : World) : Prop := ∃ r1 r3 r5 g6 g7 g8, Mo7 S W b1 b3 b5 b6 b7 b8 v1 v3 v5 v6 v7 v8 r1 r3 r5 g6 g7 g8 w
section
variable {S : Sht} {W : World} {b1 b3 b5 b6 b7 b8 : Bool} {v1 v3 v5 v6 v7 v8 : Value} {w : World}
theorem mo7_zero : Mo7E S W false false false false false false v1 v3 v5 v6 v7 v8 W.drew := by
  refine ⟨undef, undef, undef, 0, 0, 0, ?_⟩
  constructor
  case low => exact bl_drew (Below.refl _ _)
  all_goals (intro h; cases h)
theorem dis_new {w w' : World} {B : Nat} {r r' : Value} {l m : List Ctl} (h : RowC w B r l) (h' : RowC w' w.heap.size r' m) : Dis4 r r' := by
  intro g h1 h2
  have a := (World.ownsRow.lt h g h1).2
  have b := (World.ownsRow.lt h' g h2).1
  omega
theorem mo7_row1 {w' : World} {r : Value} (h : Mo7E S W false false false b6 b7 b8 v1 v3 v5 v6 v7 v8 w) (hr : RowC w' w.heap.size r S.cs) (hb : Below w.heap.size w w') : Mo7E S W true false false b6 b7 b8 (.agg #[(Value.int .i64 (S.xlo)), (Value.int .i64 (S.xhi)), (Value.int .i64 (S.ylo)), (Value.int .i64 (S.yhi)), r, (Value.int .i64 (S.wrong))]) v3 v5 v6 v7 v8 w' := by
  obtain ⟨r1, r3, r5, g6, g7, g8, h⟩ := h
  refine ⟨r, r3, r5, g6, g7, g8, ?_⟩
  constructor
  case low => exact bl_call h.low hb
  case x1 => exact fun _ => ⟨rfl, rowC_base hr h.low.size⟩
  case x6 => exact fun e => ⟨(h.x6 e).1, (h.x6 e).2.1, (h.x6 e).2.2.below hb⟩
  case x7 => exact fun e => ⟨(h.x7 e).1, (h.x7 e).2.1, (h.x7 e).2.2.below hb⟩
  case x8 => exact fun e => ⟨(h.x8 e).1, (h.x8 e).2.1, (h.x8 e).2.2.below hb⟩
  case z1 => exact h.z1
  case z2 => exact h.z2
  case z3 => exact h.z3
  case y1 => intro _ e; cases e
  case y2 => intro _ e; cases e
  all_goals (intro e; cases e)
theorem mo7_row3 {w' : World} {r : Value} (h : Mo7E S W true false false b6 b7 b8 v1 v3 v5 v6 v7 v8 w) (hr : RowC w' w.heap.size r S.cs) (hb : Below w.heap.size w w') : Mo7E S W true true false b6 b7 b8 v1 (.agg #[(Value.int .i64 (S.xlo)), (Value.int .i64 (S.xhi)), (Value.int .i64 (S.ylo)), (Value.int .i64 (S.yhi)), r, (Value.int .i64 (S.wrong))]) v5 v6 v7 v8 w' := by
  obtain ⟨r1, r3, r5, g6, g7, g8, h⟩ := h
  refine ⟨r1, r, r5, g6, g7, g8, ?_⟩
  constructor
  case low => exact bl_call h.low hb
  case x1 => exact fun e => ⟨(h.x1 e).1, (h.x1 e).2.below hb⟩
  case x3 => exact fun _ => ⟨rfl, rowC_base hr h.low.size⟩
  case y1 => exact fun e _ => dis_new (h.x1 e).2 hr
  case x6 => exact fun e => ⟨(h.x6 e).1, (h.x6 e).2.1, (h.x6 e).2.2.below hb⟩
  case x7 => exact fun e => ⟨(h.x7 e).1, (h.x7 e).2.1, (h.x7 e).2.2.below hb⟩
  case x8 => exact fun e => ⟨(h.x8 e).1, (h.x8 e).2.1, (h.x8 e).2.2.below hb⟩
  case z1 => exact h.z1
  case z2 => exact h.z2
  case z3 => exact h.z3
  case y2 => intro _ e; cases e
  case y3 => intro _ e; cases e
  all_goals (intro e; cases e)
theorem mo7_row5 {w' : World} {r : Value} (h : Mo7E S W true true false b6 b7 b8 v1 v3 v5 v6 v7 v8 w) (hr : RowC w' w.heap.size r S.cs) (hb : Below w.heap.size w w') : Mo7E S W true true true b6 b7 b8 v1 v3 (.agg #[(Value.int .i64 (S.xlo)), (Value.int .i64 (S.xhi)), (Value.int .i64 (S.ylo)), (Value.int .i64 (S.yhi)), r, (Value.int .i64 (S.wrong))]) v6 v7 v8 w' := by
  obtain ⟨r1, r3, r5, g6, g7, g8, h⟩ := h
  refine ⟨r1, r3, r, g6, g7, g8, ?_⟩
  constructor
  case low => exact bl_call h.low hb
  case x1 => exact fun e => ⟨(h.x1 e).1, (h.x1 e).2.below hb⟩
  case x3 => exact fun e => ⟨(h.x3 e).1, (h.x3 e).2.below hb⟩
  case x5 => exact fun _ => ⟨rfl, rowC_base hr h.low.size⟩
  case y1 => exact h.y1
  case y2 => exact fun e _ => dis_new (h.x1 e).2 hr
  case y3 => exact fun e _ => dis_new (h.x3 e).2 hr
  case x6 => exact fun e => ⟨(h.x6 e).1, (h.x6 e).2.1, (h.x6 e).2.2.below hb⟩
  case x7 => exact fun e => ⟨(h.x7 e).1, (h.x7 e).2.1, (h.x7 e).2.2.below hb⟩
  case x8 => exact fun e => ⟨(h.x8 e).1, (h.x8 e).2.1, (h.x8 e).2.2.below hb⟩
  case z1 => exact h.z1
  case z2 => exact h.z2
  case z3 => exact h.z3
theorem mo7_box6 (h : Mo7E S W b1 b3 b5 false b7 b8 v1 v3 v5 v6 v7 v8 w) : Mo7E S W b1 b3 b5 true b7 b8 v1 v3 v5 (.pointer (some ⟨w.heap.size, 0, none⟩)) v7 v8 (w.alloc (.cells #[(Value.int .i64 (0)), (Value.int .i64 (0)), (Value.int .i64 (0)), (Value.int .i64 (0)), .slice none 0 0, (Value.int .i64 (0))] 26)) := by
  obtain ⟨r1, r3, r5, g6, g7, g8, h⟩ := h
  refine ⟨r1, r3, r5, w.heap.size, g7, g8, ?_⟩
  constructor
  case x6 => exact fun _ => ⟨rfl, h.low.size, Blk.new _ _ _⟩
  case x7 => exact fun e => ⟨(h.x7 e).1, (h.x7 e).2.1, (h.x7 e).2.2.alloc _⟩
  case x8 => exact fun e => ⟨(h.x8 e).1, (h.x8 e).2.1, (h.x8 e).2.2.alloc _⟩
  case z1 => exact fun _ e => by have := (h.x7 e).2.2.lt; omega
  case z2 => exact fun _ e => by have := (h.x8 e).2.2.lt; omega
  case z3 => exact h.z3
  ((case low => exact bl_alloc h.low); (case x1 => exact fun e => ⟨(h.x1 e).1, (h.x1 e).2.alloc _⟩); (case x3 => exact fun e => ⟨(h.x3 e).1, (h.x3 e).2.alloc _⟩); (case x5 => exact fun e => ⟨(h.x5 e).1, (h.x5 e).2.alloc _⟩); (case y1 => exact h.y1); (case y2 => exact h.y2); (case y3 => exact h.y3))
theorem mo7_box7 (h : Mo7E S W b1 b3 b5 b6 false b8 v1 v3 v5 v6 v7 v8 w) : Mo7E S W b1 b3 b5 b6 true b8 v1 v3 v5 v6 (.pointer (some ⟨w.heap.size, 0, none⟩)) v8 (w.alloc (.cells #[(Value.int .i64 (0)), (Value.int .i64 (0)), (Value.int .i64 (0)), (Value.int .i64 (0)), .slice none 0 0, (Value.int .i64 (0))] 26)) := by
  obtain ⟨r1, r3, r5, g6, g7, g8, h⟩ := h
  refine ⟨r1, r3, r5, g6, w.heap.size, g8, ?_⟩
  constructor
  case x6 => exact fun e => ⟨(h.x6 e).1, (h.x6 e).2.1, (h.x6 e).2.2.alloc _⟩
  case x7 => exact fun _ => ⟨rfl, h.low.size, Blk.new _ _ _⟩
  case x8 => exact fun e => ⟨(h.x8 e).1, (h.x8 e).2.1, (h.x8 e).2.2.alloc _⟩
  case z1 => exact fun e _ => by have := (h.x6 e).2.2.lt; omega
  case z2 => exact h.z2
  case z3 => exact fun _ e => by have := (h.x8 e).2.2.lt; omega
  ((case low => exact bl_alloc h.low); (case x1 => exact fun e => ⟨(h.x1 e).1, (h.x1 e).2.alloc _⟩); (case x3 => exact fun e => ⟨(h.x3 e).1, (h.x3 e).2.alloc _⟩); (case x5 => exact fun e => ⟨(h.x5 e).1, (h.x5 e).2.alloc _⟩); (case y1 => exact h.y1); (case y2 => exact h.y2); (case y3 => exact h.y3))
theorem mo7_box8 (h : Mo7E S W b1 b3 b5 b6 b7 false v1 v3 v5 v6 v7 v8 w) : Mo7E S W b1 b3 b5 b6 b7 true v1 v3 v5 v6 v7 (.pointer (some ⟨w.heap.size, 0, none⟩)) (w.alloc (.cells #[(Value.int .i64 (0)), (Value.int .i64 (0)), (Value.int .i64 (0)), (Value.int .i64 (0)), .slice none 0 0, (Value.int .i64 (0))] 26)) := by
  obtain ⟨r1, r3, r5, g6, g7, g8, h⟩ := h
  refine ⟨r1, r3, r5, g6, g7, w.heap.size, ?_⟩
  constructor
  case x6 => exact fun e => ⟨(h.x6 e).1, (h.x6 e).2.1, (h.x6 e).2.2.alloc _⟩
  case x7 => exact fun e => ⟨(h.x7 e).1, (h.x7 e).2.1, (h.x7 e).2.2.alloc _⟩
  case x8 => exact fun _ => ⟨rfl, h.low.size, Blk.new _ _ _⟩
  case z1 => exact h.z1
  case z2 => exact fun e _ => by have := (h.x6 e).2.2.lt; omega
  case z3 => exact fun e _ => by have := (h.x7 e).2.2.lt; omega
  ((case low => exact bl_alloc h.low); (case x1 => exact fun e => ⟨(h.x1 e).1, (h.x1 e).2.alloc _⟩); (case x3 => exact fun e => ⟨(h.x3 e).1, (h.x3 e).2.alloc _⟩); (case x5 => exact fun e => ⟨(h.x5 e).1, (h.x5 e).2.alloc _⟩); (case y1 => exact h.y1); (case y2 => exact h.y2); (case y3 => exact h.y3))
end
theorem row_type {w : World} {B : Nat} {v : Value} {l : List Ctl} (h : RowC w B v l) {g : Nat} {t : TypeId} {cs : Array Value} (hb : Blk w g t cs) (ht : t ≠ 67) : v.ownBlock ≠ some g := by
  intro e
  rcases h.2 with ⟨rfl, _⟩ | ⟨g', cap, cur, rfl, _, hc, _⟩
  · cases e
  · simp only [Value.ownBlock, Option.some.injEq] at e
    subst e
    have h2 : Blk w g' 67 cur := hc
    exact hb.ne_type h2 ht rfl
theorem bl_setRow {w0 w : World} {g : Nat} {cs : Array Value} (h : Below w0.heap.size w0 w) (hg : w0.heap.size ≤ g) : Below w0.heap.size w0 (w.setRow g cs) := h.trans ⟨rfl, rfl, rfl, by simp [World.setRow], fun k hk => setRow_other w g k _ (by omega)⟩
theorem blk_setRow {w : World} {g : Nat} {t : TypeId} {us cs : Array Value} (h : Blk w g t us) : Blk (w.setRow g cs) g t cs := setRow_heap w g _ _ _ _ h
theorem blk_setRow_far {w : World} {g k : Nat} {t : TypeId} {us cs : Array Value} (h : Blk w k t us) (hne : k ≠ g) : Blk (w.setRow g cs) k t us := (setRow_other w g k _ hne).trans h
theorem row_setRow {w : World} {B g : Nat} {v : Value} {l : List Ctl} {us cs : Array Value} (h : RowC w B v l) (hb : Blk w g 26 us) : RowC (w.setRow g cs) B v l := by
  refine ⟨h.1, ?_⟩
  have hne := row_type h hb (by decide)
  rcases h.2 with h0 | ⟨g', cap, cur, rfl, hg, hc, hr⟩
  · exact .inl h0
  · exact .inr ⟨g', cap, cur, rfl, hg, (setRow_other w g g' _ (fun e => hne (by rw [e]; rfl))).trans hc, hr⟩
theorem blk_grow7 {w w' : World} {g : Nat} {t : TypeId} {cs : Array Value} {row : Option Nat} (h : Blk w g t cs) (hg : w.grownBy w' row) (hne : row ≠ some g) : Blk w' g t cs := (hg.block g h.lt (fun e => hne e.symm)).trans h
theorem Dis4.hne {u v : Value} (h : Dis4 u v) : v.ownBlock = none ∨ v.ownBlock ≠ u.ownBlock := by
  cases hv : v.ownBlock with
  | none => exact .inl rfl
  | some g => exact .inr fun e => h g e.symm hv
theorem row_set7 {w : World} {B e s n : Nat} {v : Value} {xs : List Value} (h : w.ownsRow B e s v n xs) {g i : Nat} (hg : v.ownBlock ≠ some g) (u : Value) : (w.setCell ⟨g, i, none⟩ u).ownsRow B e s v n xs := by
  refine ⟨h.1, ?_⟩
  rcases h.2 with h0 | ⟨g', cap, cur, rfl, hg', hc, hr⟩
  · exact .inl h0
  · refine .inr ⟨g', cap, cur, rfl, hg', (Below.heap_setCell w ⟨g, i, none⟩ u g' (fun e => hg (by rw [show g' = g from e]; rfl))).trans hc, hr⟩
/-- One control as a row that was just made. -/
theorem one_ctl {X : World} (c : Ctl) : Cts (X.alloc (.cells #[(Value.int .i64 (c.way)), (Value.int .i64 (c.tru)), (Value.int .i64 (c.read)), (Value.int .i64 (c.off))] 67)) (some ⟨X.heap.size, 0, none⟩) [c] :=
  .inr ⟨_, _, rfl, recAt_own (K := 4) (B := 0) (ca := 1) (n := 1) (e := 67) ⟨rfl, .inr ⟨_, _, _, rfl, Nat.zero_le _, heap_alloc_new X _, Nat.le_refl _, by decide, rfl, rfl⟩⟩⟩
theorem Dis4.next {u v : Value} {g n c H : Nat} (h : Dis4 u v) (hat : u.ownBlock = some g ∨ g = H) (hv : ∀ k, v.ownBlock = some k → k < H) : Dis4 (.slice (some ⟨g, 0, none⟩) n c) v := by
  intro k hk hk2
  have e : g = k := by simpa [Value.ownBlock] using hk
  subst e
  rcases hat with h1 | h1
  · exact h g h1 hk2
  · have := hv g hk2; omega
theorem row_cts8 {w : World} {B n ca : Nat} {A : Option Addr} {l : List Ctl} {e : Nat} (h : w.ownsRow B e 4 (.slice A n ca) l.length (recV ctlE l)) : Cts w A l := by
  obtain ⟨hn, A', ca', e, hN⟩ := ownR_parts ctlE_len (by decide) h
  simp only [Value.slice.injEq] at e
  obtain ⟨rfl, _, _⟩ := e
  exact hN
section
variable {S : Sht} {w : World} {B g6 g7 g8 ca : Nat} {A : Option Addr} {c6 c7 c8 : Array Value} {r1 r3 r5 : Value}
theorem mo7_st6 (HB : Hid (Blk w g6 26 c6 ∧ Blk w g7 26 c7 ∧ Blk w g8 26 c8 ∧ RowC w B r1 S.cs ∧ RowC w B r3 S.cs ∧ RowC w B r5 S.cs)) (n67 : g6 ≠ g7) (n68 : g6 ≠ g8) :
    Hid (Blk (w.setRow g6 #[(Value.int .i64 (S.xlo)), (Value.int .i64 (S.xhi)), (Value.int .i64 (S.ylo)), (Value.int .i64 (S.yhi)), .slice A S.cs.length ca, (Value.int .i64 (S.wrong))]) g6 26 #[(Value.int .i64 (S.xlo)), (Value.int .i64 (S.xhi)), (Value.int .i64 (S.ylo)), (Value.int .i64 (S.yhi)), .slice A S.cs.length ca, (Value.int .i64 (S.wrong))] ∧ Blk (w.setRow g6 #[(Value.int .i64 (S.xlo)), (Value.int .i64 (S.xhi)), (Value.int .i64 (S.ylo)), (Value.int .i64 (S.yhi)), .slice A S.cs.length ca, (Value.int .i64 (S.wrong))]) g7 26 c7 ∧ Blk (w.setRow g6 #[(Value.int .i64 (S.xlo)), (Value.int .i64 (S.xhi)), (Value.int .i64 (S.ylo)), (Value.int .i64 (S.yhi)), .slice A S.cs.length ca, (Value.int .i64 (S.wrong))]) g8 26 c8 ∧ RowC (w.setRow g6 #[(Value.int .i64 (S.xlo)), (Value.int .i64 (S.xhi)), (Value.int .i64 (S.ylo)), (Value.int .i64 (S.yhi)), .slice A S.cs.length ca, (Value.int .i64 (S.wrong))]) B r1 S.cs ∧ RowC (w.setRow g6 #[(Value.int .i64 (S.xlo)), (Value.int .i64 (S.xhi)), (Value.int .i64 (S.ylo)), (Value.int .i64 (S.yhi)), .slice A S.cs.length ca, (Value.int .i64 (S.wrong))]) B r3 S.cs ∧ RowC (w.setRow g6 #[(Value.int .i64 (S.xlo)), (Value.int .i64 (S.xhi)), (Value.int .i64 (S.ylo)), (Value.int .i64 (S.yhi)), .slice A S.cs.length ca, (Value.int .i64 (S.wrong))]) B r5 S.cs) := by
  obtain ⟨a1, a2, a3, a4, a5, a6⟩ := HB.out
  exact Lib.hid ⟨blk_setRow a1, blk_setRow_far a2 (Ne.symm n67), blk_setRow_far a3 (Ne.symm n68), row_setRow a4 a1, row_setRow a5 a1, row_setRow a6 a1⟩
theorem mo7_st7 (HB : Hid (Blk w g6 26 c6 ∧ Blk w g7 26 c7 ∧ Blk w g8 26 c8 ∧ RowC w B r1 S.cs ∧ RowC w B r3 S.cs ∧ RowC w B r5 S.cs)) (n67 : g6 ≠ g7) (n78 : g7 ≠ g8) :
    Hid (Blk (w.setRow g7 #[(Value.int .i64 (S.xlo)), (Value.int .i64 (S.xhi)), (Value.int .i64 (S.ylo)), (Value.int .i64 (S.yhi)), .slice A S.cs.length ca, (Value.int .i64 (S.wrong))]) g6 26 c6 ∧ Blk (w.setRow g7 #[(Value.int .i64 (S.xlo)), (Value.int .i64 (S.xhi)), (Value.int .i64 (S.ylo)), (Value.int .i64 (S.yhi)), .slice A S.cs.length ca, (Value.int .i64 (S.wrong))]) g7 26 #[(Value.int .i64 (S.xlo)), (Value.int .i64 (S.xhi)), (Value.int .i64 (S.ylo)), (Value.int .i64 (S.yhi)), .slice A S.cs.length ca, (Value.int .i64 (S.wrong))] ∧ Blk (w.setRow g7 #[(Value.int .i64 (S.xlo)), (Value.int .i64 (S.xhi)), (Value.int .i64 (S.ylo)), (Value.int .i64 (S.yhi)), .slice A S.cs.length ca, (Value.int .i64 (S.wrong))]) g8 26 c8 ∧ RowC (w.setRow g7 #[(Value.int .i64 (S.xlo)), (Value.int .i64 (S.xhi)), (Value.int .i64 (S.ylo)), (Value.int .i64 (S.yhi)), .slice A S.cs.length ca, (Value.int .i64 (S.wrong))]) B r1 S.cs ∧ RowC (w.setRow g7 #[(Value.int .i64 (S.xlo)), (Value.int .i64 (S.xhi)), (Value.int .i64 (S.ylo)), (Value.int .i64 (S.yhi)), .slice A S.cs.length ca, (Value.int .i64 (S.wrong))]) B r3 S.cs ∧ RowC (w.setRow g7 #[(Value.int .i64 (S.xlo)), (Value.int .i64 (S.xhi)), (Value.int .i64 (S.ylo)), (Value.int .i64 (S.yhi)), .slice A S.cs.length ca, (Value.int .i64 (S.wrong))]) B r5 S.cs) := by
  obtain ⟨a1, a2, a3, a4, a5, a6⟩ := HB.out
  exact Lib.hid ⟨blk_setRow_far a1 n67, blk_setRow a2, blk_setRow_far a3 (Ne.symm n78), row_setRow a4 a2, row_setRow a5 a2, row_setRow a6 a2⟩
theorem mo7_st8 (HB : Hid (Blk w g6 26 c6 ∧ Blk w g7 26 c7 ∧ Blk w g8 26 c8 ∧ RowC w B r1 S.cs ∧ RowC w B r3 S.cs ∧ RowC w B r5 S.cs)) (n68 : g6 ≠ g8) (n78 : g7 ≠ g8) :
    Hid (Blk (w.setRow g8 #[(Value.int .i64 (S.xlo)), (Value.int .i64 (S.xhi)), (Value.int .i64 (S.ylo)), (Value.int .i64 (S.yhi)), .slice A S.cs.length ca, (Value.int .i64 (S.wrong))]) g6 26 c6 ∧ Blk (w.setRow g8 #[(Value.int .i64 (S.xlo)), (Value.int .i64 (S.xhi)), (Value.int .i64 (S.ylo)), (Value.int .i64 (S.yhi)), .slice A S.cs.length ca, (Value.int .i64 (S.wrong))]) g7 26 c7 ∧ Blk (w.setRow g8 #[(Value.int .i64 (S.xlo)), (Value.int .i64 (S.xhi)), (Value.int .i64 (S.ylo)), (Value.int .i64 (S.yhi)), .slice A S.cs.length ca, (Value.int .i64 (S.wrong))]) g8 26 #[(Value.int .i64 (S.xlo)), (Value.int .i64 (S.xhi)), (Value.int .i64 (S.ylo)), (Value.int .i64 (S.yhi)), .slice A S.cs.length ca, (Value.int .i64 (S.wrong))] ∧ RowC (w.setRow g8 #[(Value.int .i64 (S.xlo)), (Value.int .i64 (S.xhi)), (Value.int .i64 (S.ylo)), (Value.int .i64 (S.yhi)), .slice A S.cs.length ca, (Value.int .i64 (S.wrong))]) B r1 S.cs ∧ RowC (w.setRow g8 #[(Value.int .i64 (S.xlo)), (Value.int .i64 (S.xhi)), (Value.int .i64 (S.ylo)), (Value.int .i64 (S.yhi)), .slice A S.cs.length ca, (Value.int .i64 (S.wrong))]) B r3 S.cs ∧ RowC (w.setRow g8 #[(Value.int .i64 (S.xlo)), (Value.int .i64 (S.xhi)), (Value.int .i64 (S.ylo)), (Value.int .i64 (S.yhi)), .slice A S.cs.length ca, (Value.int .i64 (S.wrong))]) B r5 S.cs) := by
  obtain ⟨a1, a2, a3, a4, a5, a6⟩ := HB.out
  exact Lib.hid ⟨blk_setRow_far a1 n68, blk_setRow_far a2 n78, blk_setRow a3, row_setRow a4 a3, row_setRow a5 a3, row_setRow a6 a3⟩
end
theorem recV_set3 : ∀ (l : List Ctl) (k : Nat) (c : Ctl) (x : Int), l[k]? = some c → (recV ctlE l).set (k * 4 + 3) (Value.int .i64 (x)) = recV ctlE (l.set k ⟨c.way, c.tru, c.read, x⟩)
  | [], k, c, x, h => by simp at h
  | b :: l, 0, c, x, h => by
    simp only [List.getElem?_cons_zero, Option.some.injEq] at h
    subst h
    simp [recV, ctlE]
  | b :: l, k + 1, c, x, h => by
    simp only [List.getElem?_cons_succ] at h
    have ih := recV_set3 l k c x h
    rw [List.set_cons_succ]
    simp only [recV, ctlE, List.map_cons, List.map_nil, List.cons_append, List.nil_append]
    rw [show (k + 1) * 4 + 3 = k * 4 + 3 + 1 + 1 + 1 + 1 by omega, List.set_cons_succ, List.set_cons_succ, List.set_cons_succ, List.set_cons_succ, ih]
theorem row_le {w : World} {B g ca : Nat} {l : List Ctl} {k : Nat} (hk : k < l.length) {d : Int} (h : w.ownsRow B 67 4 (.slice (some ⟨g, 0, none⟩) l.length ca) l.length (recV ctlE l)) :
    (w.setCell ⟨g, k * 4 + 3, none⟩ (Value.int .i64 ((cat l k).off - d))).ownsRow B 67 4 (.slice (some ⟨g, 0, none⟩) l.length ca) l.length (recV ctlE (l.set k (leC (cat l k) d))) := by
  have h1 := (h.stored (k * 4 + 3) (Value.int .i64 ((cat l k).off - d))).1
  rw [recV_set3 _ _ _ _ (cat_get hk)] at h1
  exact h1
theorem row_cts7 {w : World} {B n ca : Nat} {A : Option Addr} {l : List Ctl} (h : w.ownsRow B 67 4 (.slice A n ca) n (recV ctlE l)) : Cts w A l := by
  obtain ⟨hn, A', ca', e, hN⟩ := ownR_parts ctlE_len (by decide) h
  simp only [Value.slice.injEq] at e
  obtain ⟨rfl, _, _⟩ := e
  exact hN
end Go.Proofs.Ytegdnbceiopklaa
