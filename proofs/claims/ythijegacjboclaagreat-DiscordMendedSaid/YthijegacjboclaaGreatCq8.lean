/- Two copies of a dispute and two boxes for them, made in any order: what is known at each moment. -/
import Derived.Test.YthijegacjboclaaGreatCp8
namespace Go.Proofs.YthijegacjboclaaGreat
open Go.RowKit

/-- What a copy of a dispute leads to, owned by the call. -/
def Own8 (D : Dsp) (w : World) (B : Nat) (r1 r2 r3 : Value) : Prop := RowP w B r1 D.cs ∧ RowI w B r2 D.offs ∧ RowW w B r3 D.wks
theorem Own8.below {D : Dsp} {w w' : World} {B : Nat} {r1 r2 r3 : Value} (h : Own8 D w B r1 r2 r3) (hb : Below w.heap.size w w') : Own8 D w' B r1 r2 r3 := ⟨h.1.below hb, h.2.1.below hb, RowR.below h.2.2 hb⟩
theorem Own8.le {D : Dsp} {w : World} {B B' : Nat} {r1 r2 r3 : Value} (h : Own8 D w B r1 r2 r3) (hb : B' ≤ B) : Own8 D w B' r1 r2 r3 := ⟨own_le8 h.1 hb, own_le8 h.2.1 hb, own_le8 h.2.2 hb⟩
/-- No block belongs to both values. -/
def Dis8 (u v : Value) : Prop := ∀ g, u.ownBlock = some g → v.ownBlock ≠ some g
theorem Dis8.hne {u v : Value} (h : Dis8 u v) : v.ownBlock = none ∨ v.ownBlock ≠ u.ownBlock := by
  cases hv : v.ownBlock with
  | none => exact .inl rfl
  | some g =>
    refine .inr fun e => ?_
    exact h g e.symm hv
theorem Dis8.symm {u v : Value} (h : Dis8 u v) : Dis8 v u := fun g h1 h2 => h g h2 h1
theorem dis8_new {w w' : World} {B e s n e' s' n' : Nat} {r r' : Value} {xs ys : List Value} (h : w.ownsRow B e s r n xs) (h' : w'.ownsRow w.heap.size e' s' r' n' ys) : Dis8 r r' := by
  intro g h1 h2
  have a := (World.ownsRow.lt h g h1).2
  have b := (World.ownsRow.lt h' g h2).1
  omega
def Dis3 (r1 r2 r3 s1 s2 s3 : Value) : Prop := Dis8 r1 s1 ∧ Dis8 r2 s2 ∧ Dis8 r3 s3
theorem dis3_new {D E : Dsp} {w w' : World} {B : Nat} {r1 r2 r3 s1 s2 s3 : Value} (h : Own8 D w B r1 r2 r3) (h' : Own8 E w' w.heap.size s1 s2 s3) : Dis3 r1 r2 r3 s1 s2 s3 := ⟨dis8_new h.1 h'.1, dis8_new h.2.1 h'.2.1, dis8_new h.2.2 h'.2.2⟩
structure Cq8 (D : Dsp) (W : World) (b1 b3 b4 b5 : Bool) (v1 v3 v4 v5 r1 r2 r3 s1 s2 s3 : Value) (g4 g5 : Nat) (w : World) : Prop where
  low : Below W.heap.size W w
  x1 : b1 = true → v1 = .agg #[r1, r2, (Value.int .i64 (D.unit)), (Value.int .i64 (D.wh.full)), (Value.int .i64 (D.wh.read)), (Value.int .i64 (D.wh.slip)), (Value.int .i64 (D.wh.skew)), (Value.int .i64 (D.wh.circle)), (Value.int .i64 (D.wh.glo)), (Value.int .i64 (D.wh.ghi)), (Value.int .i64 (D.wh.wrong)), r3] ∧ Own8 D w W.heap.size r1 r2 r3
  x3 : b3 = true → v3 = .agg #[s1, s2, (Value.int .i64 (D.unit)), (Value.int .i64 (D.wh.full)), (Value.int .i64 (D.wh.read)), (Value.int .i64 (D.wh.slip)), (Value.int .i64 (D.wh.skew)), (Value.int .i64 (D.wh.circle)), (Value.int .i64 (D.wh.glo)), (Value.int .i64 (D.wh.ghi)), (Value.int .i64 (D.wh.wrong)), s3] ∧ Own8 D w W.heap.size s1 s2 s3
  y : b1 = true → b3 = true → Dis3 r1 r2 r3 s1 s2 s3
  x4 : b4 = true → v4 = .pointer (some ⟨g4, 0, none⟩) ∧ W.heap.size ≤ g4 ∧ Blk w g4 30 #[.slice none 0 0, .slice none 0 0, (Value.int .i64 (0)), (Value.int .i64 (0)), (Value.int .i64 (0)), (Value.int .i64 (0)), (Value.int .i64 (0)), (Value.int .i64 (0)), (Value.int .i64 (0)), (Value.int .i64 (0)), (Value.int .i64 (0)), .slice none 0 0]
  x5 : b5 = true → v5 = .pointer (some ⟨g5, 0, none⟩) ∧ W.heap.size ≤ g5 ∧ Blk w g5 30 #[.slice none 0 0, .slice none 0 0, (Value.int .i64 (0)), (Value.int .i64 (0)), (Value.int .i64 (0)), (Value.int .i64 (0)), (Value.int .i64 (0)), (Value.int .i64 (0)), (Value.int .i64 (0)), (Value.int .i64 (0)), (Value.int .i64 (0)), .slice none 0 0]
  z : b4 = true → b5 = true → g4 ≠ g5
def Cq8E (D : Dsp) (W : World) (b1 b3 b4 b5 : Bool) (v1 v3 v4 v5 : Value) (w : World) : Prop := ∃ r1 r2 r3 s1 s2 s3 g4 g5, Cq8 D W b1 b3 b4 b5 v1 v3 v4 v5 r1 r2 r3 s1 s2 s3 g4 g5 w
section
variable {D : Dsp} {W : World} {b1 b3 b4 b5 : Bool} {v1 v3 v4 v5 : Value} {w : World}
theorem Cq8E.low (h : Cq8E D W b1 b3 b4 b5 v1 v3 v4 v5 w) : Below W.heap.size W w := let ⟨_, _, _, _, _, _, _, _, h⟩ := h; h.low
theorem cq8_zero : Cq8E D W false false false false v1 v3 v4 v5 W.drew := by
  refine ⟨undef, undef, undef, undef, undef, undef, 0, 0, ?_⟩
  constructor
  case low => exact bl_drew (Below.refl _ _)
  all_goals (intro h; cases h)
theorem cq8_c1 {w' : World} {t1 t2 t3 : Value} (h : Cq8E D W false false b4 b5 v1 v3 v4 v5 w) (hr : Own8 D w' w.heap.size t1 t2 t3) (hb : Below w.heap.size w w') : Cq8E D W true false b4 b5 (.agg #[t1, t2, (Value.int .i64 (D.unit)), (Value.int .i64 (D.wh.full)), (Value.int .i64 (D.wh.read)), (Value.int .i64 (D.wh.slip)), (Value.int .i64 (D.wh.skew)), (Value.int .i64 (D.wh.circle)), (Value.int .i64 (D.wh.glo)), (Value.int .i64 (D.wh.ghi)), (Value.int .i64 (D.wh.wrong)), t3]) v3 v4 v5 w' := by
  obtain ⟨r1, r2, r3, s1, s2, s3, g4, g5, h⟩ := h
  refine ⟨t1, t2, t3, s1, s2, s3, g4, g5, ?_⟩
  constructor
  case low => exact bl_call h.low hb
  case x1 => exact fun _ => ⟨rfl, hr.le h.low.size⟩
  case x4 => exact fun e => ⟨(h.x4 e).1, (h.x4 e).2.1, (h.x4 e).2.2.below hb⟩
  case x5 => exact fun e => ⟨(h.x5 e).1, (h.x5 e).2.1, (h.x5 e).2.2.below hb⟩
  case z => exact h.z
  case y => intro _ e; cases e
  all_goals (intro e; cases e)
theorem cq8_c3 {w' : World} {t1 t2 t3 : Value} (h : Cq8E D W true false b4 b5 v1 v3 v4 v5 w) (hr : Own8 D w' w.heap.size t1 t2 t3) (hb : Below w.heap.size w w') : Cq8E D W true true b4 b5 v1 (.agg #[t1, t2, (Value.int .i64 (D.unit)), (Value.int .i64 (D.wh.full)), (Value.int .i64 (D.wh.read)), (Value.int .i64 (D.wh.slip)), (Value.int .i64 (D.wh.skew)), (Value.int .i64 (D.wh.circle)), (Value.int .i64 (D.wh.glo)), (Value.int .i64 (D.wh.ghi)), (Value.int .i64 (D.wh.wrong)), t3]) v4 v5 w' := by
  obtain ⟨r1, r2, r3, s1, s2, s3, g4, g5, h⟩ := h
  refine ⟨r1, r2, r3, t1, t2, t3, g4, g5, ?_⟩
  constructor
  case low => exact bl_call h.low hb
  case x1 => exact fun e => ⟨(h.x1 e).1, (h.x1 e).2.below hb⟩
  case x3 => exact fun _ => ⟨rfl, hr.le h.low.size⟩
  case y => exact fun e _ => dis3_new (h.x1 e).2 hr
  case x4 => exact fun e => ⟨(h.x4 e).1, (h.x4 e).2.1, (h.x4 e).2.2.below hb⟩
  case x5 => exact fun e => ⟨(h.x5 e).1, (h.x5 e).2.1, (h.x5 e).2.2.below hb⟩
  case z => exact h.z
theorem cq8_b4 (h : Cq8E D W b1 b3 false b5 v1 v3 v4 v5 w) : Cq8E D W b1 b3 true b5 v1 v3 (.pointer (some ⟨w.heap.size, 0, none⟩)) v5 (w.alloc (.cells #[.slice none 0 0, .slice none 0 0, (Value.int .i64 (0)), (Value.int .i64 (0)), (Value.int .i64 (0)), (Value.int .i64 (0)), (Value.int .i64 (0)), (Value.int .i64 (0)), (Value.int .i64 (0)), (Value.int .i64 (0)), (Value.int .i64 (0)), .slice none 0 0] 30)) := by
  obtain ⟨r1, r2, r3, s1, s2, s3, g4, g5, h⟩ := h
  have hb : Below w.heap.size w (w.alloc (.cells #[.slice none 0 0, .slice none 0 0, (Value.int .i64 (0)), (Value.int .i64 (0)), (Value.int .i64 (0)), (Value.int .i64 (0)), (Value.int .i64 (0)), (Value.int .i64 (0)), (Value.int .i64 (0)), (Value.int .i64 (0)), (Value.int .i64 (0)), .slice none 0 0] 30)) := bl_alloc (Below.refl _ _)
  refine ⟨r1, r2, r3, s1, s2, s3, w.heap.size, g5, ?_⟩
  constructor
  case low => exact bl_alloc h.low
  case x1 => exact fun e => ⟨(h.x1 e).1, (h.x1 e).2.below hb⟩
  case x3 => exact fun e => ⟨(h.x3 e).1, (h.x3 e).2.below hb⟩
  case y => exact h.y
  case x4 => exact fun _ => ⟨rfl, h.low.size, Blk.new _ _ _⟩
  case x5 => exact fun e => ⟨(h.x5 e).1, (h.x5 e).2.1, (h.x5 e).2.2.alloc _⟩
  case z => exact fun _ e => by have := (h.x5 e).2.2.lt; omega
theorem cq8_b5 (h : Cq8E D W b1 b3 b4 false v1 v3 v4 v5 w) : Cq8E D W b1 b3 b4 true v1 v3 v4 (.pointer (some ⟨w.heap.size, 0, none⟩)) (w.alloc (.cells #[.slice none 0 0, .slice none 0 0, (Value.int .i64 (0)), (Value.int .i64 (0)), (Value.int .i64 (0)), (Value.int .i64 (0)), (Value.int .i64 (0)), (Value.int .i64 (0)), (Value.int .i64 (0)), (Value.int .i64 (0)), (Value.int .i64 (0)), .slice none 0 0] 30)) := by
  obtain ⟨r1, r2, r3, s1, s2, s3, g4, g5, h⟩ := h
  have hb : Below w.heap.size w (w.alloc (.cells #[.slice none 0 0, .slice none 0 0, (Value.int .i64 (0)), (Value.int .i64 (0)), (Value.int .i64 (0)), (Value.int .i64 (0)), (Value.int .i64 (0)), (Value.int .i64 (0)), (Value.int .i64 (0)), (Value.int .i64 (0)), (Value.int .i64 (0)), .slice none 0 0] 30)) := bl_alloc (Below.refl _ _)
  refine ⟨r1, r2, r3, s1, s2, s3, g4, w.heap.size, ?_⟩
  constructor
  case low => exact bl_alloc h.low
  case x1 => exact fun e => ⟨(h.x1 e).1, (h.x1 e).2.below hb⟩
  case x3 => exact fun e => ⟨(h.x3 e).1, (h.x3 e).2.below hb⟩
  case y => exact h.y
  case x4 => exact fun e => ⟨(h.x4 e).1, (h.x4 e).2.1, (h.x4 e).2.2.alloc _⟩
  case x5 => exact fun _ => ⟨rfl, h.low.size, Blk.new _ _ _⟩
  case z => exact fun e _ => by have := (h.x4 e).2.2.lt; omega
end
/-- A row whose elements are no disputes does not lie in a dispute's box. -/
theorem row_box8 {w : World} {B e s n : Nat} {v : Value} {xs : List Value} (h : w.ownsRow B e s v n xs) {g : Nat} {t : TypeId} {cs : Array Value} (hb : Blk w g t cs) (ht : t ≠ e) : v.ownBlock ≠ some g := by
  intro e
  rcases h.2 with ⟨rfl, _⟩ | ⟨g', cap, cur, rfl, _, hc, _⟩
  · cases e
  · simp only [Value.ownBlock, Option.some.injEq] at e
    subst e
    have h2 := (show w.heap[g']? = some (.cells cs t) from hb).symm.trans hc
    simp only [Option.some.injEq, Obj.cells.injEq] at h2
    exact ht h2.2.1
theorem row_setBox8 {w : World} {B e s n : Nat} {v : Value} {xs : List Value} (h : w.ownsRow B e s v n xs) {g : Nat} {t : TypeId} {us cs : Array Value} (hb : Blk w g t us) (ht : t ≠ e) : (w.setRow g cs).ownsRow B e s v n xs := by
  have hne := row_box8 h hb ht
  refine ⟨h.1, ?_⟩
  rcases h.2 with h0 | ⟨g', cap, cur, rfl, hg, hc, hr⟩
  · exact .inl h0
  · exact .inr ⟨g', cap, cur, rfl, hg, (setRow_other w g g' _ (fun e => hne (by rw [e]; rfl))).trans hc, hr⟩
theorem Own8.setBox {D : Dsp} {w : World} {B : Nat} {r1 r2 r3 : Value} (h : Own8 D w B r1 r2 r3) {g : Nat} {us cs : Array Value} (hb : Blk w g 30 us) : Own8 D (w.setRow g cs) B r1 r2 r3 :=
  ⟨row_setBox8 h.1 hb (by decide), row_setBox8 h.2.1 hb (by decide), row_setBox8 h.2.2 hb (by decide)⟩
theorem blk_setRow_far8 {w : World} {g k : Nat} {t : TypeId} {us cs : Array Value} (h : Blk w k t us) (hne : k ≠ g) : Blk (w.setRow g cs) k t us := (setRow_other w g k _ hne).trans h
/-- A box stays while a row of another type turns. -/
theorem blk_row8 {w w' : World} {B e s n : Nat} {v : Value} {xs : List Value} (h : w.ownsRow B e s v n xs) {g : Nat} {t : TypeId} {cs : Array Value} (hb : Blk w g t cs) (ht : t ≠ e) (hg : w.grownBy w' v.ownBlock) : Blk w' g t cs :=
  hb.grown_ hg (row_box8 h hb ht).symm
theorem grown_cell8 (w : World) (g o : Nat) (u : Value) : w.grownBy (w.setCell ⟨g, o, none⟩ u) (some g) := grown_set8 ⟨rfl, rfl, rfl, Nat.le_refl _, fun _ _ _ => rfl⟩
theorem Own8.kept {D : Dsp} {w w' : World} {B : Nat} {r1 r2 r3 : Value} {r : Option Nat} (h : Own8 D w B r1 r2 r3) (hg : w.grownBy w' r) (n1 : r1.ownBlock = none ∨ r1.ownBlock ≠ r) (n2 : r2.ownBlock = none ∨ r2.ownBlock ≠ r) (n3 : r3.ownBlock = none ∨ r3.ownBlock ≠ r) : Own8 D w' B r1 r2 r3 :=
  ⟨World.ownsRow.kept h.1 hg n1, World.ownsRow.kept h.2.1 hg n2, World.ownsRow.kept h.2.2 hg n3⟩
/-- A cell of a dispute's box turns. -/
theorem Own8.boxCell {D : Dsp} {w : World} {B : Nat} {r1 r2 r3 : Value} (h : Own8 D w B r1 r2 r3) {g : Nat} {us : Array Value} (hb : Blk w g 30 us) (o : Nat) (u : Value) : Own8 D (w.setCell ⟨g, o, none⟩ u) B r1 r2 r3 :=
  h.kept (grown_cell8 w g o u) (.inr (row_box8 h.1 hb (by decide))) (.inr (row_box8 h.2.1 hb (by decide))) (.inr (row_box8 h.2.2 hb (by decide)))
/-- A row of numbers of one of two copies turns. -/
theorem Own8.rowI {D E : Dsp} {w w' : World} {B B' : Nat} {r1 r2 r3 s1 s2 s3 : Value} (h : Own8 D w B r1 r2 r3) (h' : Own8 E w B' s1 s2 s3) (hd : Dis8 s2 r2) (hg : w.grownBy w' s2.ownBlock) : Own8 D w' B r1 r2 r3 :=
  h.kept hg (own_ne_type h.1 h'.2.1 (by decide)) hd.hne (own_ne_type h.2.2 h'.2.1 (by decide))
theorem Own8.rowP {D E : Dsp} {w w' : World} {B B' : Nat} {r1 r2 r3 s1 s2 s3 : Value} (h : Own8 D w B r1 r2 r3) (h' : Own8 E w B' s1 s2 s3) (hd : Dis8 s1 r1) (hg : w.grownBy w' s1.ownBlock) : Own8 D w' B r1 r2 r3 :=
  h.kept hg hd.hne (own_ne_type h.2.1 h'.1 (by decide)) (own_ne_type h.2.2 h'.1 (by decide))
theorem Own8.rowW {D E : Dsp} {w w' : World} {B B' : Nat} {r1 r2 r3 s1 s2 s3 : Value} (h : Own8 D w B r1 r2 r3) (h' : Own8 E w B' s1 s2 s3) (hd : Dis8 s3 r3) (hg : w.grownBy w' s3.ownBlock) : Own8 D w' B r1 r2 r3 :=
  h.kept hg (own_ne_type h.1 h'.2.2 (by decide)) (own_ne_type h.2.1 h'.2.2 (by decide)) hd.hne
theorem rowI_at8 {w : World} {B n b : Nat} {A : Option Addr} {l : List Int} (h : RowI w B (.slice A n b) l) {k : Nat} (hk : k < l.length) : ∃ g, A = some ⟨g, 0, none⟩ := by
  rcases h.2 with ⟨e, h0⟩ | ⟨g, cap, cur, e, _⟩
  · omega
  · simp only [Value.slice.injEq] at e
    exact ⟨g, e.1⟩
theorem rowP_at8 {w : World} {B n b : Nat} {A : Option Addr} {l : List Pt} (h : RowP w B (.slice A n b) l) {k : Nat} (hk : k < l.length) : ∃ g, A = some ⟨g, 0, none⟩ := by
  rcases h.2 with ⟨e, h0⟩ | ⟨g, cap, cur, e, _⟩
  · omega
  · simp only [Value.slice.injEq] at e
    exact ⟨g, e.1⟩
theorem rowW_at8 {w : World} {B n b : Nat} {A : Option Addr} {l : List Wk} (h : RowW w B (.slice A n b) l) {k : Nat} (hk : k < l.length) : ∃ g, A = some ⟨g, 0, none⟩ := by
  rcases h.2 with ⟨e, h0⟩ | ⟨g, cap, cur, e, _⟩
  · omega
  · simp only [Value.slice.injEq] at e
    exact ⟨g, e.1⟩
theorem intsV_set (l : List Int) (k : Nat) (n : Int) : (intsV l).set k (Value.int .i64 (n)) = intsV (l.set k n) := by
  unfold intsV
  rw [List.map_set]
/-- A number of a row turns. -/
theorem RowI.put8 {w : World} {B g b : Nat} {l : List Int} (h : RowI w B (.slice (some ⟨g, 0, none⟩) l.length b) l) (k : Nat) (x : Int) : RowI (w.setCell ⟨g, k, none⟩ (Value.int .i64 (x))) B (.slice (some ⟨g, 0, none⟩) l.length b) (l.set k x) := by
  have h1 := (World.ownsRow.stored h k (Value.int .i64 (x))).1
  rw [intsV_set] at h1
  unfold RowI
  rw [List.length_set]
  exact h1
theorem own_blk8 {w : World} {B e s n g c m : Nat} {xs : List Value} (h : w.ownsRow B e s (.slice (some ⟨g, 0, none⟩) n c) m xs) : ∃ cur, Blk w g e cur := by
  rcases h.2 with ⟨h', _⟩ | ⟨g', cap', cur, h', _, hg, _⟩
  · simp at h'
  · simp only [Value.slice.injEq, Option.some.injEq, Addr.mk.injEq, and_true, true_and] at h'
    obtain ⟨rfl, _⟩ := h'
    exact ⟨cur, hg⟩
theorem four_list {α : Type} {b : List α} (h : b.length = 4) : ∃ b0 b1 b2 b3, b = [b0, b1, b2, b3] := by
  match b, h with
  | [b0, b1, b2, b3], _ => exact ⟨b0, b1, b2, b3, rfl⟩
theorem four_pos {j : Nat} (h : j < 4) : j = 0 ∨ j = 1 ∨ j = 2 ∨ j = 3 := by omega
/-- The same, by lists. -/
def Cq8L (D : Dsp) (W : World) (b : List Bool) (v : List Value) (w : World) : Prop := Cq8E D W (b.getD 0 false) (b.getD 1 false) (b.getD 2 false) (b.getD 3 false) (v.getD 0 undef) (v.getD 1 undef) (v.getD 2 undef) (v.getD 3 undef) w
end Go.Proofs.YthijegacjboclaaGreat
