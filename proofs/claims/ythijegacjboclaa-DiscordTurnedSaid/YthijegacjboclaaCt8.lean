/- Two copies of a dispute in memory whose corners, Offs and walks turn one by one. -/
import Derived.Test.YthijegacjboclaaCq8
import Derived.Test.YthijegacjboclaaJPu8
namespace Go.Proofs.Ythijegacjboclaa
open Go.RowKit

/-- The first k elements of m, and then those of l. -/
def mixTo {α : Type} (m l : List α) (k : Nat) : List α := m.take k ++ l.drop k
section
variable {α : Type} {m l : List α} {k : Nat}
theorem mixTo_zero : mixTo m l 0 = l := by simp [mixTo]
theorem mixTo_full (h : m.length = l.length) : mixTo m l l.length = m := by simp [mixTo, ← h]
theorem mixTo_len (h : m.length = l.length) (hk : k ≤ l.length) : (mixTo m l k).length = l.length := by
  unfold mixTo
  rw [List.length_append, List.length_take, List.length_drop]
  omega
theorem mixTo_succ (h : m.length = l.length) (hk : k < l.length) {a : α} (ha : m[k]? = some a) : (mixTo m l k).set k a = mixTo m l (k + 1) := by
  unfold mixTo
  rw [List.set_append_right _ _ (by simp; omega), List.length_take, show k - min k m.length = 0 by omega, List.drop_eq_getElem_cons hk, List.set_cons_zero, List.take_add_one, ha]
  simp
end
theorem ptsV_set : ∀ (l : List Pt) (k : Nat) (p : Pt), k < l.length → ((ptsV l).set (k * 2) (Value.int .i64 (p.1))).set (k * 2 + 1) (Value.int .i64 (p.2)) = ptsV (l.set k p)
  | [], k, p, h => by simp at h
  | q :: l, 0, p, h => by simp [ptsV]
  | q :: l, k + 1, p, h => by
    have ih := ptsV_set l k p (by simpa using h)
    rw [List.set_cons_succ]
    simp only [ptsV]
    rw [show (k + 1) * 2 = k * 2 + 1 + 1 by omega, List.set_cons_succ, List.set_cons_succ, List.set_cons_succ, List.set_cons_succ, ih]
theorem set_five {α : Type} (a b c d e : α) (t : List α) (n : Nat) (v : α) : (a :: b :: c :: d :: e :: t).set (n + 5) v = a :: b :: c :: d :: e :: t.set n v := rfl
theorem recV_set5 : ∀ (l : List Wk) (k : Nat) (x : Wk), k < l.length → (((((recV wkE l).set (k * 5) (Value.int .i64 (x.sense))).set (k * 5 + 1) (Value.int .i64 (x.side))).set (k * 5 + 2) (Value.int .i64 (x.inside))).set (k * 5 + 3) (Value.int .i64 (x.start))).set (k * 5 + 4) (Value.int .i64 (x.fin)) = recV wkE (l.set k x)
  | [], k, p, h => by simp at h
  | q :: l, 0, p, h => by simp [recV, wkE]
  | q :: l, k + 1, p, h => by
    have ih := recV_set5 l k p (by simpa using h)
    rw [List.set_cons_succ]
    simp only [recV, wkE, List.map_cons, List.map_nil, List.cons_append, List.nil_append]
    rw [show (k + 1) * 5 = k * 5 + 5 by omega, set_five, show k * 5 + 5 + 1 = k * 5 + 1 + 5 by omega, set_five, show k * 5 + 5 + 2 = k * 5 + 2 + 5 by omega, set_five, show k * 5 + 5 + 3 = k * 5 + 3 + 5 by omega, set_five, show k * 5 + 5 + 4 = k * 5 + 4 + 5 by omega, set_five, ih]
structure Tr8 (D : Dsp) (wn : World) (g4 g5 : Nat) (A1 : Option Addr) (a1 : Nat) (B1 : Option Addr) (b1 : Nat) (C1 : Option Addr) (c1 : Nat) (A2 : Option Addr) (a2 : Nat) (B2 : Option Addr) (b2 : Nat) (C2 : Option Addr) (c2 : Nat) (E F : Dsp) (w : World) : Prop where
  low : Below wn.heap.size wn w
  k4 : Blk w g4 30 #[.slice A1 D.cs.length a1, .slice B1 D.offs.length b1, (Value.int .i64 (D.unit)), (Value.int .i64 (D.wh.full)), (Value.int .i64 (D.wh.read)), (Value.int .i64 (D.wh.slip)), (Value.int .i64 (D.wh.skew)), (Value.int .i64 (D.wh.circle)), (Value.int .i64 (D.wh.glo)), (Value.int .i64 (D.wh.ghi)), (Value.int .i64 (D.wh.wrong)), .slice C1 D.wks.length c1]
  k5 : Blk w g5 30 #[.slice A2 D.cs.length a2, .slice B2 D.offs.length b2, (Value.int .i64 (D.unit)), (Value.int .i64 (D.wh.full)), (Value.int .i64 (D.wh.read)), (Value.int .i64 (D.wh.slip)), (Value.int .i64 (D.wh.skew)), (Value.int .i64 (D.wh.circle)), (Value.int .i64 (D.wh.glo)), (Value.int .i64 (D.wh.ghi)), (Value.int .i64 (D.wh.wrong)), .slice C2 D.wks.length c2]
  o : Own8 E w wn.heap.size (.slice A1 D.cs.length a1) (.slice B1 D.offs.length b1) (.slice C1 D.wks.length c1)
  p : Own8 F w wn.heap.size (.slice A2 D.cs.length a2) (.slice B2 D.offs.length b2) (.slice C2 D.wks.length c2)
section
variable {D : Dsp} {wn : World} {g4 g5 : Nat} {A1 : Option Addr} {a1 : Nat} {B1 : Option Addr} {b1 : Nat} {C1 : Option Addr} {c1 : Nat} {A2 : Option Addr} {a2 : Nat} {B2 : Option Addr} {b2 : Nat} {C2 : Option Addr} {c2 : Nat} {E F : Dsp} {w : World} {ga k : Nat}
theorem Tr8.below {w' : World} (h : Tr8 D wn g4 g5 A1 a1 B1 b1 C1 c1 A2 a2 B2 b2 C2 c2 E F w) (hb : Below w.heap.size w w') : Tr8 D wn g4 g5 A1 a1 B1 b1 C1 c1 A2 a2 B2 b2 C2 c2 E F w' :=
  ⟨bl_call h.low hb, h.k4.below hb, h.k5.below hb, h.o.below hb, h.p.below hb⟩
def set2 (w : World) (g k : Nat) (p : Pt) : World := (w.setCell ⟨g, k * 2, none⟩ (Value.int .i64 (p.1))).setCell ⟨g, k * 2 + 1, none⟩ (Value.int .i64 (p.2))
def set5 (w : World) (g k : Nat) (x : Wk) : World := ((((w.setCell ⟨g, k * 5, none⟩ (Value.int .i64 (x.sense))).setCell ⟨g, k * 5 + 1, none⟩ (Value.int .i64 (x.side))).setCell ⟨g, k * 5 + 2, none⟩ (Value.int .i64 (x.inside))).setCell ⟨g, k * 5 + 3, none⟩ (Value.int .i64 (x.start))).setCell ⟨g, k * 5 + 4, none⟩ (Value.int .i64 (x.fin))
theorem grown_set2 (w : World) (g k : Nat) (p : Pt) : w.grownBy (set2 w g k p) (some g) := grown_set8 (grown_cell8 w g _ _)
theorem grown_set5 (w : World) (g k : Nat) (x : Wk) : w.grownBy (set5 w g k x) (some g) := grown_set8 (grown_set8 (grown_set8 (grown_set8 (grown_cell8 w g _ _))))
theorem RowP.put8 {l : List Pt} {B n : Nat} (hk : k < l.length) (hn : n = l.length) (h : RowP w B (.slice (some ⟨ga, 0, none⟩) n a1) l) (p : Pt) : RowP (set2 w ga k p) B (.slice (some ⟨ga, 0, none⟩) n a1) (l.set k p) := by
  subst hn
  have h1 := (World.ownsRow.stored (World.ownsRow.stored h (k * 2) (Value.int .i64 (p.1))).1 (k * 2 + 1) (Value.int .i64 (p.2))).1
  rw [ptsV_set l k p hk] at h1
  unfold RowP
  rw [List.length_set]
  exact h1
theorem RowW.put8 {l : List Wk} {B n : Nat} (hk : k < l.length) (hn : n = l.length) (h : RowW w B (.slice (some ⟨ga, 0, none⟩) n a1) l) (x : Wk) : RowW (set5 w ga k x) B (.slice (some ⟨ga, 0, none⟩) n a1) (l.set k x) := by
  subst hn
  have h0 : w.ownsRow B 32 5 (.slice (some ⟨ga, 0, none⟩) l.length a1) l.length (recV wkE l) := h
  have h1 := (World.ownsRow.stored (World.ownsRow.stored (World.ownsRow.stored (World.ownsRow.stored (World.ownsRow.stored h0 (k * 5) (Value.int .i64 (x.sense))).1 (k * 5 + 1) (Value.int .i64 (x.side))).1 (k * 5 + 2) (Value.int .i64 (x.inside))).1 (k * 5 + 3) (Value.int .i64 (x.start))).1 (k * 5 + 4) (Value.int .i64 (x.fin))).1
  rw [recV_set5 l k x hk] at h1
  unfold RowW RowR
  rw [List.length_set]
  exact h1
theorem RowI.put9 {l : List Int} {B n : Nat} (hn : n = l.length) (h : RowI w B (.slice (some ⟨ga, 0, none⟩) n a1) l) (x : Int) : RowI (w.setCell ⟨ga, k, none⟩ (Value.int .i64 (x))) B (.slice (some ⟨ga, 0, none⟩) n a1) (l.set k x) := by
  subst hn
  exact RowI.put8 h k x
theorem own_lo8 {B e s n c m : Nat} {xs : List Value} (h : w.ownsRow B e s (.slice (some ⟨ga, 0, none⟩) n c) m xs) : B ≤ ga := (World.ownsRow.lt h ga rfl).1
theorem low_set {w' : World} (hl : Below wn.heap.size wn w) (hg : w.grownBy w' (some ga)) (h : wn.heap.size ≤ ga) : Below wn.heap.size wn w' := hl.grown hg hl.size fun k hk => by cases hk; exact h
/-- A corner of the first copy turns. -/
theorem Tr8.cor (h : Tr8 D wn g4 g5 (some ⟨ga, 0, none⟩) a1 B1 b1 C1 c1 A2 a2 B2 b2 C2 c2 E F w) (hk : k < E.cs.length) (hn : D.cs.length = E.cs.length) (hd : Dis8 (.slice (some ⟨ga, 0, none⟩) D.cs.length a1) (.slice A2 D.cs.length a2)) (p : Pt) :
    Tr8 D wn g4 g5 (some ⟨ga, 0, none⟩) a1 B1 b1 C1 c1 A2 a2 B2 b2 C2 c2 ⟨E.cs.set k p, E.offs, E.unit, E.wh, E.wks⟩ F (set2 w ga k p) := by
  have hg := grown_set2 w ga k p
  refine ⟨low_set h.low hg (own_lo8 h.o.1), blk_row8 h.o.1 h.k4 (by decide) hg, blk_row8 h.o.1 h.k5 (by decide) hg, ⟨RowP.put8 hk hn h.o.1 p, ?_, ?_⟩, h.p.rowP h.o hd hg⟩
  · exact World.ownsRow.kept h.o.2.1 hg (own_ne_type h.o.2.1 h.o.1 (by decide))
  · exact World.ownsRow.kept h.o.2.2 hg (own_ne_type h.o.2.2 h.o.1 (by decide))
/-- A number of the first copy turns. -/
theorem Tr8.off (h : Tr8 D wn g4 g5 A1 a1 (some ⟨ga, 0, none⟩) b1 C1 c1 A2 a2 B2 b2 C2 c2 E F w) (hn : D.offs.length = E.offs.length) (hd : Dis8 (.slice (some ⟨ga, 0, none⟩) D.offs.length b1) (.slice B2 D.offs.length b2)) (x : Int) :
    Tr8 D wn g4 g5 A1 a1 (some ⟨ga, 0, none⟩) b1 C1 c1 A2 a2 B2 b2 C2 c2 ⟨E.cs, E.offs.set k x, E.unit, E.wh, E.wks⟩ F (w.setCell ⟨ga, k, none⟩ (Value.int .i64 (x))) := by
  have hg := grown_cell8 w ga k (Value.int .i64 (x))
  refine ⟨low_set h.low hg (own_lo8 h.o.2.1), blk_row8 h.o.2.1 h.k4 (by decide) hg, blk_row8 h.o.2.1 h.k5 (by decide) hg, ⟨?_, RowI.put9 hn h.o.2.1 x, ?_⟩, h.p.rowI h.o hd hg⟩
  · exact World.ownsRow.kept h.o.1 hg (own_ne_type h.o.1 h.o.2.1 (by decide))
  · exact World.ownsRow.kept h.o.2.2 hg (own_ne_type h.o.2.2 h.o.2.1 (by decide))
/-- A walk of the first copy turns. -/
theorem Tr8.wk (h : Tr8 D wn g4 g5 A1 a1 B1 b1 (some ⟨ga, 0, none⟩) c1 A2 a2 B2 b2 C2 c2 E F w) (hk : k < E.wks.length) (hn : D.wks.length = E.wks.length) (hd : Dis8 (.slice (some ⟨ga, 0, none⟩) D.wks.length c1) (.slice C2 D.wks.length c2)) (x : Wk) :
    Tr8 D wn g4 g5 A1 a1 B1 b1 (some ⟨ga, 0, none⟩) c1 A2 a2 B2 b2 C2 c2 ⟨E.cs, E.offs, E.unit, E.wh, E.wks.set k x⟩ F (set5 w ga k x) := by
  have hg := grown_set5 w ga k x
  refine ⟨low_set h.low hg (own_lo8 h.o.2.2), blk_row8 h.o.2.2 h.k4 (by decide) hg, blk_row8 h.o.2.2 h.k5 (by decide) hg, ⟨?_, ?_, RowW.put8 hk hn h.o.2.2 x⟩, h.p.rowW h.o hd hg⟩
  · exact World.ownsRow.kept h.o.1 hg (own_ne_type h.o.1 h.o.2.2 (by decide))
  · exact World.ownsRow.kept h.o.2.1 hg (own_ne_type h.o.2.1 h.o.2.2 (by decide))
/-- A corner of the second copy turns. -/
theorem Tr8.pcor (h : Tr8 D wn g4 g5 A1 a1 B1 b1 C1 c1 (some ⟨ga, 0, none⟩) a2 B2 b2 C2 c2 E F w) (hk : k < F.cs.length) (hn : D.cs.length = F.cs.length) (hd : Dis8 (.slice (some ⟨ga, 0, none⟩) D.cs.length a2) (.slice A1 D.cs.length a1)) (p : Pt) :
    Tr8 D wn g4 g5 A1 a1 B1 b1 C1 c1 (some ⟨ga, 0, none⟩) a2 B2 b2 C2 c2 E ⟨F.cs.set k p, F.offs, F.unit, F.wh, F.wks⟩ (set2 w ga k p) := by
  have hg := grown_set2 w ga k p
  refine ⟨low_set h.low hg (own_lo8 h.p.1), blk_row8 h.p.1 h.k4 (by decide) hg, blk_row8 h.p.1 h.k5 (by decide) hg, h.o.rowP h.p hd hg, ⟨RowP.put8 hk hn h.p.1 p, ?_, ?_⟩⟩
  · exact World.ownsRow.kept h.p.2.1 hg (own_ne_type h.p.2.1 h.p.1 (by decide))
  · exact World.ownsRow.kept h.p.2.2 hg (own_ne_type h.p.2.2 h.p.1 (by decide))
end
theorem grown_bl {w w' w'' : World} {r : Option Nat} (h : w.grownBy w' r) (hb : Below w'.heap.size w' w'') : w.grownBy w'' r :=
  ⟨hb.os.trans h.os, hb.tape.trans h.tape, hb.output.trans h.output, Nat.le_trans h.size hb.size, fun k hk hne => (hb.block k (Nat.lt_of_lt_of_le hk h.size)).trans (h.block k hk hne)⟩
theorem iat_rotL {l : List Int} {f i : Nat} (hf : f < l.length) (hi : i < l.length) : iat (rotL l f) i = iat l ((f + i) % l.length) := by
  unfold iat
  rw [List.getD_eq_getElem?_getD, List.getD_eq_getElem?_getD, rotL_at hf hi]
theorem rowP_pts8 {w : World} {B g n a : Nat} {l : List Pt} (h : RowP w B (.slice (some ⟨g, 0, none⟩) n a) l) : PtsAt w g 0 l := by
  have hl := (World.ownsRow.lt h g rfl).2
  obtain ⟨A, ca, e, hP⟩ := h.parts
  simp only [Value.slice.injEq] at e
  obtain ⟨rfl, -, -⟩ := e
  rcases hP with rfl | ⟨b, o, e, p⟩
  · exact ⟨hl, fun i p hi => by simp at hi, fun i p hi => by simp at hi⟩
  · cases e; exact p
theorem rowI_ints8 {w : World} {B g n a : Nat} {l : List Int} (h : RowI w B (.slice (some ⟨g, 0, none⟩) n a) l) : IntsAt w g 0 l := by
  have hl := (World.ownsRow.lt h g rfl).2
  obtain ⟨A, ca, e, hP⟩ := h.parts
  simp only [Value.slice.injEq] at e
  obtain ⟨rfl, -, -⟩ := e
  rcases hP with rfl | ⟨b, o, e, p⟩
  · exact ⟨hl, fun i p hi => by simp at hi⟩
  · cases e; exact p
theorem rowW_wks8 {w : World} {B g n a : Nat} {l : List Wk} (h : RowW w B (.slice (some ⟨g, 0, none⟩) n a) l) : RecAt wkE w g 0 l := by
  have hl := (World.ownsRow.lt h g rfl).2
  obtain ⟨A, ca, e, hP⟩ := RowR.parts8 h
  simp only [Value.slice.injEq] at e
  obtain ⟨rfl, -, -⟩ := e
  rcases hP with rfl | ⟨b, o, e, p⟩
  · exact ⟨hl, fun i u hi => by simp [recV] at hi⟩
  · cases e; exact p
/-- A world in which all but two blocks lie as they lay in w. -/
structure After2 (w : World) (r s : Nat) where
  val : World
  os : val.os = w.os
  size : w.heap.size ≤ val.heap.size
  block : ∀ k, k < w.heap.size → k ≠ r → k ≠ s → val.heap[k]? = w.heap[k]?
theorem After2.cell {w : World} {r s : Nat} (z : After2 w r s) (b o : Nat) (h : b < w.heap.size) (hr : b ≠ r) (hs : b ≠ s) : z.val.cell? ⟨b, o, none⟩ = w.cell? ⟨b, o, none⟩ :=
  World.cell?_of_block (a := ⟨b, o, none⟩) (z.block b h hr hs)
theorem After2.frozen {w : World} {r s : Nat} (z : After2 w r s) (b o : Nat) (h : b < w.heap.size) (hr : b ≠ r) (hs : b ≠ s) : z.val.frozen? ⟨b, o, none⟩ = w.frozen? ⟨b, o, none⟩ :=
  World.frozen?_of_block (a := ⟨b, o, none⟩) (z.block b h hr hs)
def After2.of {w w' : World} {r s : Nat} (hg : w.grownBy w' (some r)) : After2 w r s := ⟨w', hg.os, hg.size, fun k hk hr _ => hg.block k hk (by simpa using hr)⟩
def After2.of2 {w w' w'' : World} {r s : Nat} (hg : w.grownBy w' (some r)) (hg2 : w'.grownBy w'' (some s)) : After2 w r s := ⟨w'', hg2.os.trans hg.os, Nat.le_trans hg.size hg2.size, fun k hk hr hs => (hg2.block k (Nat.lt_of_lt_of_le hk hg.size) (by simpa using hs)).trans (hg.block k hk (by simpa using hr))⟩
end Go.Proofs.Ythijegacjboclaa
