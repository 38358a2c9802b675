/- Points that a call owns, one of them stored anew. -/
import Derived.Test.YtfgplmgkejeoiaaHelp5
import Derived.Test.YtfgplmgkejeoiaaElf
namespace Go.Proofs.Ytfgplmgkejeoiaa
open Go.RowKit

theorem ptsV_set : ∀ (l : List Pt) (k : Nat) (p : Pt), ptsV (l.set k p) = ((ptsV l).set (k * 2) (Value.int .i64 (p.1))).set (k * 2 + 1) (Value.int .i64 (p.2))
  | [], k, p => by simp [ptsV]
  | a :: t, 0, p => by simp [ptsV]
  | a :: t, k + 1, p => by
    have ih := ptsV_set t k p
    rw [List.set_cons_succ, ptsV, ih, ptsV]
    rw [show (k + 1) * 2 = k * 2 + 1 + 1 by omega]
    rfl
/-- The block of a row, and what is in it. -/
theorem RowP.blk {w : World} {B g n ca : Nat} {l : List Pt} (h : RowP w B (.slice (some ⟨g, 0, none⟩) n ca) l) : ∃ cur, Blk w g 31 cur ∧ B ≤ g ∧ cur.toList.take (l.length * 2) = ptsV l ∧ l.length * 2 ≤ cur.size ∧ n = l.length ∧ n ≤ ca ∧ ca ≤ maxLen ∧ cur.size = ca * 2 := by
  obtain ⟨h1, h2⟩ := h
  rcases h2 with ⟨e, _⟩ | ⟨g', cap, cur, e, hB, hc, h3, h4, h5, h6⟩
  · simp at e
  · simp only [Value.slice.injEq, Option.some.injEq, Addr.mk.injEq, and_true] at e
    obtain ⟨rfl, rfl, rfl⟩ := e
    exact ⟨cur, hc, hB, h6, by omega, rfl, h3, h4, h5⟩
theorem RowP.head {w : World} {B n : Nat} {v : Value} {l : List Pt} (h : w.ownsRow B 31 2 v n (ptsV l)) (hl : 0 < l.length) : ∃ g ca, v = .slice (some ⟨g, 0, none⟩) l.length ca ∧ RowP w B (.slice (some ⟨g, 0, none⟩) l.length ca) l ∧ B ≤ g := by
  have hn : n = l.length := by
    have h1 := h.1
    rw [ptsV_len] at h1
    omega
  subst hn
  rcases h.2 with ⟨_, h2⟩ | ⟨g, cap, cur, e, hB, _⟩
  · omega
  · subst e
    exact ⟨g, cap, rfl, h, hB⟩
theorem RowP.cells {w : World} {B g n ca : Nat} {l : List Pt} (h : RowP w B (.slice (some ⟨g, 0, none⟩) n ca) l) {k : Nat} (hk : k < l.length) :
    g < w.heap.size ∧ w.cell? ⟨g, k * 2, none⟩ = some (Value.int .i64 ((pat l k).1)) ∧ w.cell? ⟨g, k * 2 + 1, none⟩ = some (Value.int .i64 ((pat l k).2)) ∧ w.frozen? ⟨g, k * 2, none⟩ = false ∧ w.frozen? ⟨g, k * 2 + 1, none⟩ = false := by
  obtain ⟨cur, hb, hB, ht, hs, _⟩ := h.blk
  have hx : ∀ i, i < l.length * 2 → cur[i]? = (ptsV l)[i]? := fun i hi => by
    rw [← ht, List.getElem?_take_of_lt hi, Array.getElem?_toList]
  refine ⟨hb.lt, ?_, ?_, hb.frozen _, hb.frozen _⟩
  · rw [hb.cell, hx _ (by omega), ptsV_x, pat_get hk]
    rfl
  · rw [hb.cell, hx _ (by omega), ptsV_y, pat_get hk]
    rfl
theorem RowP.set {w : World} {B g n ca : Nat} {l : List Pt} (h : RowP w B (.slice (some ⟨g, 0, none⟩) n ca) l) {k : Nat} (hk : k < l.length) (x y : Int) :
    RowP ((w.setCell ⟨g, k * 2, none⟩ (Value.int .i64 (x))).setCell ⟨g, k * 2 + 1, none⟩ (Value.int .i64 (y))) B (.slice (some ⟨g, 0, none⟩) n ca) (l.set k (x, y)) := by
  obtain ⟨cur, hb, hB, ht, hs, h1, h2, h3, h4⟩ := h.blk
  have hb2 := (hb.set_ (k * 2) (Value.int .i64 (x))).set_ (k * 2 + 1) (Value.int .i64 (y))
  refine ⟨by rw [ptsV_len], .inr ⟨g, ca, _, by rw [List.length_set, ← h1], hB, hb2, by rw [List.length_set]; omega, h3, by simpa using h4, ?_⟩⟩
  rw [Array.toList_setIfInBounds, Array.toList_setIfInBounds, List.take_set, List.take_set, List.length_set, ht, ptsV_set]
/-- The first k points moved. -/
def mvTk (d : Pt) (l : List Pt) (k : Nat) : List Pt := (mvP d l).take k ++ l.drop k
theorem mvTk_len (d : Pt) (l : List Pt) (k : Nat) : (mvTk d l k).length = l.length := by simp [mvTk, mvP]; omega
theorem mvTk_zero (d : Pt) (l : List Pt) : mvTk d l 0 = l := by simp [mvTk]
theorem mvTk_all (d : Pt) (l : List Pt) : mvTk d l l.length = mvP d l := by rw [mvTk, List.take_of_length_le (by rw [mvP_len]; omega), List.drop_length, List.append_nil]
theorem mvTk_succ {d : Pt} {l : List Pt} {k : Nat} (h : k < l.length) : (mvTk d l k).set k ((pat l k).1 + d.1, (pat l k).2 + d.2) = mvTk d l (k + 1) := by
  have e1 : (mvP d l).take (k + 1) = (mvP d l).take k ++ [((pat l k).1 + d.1, (pat l k).2 + d.2)] := by
    rw [List.take_add_one, pat_get (by rw [mvP_len]; exact h), mvP_at h]
    rfl
  have e2 : l.drop k = pat l k :: l.drop (k + 1) := by rw [← List.getElem_cons_drop h, pat_eq h]
  have e3 : ((mvP d l).take k).length = k := by rw [List.length_take, mvP_len]; omega
  rw [mvTk, mvTk, e1, e2, List.set_append_right _ _ (by omega), e3, Nat.sub_self, List.set_cons_zero, List.append_assoc, List.singleton_append]
theorem RowP.far {w : World} {B : Nat} {v : Value} {l : List Pt} (h : RowP w B v l) {p : Addr} (hp : v.ownBlock ≠ some p.block) (u : Value) : RowP (w.setCell p u) B v l := by
  refine ⟨h.1, ?_⟩
  rcases h.2 with h0 | ⟨g, cap, cur, hv, hg, hc, hr⟩
  · exact .inl h0
  · refine .inr ⟨g, cap, cur, hv, hg, (Below.heap_setCell w p u g fun e => hp ?_).trans hc, hr⟩
    rw [hv, e]
    rfl
theorem RowP.pts {w : World} {B g n ca : Nat} {l : List Pt} (h : RowP w B (.slice (some ⟨g, 0, none⟩) n ca) l) : Pts w (some ⟨g, 0, none⟩) l := by
  obtain ⟨_, A', ca', e, hP⟩ := own_parts h
  simp only [Value.slice.injEq] at e
  rw [e.1]
  exact hP
theorem RowP.base {w : World} {B g n ca : Nat} {l : List Pt} (h : RowP w B (.slice (some ⟨g, 0, none⟩) n ca) l) : B ≤ g ∧ g < w.heap.size := by
  obtain ⟨cur, hb, hB, _⟩ := h.blk
  exact ⟨hB, hb.lt⟩
theorem wpList_copy_own {ops : Array Oper} {rest : List Oper} {o : Oper} {a : Act} {X : World} {Q : Exit → Act → World → Prop} (hgd : o.guard = none) (s x : Operand) (ho : o.op = .call { callee := .builtin .append, args := #[s, x], argTypes := #[22, 22] })
    (N : Nat) (hN : N = X.heap.size) (ad : Addr) (cb : Nat) (m : List Pt) (hs : a.eval s = .slice (some ⟨N, 0, none⟩) 0 0) (hx : a.eval x = .slice (some ad) m.length cb) (hP : Pts X (some ad) m) (hm : 0 < m.length) (hl : m.length ≤ 1000000)
    (h : ∀ g ca' w', RowP w' X.heap.size (.slice (some ⟨g, 0, none⟩) m.length ca') m → Below X.heap.size X w' → wpList Try.prog ops Q rest (a.put o.dst (.slice (some ⟨g, 0, none⟩) m.length ca')) w') : wpList Try.prog ops Q (o :: rest) a (X.alloc (.cells #[] 31)) := by
  subst hN
  obtain ⟨i0, hi, hz0, hz1, hz2⟩ := info_parts infoPt
  have hmade := World.ownsRow_made (base := X.heap.size) (e := 31) (size := 2) X #[] 0 (Nat.le_refl _) (by decide) rfl
  refine wpList_append_own _ hgd s x 22 ho X.heap.size 31 i0 _ 2 16 undPts hi hz0 hz1 hz2 rfl (by decide) _ 0 [] hs hmade ad m.length cb (ptsV m) hx (ptsV_len m) (hP.alloc _).cellsV (ptsV_one m) (by unfold maxLen; omega) (by omega) (by simp) ?_
  intro v' w1 hown hgrow _
  have hb : Below X.heap.size X w1 := bl_grown (bl_alloc (Below.refl _ _)) hmade hgrow
  rw [Nat.zero_add, List.nil_append] at hown
  obtain ⟨g, ca', rfl, hR, _⟩ := RowP.head hown hm
  exact h g ca' w1 hR hb
end Go.Proofs.Ytfgplmgkejeoiaa
