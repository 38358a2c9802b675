/- Slices of points that a call owns, and points in memory as rows of cells. -/
import Derived.Test.YthijegacjboclaaSl
import Derived.Laws.AppendOwnNone
namespace Go.Proofs.Ythijegacjboclaa
open Go.RowKit

/-- The cells of points, one behind the other. -/
def ptsV : List Pt → List Value
  | [] => []
  | p :: l => (Value.int .i64 (p.1)) :: (Value.int .i64 (p.2)) :: ptsV l
theorem ptsV_len : ∀ l : List Pt, (ptsV l).length = l.length * 2
  | [] => rfl
  | p :: l => by simp [ptsV, ptsV_len l]; omega
theorem ptsV_x : ∀ (l : List Pt) (i : Nat), (ptsV l)[i * 2]? = l[i]?.map fun p => (Value.int .i64 (p.1))
  | [], i => by simp [ptsV]
  | p :: l, 0 => by simp [ptsV]
  | p :: l, i + 1 => by
    rw [show (i + 1) * 2 = i * 2 + 1 + 1 by omega]
    simpa [ptsV] using ptsV_x l i
theorem ptsV_y : ∀ (l : List Pt) (i : Nat), (ptsV l)[i * 2 + 1]? = l[i]?.map fun p => (Value.int .i64 (p.2))
  | [], i => by simp [ptsV]
  | p :: l, 0 => by simp [ptsV]
  | p :: l, i + 1 => by
    rw [show (i + 1) * 2 + 1 = (i * 2 + 1) + 1 + 1 by omega]
    simpa [ptsV] using ptsV_y l i
theorem ptsV_one : ∀ (l : List Pt), ∀ u ∈ ptsV l, u.oneCell' = true
  | [], u, h => by simp [ptsV] at h
  | p :: l, u, h => by
    simp only [ptsV, List.mem_cons] at h
    rcases h with rfl | rfl | h
    · rfl
    · rfl
    · exact ptsV_one l u h
theorem ptsV_append : ∀ (l m : List Pt), ptsV (l ++ m) = ptsV l ++ ptsV m
  | [], m => rfl
  | p :: l, m => by simp [ptsV, ptsV_append l m]
theorem add_at (b o j : Nat) : (⟨b, o, none⟩ : Addr).add j = ⟨b, o + j, none⟩ := by
  unfold Addr.add; split <;> simp_all
theorem PtsAt.cellsV {w : World} {b o : Nat} {l : List Pt} (h : PtsAt w b o l) : ∀ j u, (ptsV l)[j]? = some u → w.cell? ((⟨b, o, none⟩ : Addr).add j) = some u := by
  intro j u hj
  rw [add_at]
  obtain ⟨i, rfl | rfl⟩ : ∃ i, j = i * 2 ∨ j = i * 2 + 1 := ⟨j / 2, by omega⟩
  · rw [ptsV_x] at hj
    obtain ⟨p, hp, rfl⟩ := Option.map_eq_some_iff.1 hj
    exact h.x i p hp
  · rw [ptsV_y] at hj
    obtain ⟨p, hp, rfl⟩ := Option.map_eq_some_iff.1 hj
    exact h.y i p hp
theorem ptsAt_own {w : World} {B g ca n : Nat} {l : List Pt} (h : w.ownsRow B 49 2 (.slice (some ⟨g, 0, none⟩) n ca) n (ptsV l)) : PtsAt w g 0 l := by
  have hc := h.cells (g := g) rfl
  refine ⟨(h.lt g rfl).2, fun i p hi => ?_, fun i p hi => ?_⟩
  · have := hc (i * 2) (Value.int .i64 (p.1)) (by rw [ptsV_x, hi]; rfl)
    rwa [add_at] at this
  · have := hc (i * 2 + 1) (Value.int .i64 (p.2)) (by rw [ptsV_y, hi]; rfl)
    rwa [add_at] at this
/-- A slice that owns its points, as a slice in memory. -/
theorem own_parts {w : World} {B n : Nat} {v : Value} {l : List Pt} (h : w.ownsRow B 49 2 v n (ptsV l)) : n = l.length ∧ ∃ A ca, v = .slice A l.length ca ∧ Pts w A l := by
  have hn : n = l.length := by
    have h1 := h.1
    rw [ptsV_len] at h1
    omega
  subst hn
  refine ⟨rfl, ?_⟩
  rcases h.2 with ⟨rfl, h0⟩ | ⟨g, cap, cur, rfl, hr⟩
  · refine ⟨none, 0, by rw [h0], .inl (List.eq_nil_of_length_eq_zero h0)⟩
  · exact ⟨_, _, rfl, .inr ⟨_, _, rfl, ptsAt_own h⟩⟩
theorem bl_grown {w X Y : World} {e : TypeId} {s n : Nat} {v : Value} {xs : List Value} (h : Below w.heap.size w X) (ho : X.ownsRow w.heap.size e s v n xs) (hg : X.grownBy Y v.ownBlock) : Below w.heap.size w Y :=
  h.grown hg h.size fun k hk => (ho.lt k hk).1

theorem infoPt : (Try.prog.info? 49).map (fun i => (i.zero, i.size, i.bytes)) = some (some (.agg #[.int .i64 0, .int .i64 0]), 2, 16) := by kernel_rfl
theorem undPts : Try.prog.underlying 22 = some (.slice 49) := by kernel_rfl

theorem Pts.nil {w : World} {l : List Pt} (h : Pts w none l) : l = [] := by
  rcases h with h | ⟨b, o, h, _⟩
  · exact h
  · cases h
theorem Pts.cellsV {w : World} {ad : Addr} {l : List Pt} (h : Pts w (some ad) l) : ∀ j u, (ptsV l)[j]? = some u → w.cell? (ad.add j) = some u := by
  rcases h with rfl | ⟨b, o, h, hp⟩
  · intro j u hj; simp [ptsV] at hj
  · cases h; exact hp.cellsV
theorem Pts.alloc {w : World} {A : Option Addr} {l : List Pt} (h : Pts w A l) (o : Obj) : Pts (w.alloc o) A l := h.below ((Below.refl _ w).alloc (Nat.le_refl _) o)
end Go.Proofs.Ythijegacjboclaa
