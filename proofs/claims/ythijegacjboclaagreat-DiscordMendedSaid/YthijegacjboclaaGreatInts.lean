/- Slices of whole numbers in memory, and those that a call owns. -/
import Derived.Test.YthijegacjboclaaGreatJOwn
namespace Go.Proofs.YthijegacjboclaaGreat
open Go.RowKit

/-- From address b, o on the cells hold the numbers of l. -/
structure IntsAt (w : World) (b o : Nat) (l : List Int) : Prop where
  lt : b < w.heap.size
  x : ∀ i n, l[i]? = some n → w.cell? ⟨b, o + i, none⟩ = some (Value.int .i64 (n))
def Ints (w : World) (A : Option Addr) (l : List Int) : Prop := l = [] ∨ ∃ b o, A = some ⟨b, o, none⟩ ∧ IntsAt w b o l
theorem IntsAt.below {w w' : World} {b o : Nat} {l : List Int} (h : IntsAt w b o l) (hb : Below w.heap.size w w') : IntsAt w' b o l :=
  ⟨Nat.lt_of_lt_of_le h.lt hb.size, fun i n hi => (hb.cell (p := ⟨b, _, none⟩) h.lt).trans (h.x i n hi)⟩
theorem Ints.below {w w' : World} {A : Option Addr} {l : List Int} (h : Ints w A l) (hb : Below w.heap.size w w') : Ints w' A l := by
  rcases h with h | ⟨b, o, hA, h⟩
  · exact .inl h
  · exact .inr ⟨b, o, hA, h.below hb⟩
theorem Ints.at_ {w : World} {A : Option Addr} {l : List Int} (h : Ints w A l) {k : Nat} (hk : k < l.length) : ∃ b o, A = some ⟨b, o, none⟩ ∧ IntsAt w b o l := by
  rcases h with h | h
  · rw [h] at hk; exact absurd hk (by simp)
  · exact h
theorem Ints.nil {w : World} {l : List Int} (h : Ints w none l) : l = [] := by
  rcases h with h | ⟨b, o, h, _⟩
  · exact h
  · cases h
theorem own_below {w w' : World} {B e size n : Nat} {v : Value} {xs : List Value} (h : w.ownsRow B e size v n xs) (hb : Below w.heap.size w w') : w'.ownsRow B e size v n xs := by
  refine ⟨h.1, ?_⟩
  rcases h.2 with h0 | ⟨g, cap, cur, hv, hg, hc, hr⟩
  · exact .inl h0
  · exact .inr ⟨g, cap, cur, hv, hg, (hb.block g (Array.getElem?_eq_some_iff.1 hc).1).trans hc, hr⟩
/-- Number i. -/
def iat (l : List Int) (i : Nat) : Int := l.getD i 0
theorem iat_get {l : List Int} {i : Nat} (h : i < l.length) : l[i]? = some (iat l i) := by simp [iat, List.getD, h]
theorem iat_eq {l : List Int} {i : Nat} (h : i < l.length) : l[i] = iat l i := by simp [iat, List.getD, h]
theorem IntsAt.xi {w : World} {b o : Nat} {l : List Int} (h : IntsAt w b o l) {i : Nat} (hi : i < l.length) : w.cell? ⟨b, o + i, none⟩ = some (Value.int .i64 (iat l i)) := h.x i _ (iat_get hi)

def intsV (l : List Int) : List Value := l.map fun n => (Value.int .i64 (n))
theorem intsV_len (l : List Int) : (intsV l).length = l.length * 1 := by simp [intsV]
theorem intsV_one (l : List Int) : ∀ u ∈ intsV l, u.oneCell' = true := by
  intro u h
  obtain ⟨n, -, rfl⟩ := List.mem_map.1 h
  rfl
theorem intsV_append (l m : List Int) : intsV (l ++ m) = intsV l ++ intsV m := by simp [intsV]
theorem IntsAt.cellsV {w : World} {b o : Nat} {l : List Int} (h : IntsAt w b o l) : ∀ j u, (intsV l)[j]? = some u → w.cell? ((⟨b, o, none⟩ : Addr).add j) = some u := by
  intro j u hj
  rw [add_at]
  simp only [intsV, List.getElem?_map] at hj
  obtain ⟨n, hn, rfl⟩ := Option.map_eq_some_iff.1 hj
  exact h.x j n hn
theorem Ints.cellsV {w : World} {ad : Addr} {l : List Int} (h : Ints w (some ad) l) : ∀ j u, (intsV l)[j]? = some u → w.cell? (ad.add j) = some u := by
  rcases h with rfl | ⟨b, o, h, hp⟩
  · intro j u hj; simp [intsV] at hj
  · cases h; exact hp.cellsV
theorem Ints.alloc {w : World} {A : Option Addr} {l : List Int} (h : Ints w A l) (o : Obj) : Ints (w.alloc o) A l := h.below ((Below.refl _ w).alloc (Nat.le_refl _) o)
theorem intsAt_own {w : World} {B g ca n : Nat} {l : List Int} (h : w.ownsRow B 3 1 (.slice (some ⟨g, 0, none⟩) n ca) n (intsV l)) : IntsAt w g 0 l := by
  have hc := h.cells (g := g) rfl
  refine ⟨(h.lt g rfl).2, fun i n hi => ?_⟩
  have := hc i (Value.int .i64 (n)) (by simp [intsV, hi])
  rwa [add_at] at this
/-- A slice that owns its numbers, as a slice in memory. -/
theorem own_ints {w : World} {B n : Nat} {v : Value} {l : List Int} (h : w.ownsRow B 3 1 v n (intsV l)) : n = l.length ∧ ∃ A ca, v = .slice A l.length ca ∧ Ints w A l ∧ (A = none → l = []) := by
  have hn : n = l.length := by
    have h1 := h.1
    rw [intsV_len] at h1
    omega
  subst hn
  refine ⟨rfl, ?_⟩
  rcases h.2 with ⟨rfl, h0⟩ | ⟨g, cap, cur, rfl, hr⟩
  · refine ⟨none, 0, by rw [h0], .inl (List.eq_nil_of_length_eq_zero h0), fun _ => List.eq_nil_of_length_eq_zero h0⟩
  · exact ⟨_, _, rfl, .inr ⟨_, _, rfl, intsAt_own h⟩, fun e => by cases e⟩
theorem infoInt : (Tryz.prog.info? 3).map (fun i => (i.zero, i.size, i.bytes)) = some (some (.int .i64 0), 1, 8) := by kernel_rfl
theorem undInts : Tryz.prog.underlying 23 = some (.slice 3) := by kernel_rfl
end Go.Proofs.YthijegacjboclaaGreat
