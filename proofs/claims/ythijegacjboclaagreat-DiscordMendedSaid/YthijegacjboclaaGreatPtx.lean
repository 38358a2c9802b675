/- Points and numbers in memory that lie off a row which grows or turns. -/
import Derived.Test.YthijegacjboclaaGreatInts
import Derived.Test.YthijegacjboclaaGreatJOwn
namespace Go.Proofs.YthijegacjboclaaGreat
open Go.RowKit

/-- Points from block lo on, not in the row's own block. -/
def PtsX (w : World) (lo : Nat) (r : Option Nat) (A : Option Addr) (l : List Pt) : Prop := l = [] ∨ ∃ b o, A = some ⟨b, o, none⟩ ∧ lo ≤ b ∧ some b ≠ r ∧ PtsAt w b o l
def IntsX (w : World) (lo : Nat) (r : Option Nat) (A : Option Addr) (l : List Int) : Prop := l = [] ∨ ∃ b o, A = some ⟨b, o, none⟩ ∧ lo ≤ b ∧ some b ≠ r ∧ IntsAt w b o l
theorem PtsAt.grown {w w' : World} {b o : Nat} {l : List Pt} {r : Option Nat} (h : PtsAt w b o l) (hg : w.grownBy w' r) (hr : some b ≠ r) : PtsAt w' b o l :=
  ⟨Nat.lt_of_lt_of_le h.lt hg.size, fun i p hi => hg.cell (h.x i p hi) hr, fun i p hi => hg.cell (h.y i p hi) hr⟩
theorem IntsAt.grown {w w' : World} {b o : Nat} {l : List Int} {r : Option Nat} (h : IntsAt w b o l) (hg : w.grownBy w' r) (hr : some b ≠ r) : IntsAt w' b o l :=
  ⟨Nat.lt_of_lt_of_le h.lt hg.size, fun i p hi => hg.cell (h.x i p hi) hr⟩
section
variable {w w' : World} {lo : Nat} {r : Option Nat} {A : Option Addr}
theorem PtsX.pts {l : List Pt} (h : PtsX w lo r A l) : Pts w A l := h.imp id fun ⟨b, o, e, _, _, hp⟩ => ⟨b, o, e, hp⟩
theorem PtsX.grown {l : List Pt} (h : PtsX w lo r A l) (hg : w.grownBy w' r) : PtsX w' lo r A l := h.imp id fun ⟨b, o, e, hl, hr, hp⟩ => ⟨b, o, e, hl, hr, hp.grown hg hr⟩
theorem PtsX.below {l : List Pt} (h : PtsX w lo r A l) (hb : Below w.heap.size w w') : PtsX w' lo r A l := h.imp id fun ⟨b, o, e, hl, hr, hp⟩ => ⟨b, o, e, hl, hr, hp.below hb⟩
theorem PtsX.moved {l : List Pt} (h : PtsX w lo r A l) {r' : Option Nat} (hr' : r' = r ∨ ∃ g, r' = some g ∧ w.heap.size ≤ g) : PtsX w lo r' A l := by
  rcases h with h | ⟨b, o, e, hl, hr, hp⟩
  · exact .inl h
  · refine .inr ⟨b, o, e, hl, ?_, hp⟩
    rcases hr' with rfl | ⟨g, rfl, hg⟩
    · exact hr
    · have := hp.lt
      simp only [ne_eq, Option.some.injEq]
      omega
theorem PtsX.mono {l : List Pt} (h : PtsX w lo r A l) {lo' : Nat} (hl : lo' ≤ lo) : PtsX w lo' r A l := h.imp id fun ⟨b, o, e, h1, hr, hp⟩ => ⟨b, o, e, by omega, hr, hp⟩
theorem PtsX.off {l : List Pt} (h : PtsX w lo r A l) {r' : Option Nat} (hr' : ∀ g, r' = some g → g < lo) : PtsX w lo r' A l := by
  rcases h with h | ⟨b, o, e, hl, hr, hp⟩
  · exact .inl h
  · refine .inr ⟨b, o, e, hl, fun e => ?_, hp⟩
    have := hr' b e.symm
    omega
theorem IntsX.ints {l : List Int} (h : IntsX w lo r A l) : Ints w A l := h.imp id fun ⟨b, o, e, _, _, hp⟩ => ⟨b, o, e, hp⟩
theorem IntsX.grown {l : List Int} (h : IntsX w lo r A l) (hg : w.grownBy w' r) : IntsX w' lo r A l := h.imp id fun ⟨b, o, e, hl, hr, hp⟩ => ⟨b, o, e, hl, hr, hp.grown hg hr⟩
theorem IntsX.below {l : List Int} (h : IntsX w lo r A l) (hb : Below w.heap.size w w') : IntsX w' lo r A l := h.imp id fun ⟨b, o, e, hl, hr, hp⟩ => ⟨b, o, e, hl, hr, hp.below hb⟩
theorem IntsX.moved {l : List Int} (h : IntsX w lo r A l) {r' : Option Nat} (hr' : r' = r ∨ ∃ g, r' = some g ∧ w.heap.size ≤ g) : IntsX w lo r' A l := by
  rcases h with h | ⟨b, o, e, hl, hr, hp⟩
  · exact .inl h
  · refine .inr ⟨b, o, e, hl, ?_, hp⟩
    rcases hr' with rfl | ⟨g, rfl, hg⟩
    · exact hr
    · have := hp.lt
      simp only [ne_eq, Option.some.injEq]
      omega
theorem IntsX.off {l : List Int} (h : IntsX w lo r A l) {r' : Option Nat} (hr' : ∀ g, r' = some g → g < lo) : IntsX w lo r' A l := by
  rcases h with h | ⟨b, o, e, hl, hr, hp⟩
  · exact .inl h
  · refine .inr ⟨b, o, e, hl, fun e => ?_, hp⟩
    have := hr' b e.symm
    omega
end

end Go.Proofs.YthijegacjboclaaGreat
