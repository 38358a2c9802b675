/- The function Twice of corners answers the doubled area of a valid polygon, or the error, for at most a million points. -/
import Derived.Test.YthijegacjboclaaGreatMom
namespace Go.Proofs.YthijegacjboclaaGreat
open Go.RowKit

/-- A number of a valid polygon, or 0. -/
def okN (l : List Pt) (n : Int) : Int := if Ok l then n else 0
theorem Pts.ok {w : World} {A : Option Addr} {l : List Pt} (h : Pts w A l) (hok : Ok l) : ∃ b o, A = some ⟨b, o, none⟩ ∧ PtsAt w b o l := h.at_ (k := 0) (by have := hok.1; omega)

section
variable (A : Option Addr) (ca : Nat) (l : List Pt) (w : World) (ha : Pts w A l) (hla : l.length ≤ 1000000)
include ha hla
theorem Twice_pts : Calls Tryz.prog 94 #[.slice A l.length ca] w fun e w' => e = .returned (.tuple #[(Value.int .i64 (okN l (tw l))), (Value.int .i64 (chk l))]) ∧ Below w.heap.size w w' := by
  by_cases hok : Ok l
  · obtain ⟨b, o, rfl, hp⟩ := ha.ok hok
    rw [okN, if_pos hok, chk_ok hok]
    exact Twice_ok b o ca l w hp hok
  · rw [okN, if_neg hok, chk_no hok]
    exact Twice_no A ca l w ha hla hok
end
end Go.Proofs.YthijegacjboclaaGreat
