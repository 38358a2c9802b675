/- The reference's functions Truths, Many, Known, Alike and Strange of sheets. -/
import Derived.Test.YtegdnbceiopklaaGreatRc4
import Derived.Test.YtegdnbceiopklaaGreatSt4
namespace Go.Proofs.YtegdnbceiopklaaGreat
open Go.RowKit Go.Shelf
attribute [local go_sem] After.cell After.frozen

def knwN (a b : Int) : Int := if a = b then 1 else if a = 0 then 2 else 3
theorem knw_eq (p : Pt → Bool) (l : List Pt) : knw p l = knwN ((cnt p l : Nat) : Int) (l.length : Int) := by
  unfold knw knwN
  by_cases h1 : cnt p l = l.length
  · rw [if_pos h1, if_pos (show ((cnt p l : Nat) : Int) = (l.length : Int) by rw [h1])]
  · rw [if_neg h1, if_neg (show ¬ ((cnt p l : Nat) : Int) = (l.length : Int) by omega)]
    by_cases h2 : cnt p l = 0
    · rw [if_pos h2, if_pos (show ((cnt p l : Nat) : Int) = 0 by rw [h2]; rfl)]
    · rw [if_neg h2, if_neg (show ¬ ((cnt p l : Nat) : Int) = 0 by omega)]
theorem knL_ok {S : Sht} {er : Int} {is : Bool} (h : knE S er is = 0) : knL S er is = trs S := if_pos h
theorem knL_no {S : Sht} {er : Int} {is : Bool} (h : knE S er is ≠ 0) : knL S er is = [] := if_neg h
/-- What known answers if nothing is wrong. -/
theorem rKn_ok (A : Option Addr) (ca : Nat) (S : Sht) (er : Int) (is : Bool) (w : World) (ha : Cts w A S.cs) (h : knE S er is = 0) :
    Calls Tryz.prog 41 #[(Value.agg #[(Value.int .i64 (S.xlo)), (Value.int .i64 (S.xhi)), (Value.int .i64 (S.ylo)), (Value.int .i64 (S.yhi)), .slice A S.cs.length ca, (Value.int .i64 (S.wrong))]), (Value.int .i64 (er)), .bool is] w fun e w' => (∃ A' ca', e = .returned (.tuple #[.slice A' (trs S).length ca', (Value.int .i64 (0))]) ∧ Prs w' A' (trs S)) ∧ Below w.heap.size w w' := by
  have := rKnown4 A ca S er is w ha
  rwa [knL_ok h, h] at this
theorem rKn_no (A : Option Addr) (ca : Nat) (S : Sht) (er : Int) (is : Bool) (w : World) (ha : Cts w A S.cs) (h : knE S er is ≠ 0) :
    Calls Tryz.prog 41 #[(Value.agg #[(Value.int .i64 (S.xlo)), (Value.int .i64 (S.xhi)), (Value.int .i64 (S.ylo)), (Value.int .i64 (S.yhi)), .slice A S.cs.length ca, (Value.int .i64 (S.wrong))]), (Value.int .i64 (er)), .bool is] w fun e w' => (∃ A' ca', e = .returned (.tuple #[.slice A' 0 ca', (Value.int .i64 (knE S er is))])) ∧ Below w.heap.size w w' := by
  have := rKnown4 A ca S er is w ha
  rw [knL_no h] at this
  exact this.mono fun e w' ⟨⟨A', ca', h1, _⟩, h2⟩ => ⟨⟨A', ca', h1⟩, h2⟩
/-- How many truths there are. -/
def mnN (S : Sht) : Int := if opS S true = 0 then ((trs S).length : Int) else 0
end Go.Proofs.YtegdnbceiopklaaGreat
