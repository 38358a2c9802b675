/- The functions Twice, Where, First, Second and Points answer numbers of a valid polygon, or the error, for at most a million points. -/
import Derived.Test.YtijpolfmiajenaaWorks
import Derived.Test.YtijpolfmiajenaaTwiceOf
import Derived.Test.YtijpolfmiajenaaTwp
/- What Twice, Where, First, Second and Points return for any points, valid or not. -/
namespace Go.Proofs.Ytijpolfmiajenaa
open Go.RowKit

def whV (l : List Pt) (q : Pt) : Int := if Ok l then (if isPt q = true then whereOf l q else 0) else 0
def whE (l : List Pt) (q : Pt) : Int := if Ok l then (if isPt q = true then 0 else 1) else 20
section
variable (A : Option Addr) (ca : Nat) (l : List Pt) (w : World) (ha : Pts w A l) (hla : l.length ≤ 1000000)
include ha hla
theorem rTwice_pts : Calls Try.prog 24 #[.slice A l.length ca] w fun e w' => e = .returned (.tuple #[(Value.int .i64 (okN l (tw l))), (Value.int .i64 (chk l))]) ∧ Below w.heap.size w w' := by
  by_cases hok : Ok l
  · obtain ⟨b, o, rfl, hp⟩ := ha.ok hok
    rw [okN, if_pos hok, chk_ok hok]
    exact rTwice_ok b o ca l w hp hok
  · rw [okN, if_neg hok, chk_no hok]
    exact rTwice_no A ca l w ha hla hok
theorem Where_pts (q : Pt) : Calls Try.prog 25 #[.slice A l.length ca, (Value.agg #[.int .i64 q.1, .int .i64 q.2])] w fun e w' => e = .returned (.tuple #[(Value.int .i64 (whV l q)), (Value.int .i64 (whE l q))]) ∧ Below w.heap.size w w' := by
  by_cases hok : Ok l
  · obtain ⟨b, o, rfl, hp⟩ := ha.ok hok
    by_cases hq : isPt q = true
    · rw [whV, whE, if_pos hok, if_pos hok, if_pos hq, if_pos hq]
      exact Where_ok b o ca l q w hp hok hq
    · rw [whV, whE, if_pos hok, if_pos hok, if_neg hq, if_neg hq]
      exact Where_arg b o ca l q w hp hok (by simpa using hq)
  · rw [whV, whE, if_neg hok, if_neg hok]
    exact Where_no A ca l q w ha hla hok
theorem rWhere_pts (q : Pt) : Calls Try.prog 26 #[.slice A l.length ca, (Value.agg #[.int .i64 q.1, .int .i64 q.2])] w fun e w' => e = .returned (.tuple #[(Value.int .i64 (whV l q)), (Value.int .i64 (whE l q))]) ∧ Below w.heap.size w w' := by
  by_cases hok : Ok l
  · obtain ⟨b, o, rfl, hp⟩ := ha.ok hok
    by_cases hq : isPt q = true
    · rw [whV, whE, if_pos hok, if_pos hok, if_pos hq, if_pos hq]
      exact rWhere_ok b o ca l q w hp hok hq
    · rw [whV, whE, if_pos hok, if_pos hok, if_neg hq, if_neg hq]
      exact rWhere_arg b o ca l q w hp hok (by simpa using hq)
  · rw [whV, whE, if_neg hok, if_neg hok]
    exact rWhere_no A ca l q w ha hla hok
theorem First_pts : Calls Try.prog 34 #[.slice A l.length ca] w fun e w' => e = .returned (.tuple #[(Value.int .i64 (okN l (mx l))), (Value.int .i64 (okN l (my l))), (Value.int .i64 (chk l))]) ∧ Below w.heap.size w w' := by
  by_cases hok : Ok l
  · obtain ⟨b, o, rfl, hp⟩ := ha.ok hok
    rw [okN, okN, if_pos hok, if_pos hok, chk_ok hok]
    exact First_ok b o ca l w hp hok
  · rw [okN, okN, if_neg hok, if_neg hok, chk_no hok]
    exact First_no A ca l w ha hla hok
theorem Second_pts : Calls Try.prog 36 #[.slice A l.length ca] w fun e w' => e = .returned (.tuple #[(Value.int .i64 (okN l (mxx l))), (Value.int .i64 (okN l (mxy l))), (Value.int .i64 (okN l (myy l))), (Value.int .i64 (chk l))]) ∧ Below w.heap.size w w' := by
  by_cases hok : Ok l
  · obtain ⟨b, o, rfl, hp⟩ := ha.ok hok
    rw [okN, okN, okN, if_pos hok, if_pos hok, if_pos hok, chk_ok hok]
    exact Second_ok b o ca l w hp hok
  · rw [okN, okN, okN, if_neg hok, if_neg hok, if_neg hok, chk_no hok]
    exact Second_no A ca l w ha hla hok
theorem Points_pts : Calls Try.prog 17 #[.slice A l.length ca] w fun e w' => e = .returned (.tuple #[(Value.int .i64 (okN l (pickOf l))), (Value.int .i64 (okN l (ownOf l))), (Value.int .i64 (chk l))]) ∧ Below w.heap.size w w' := by
  by_cases hok : Ok l
  · obtain ⟨b, o, rfl, hp⟩ := ha.ok hok
    rw [okN, okN, if_pos hok, if_pos hok, chk_ok hok]
    exact Points_ok b o ca l w hp hok
  · rw [okN, okN, if_neg hok, if_neg hok, chk_no hok]
    exact Points_no A ca l w ha hla hok
end
end Go.Proofs.Ytijpolfmiajenaa
