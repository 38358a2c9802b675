/- The functions of walks and of its reference that tell how an elbow steps from one place of a track to another one. -/
import Derived.Test.YtfgplmgkejeoiaaReach
namespace Go.Proofs.Ytfgplmgkejeoiaa
open Go.RowKit
attribute [local go_sem] After.cell After.frozen

/-- By how many places the elbow moves from place a to place b; false: it cannot. -/
def stepV (T : Trk) (a b : Nat) : Int × Bool :=
  if a = b then (0, true)
  else if b = a + 1 ∨ (T.closed = 1 ∧ a + 1 = T.pts.length ∧ b = 0) then (1, true)
  else if b + 1 = a ∨ (T.closed = 1 ∧ a = 0 ∧ b + 1 = T.pts.length) then (-1, true)
  else (0, false)
def StepP (T : Trk) (a b : Nat) (w : World) (e : Ending) (w' : World) : Prop := e = .returned (.tuple #[(Value.int .i64 ((stepV T a b).1)), .bool (stepV T a b).2]) ∧ Below w.heap.size w w'
theorem stepP_of {T : Trk} {a b : Nat} {w w' : World} {x : Int} {y : Bool} (h : stepV T a b = (x, y)) (hb : Below w.heap.size w w') : StepP T a b w (.returned (.tuple #[(Value.int .i64 (x)), .bool y])) w' := by
  unfold StepP
  rw [h]
  exact ⟨rfl, hb⟩

set_option maxRecDepth 100000 in
set_option maxHeartbeats 1000000 in
theorem step_any (A : Option Addr) (ca : Nat) (T : Trk) (V : Value) (a b : Nat) (w : World) (hl : T.pts.length ≤ 1000) (ha : a < T.pts.length) (hb : b < T.pts.length) :
    Calls Try.prog 84 #[.agg #[.slice A T.pts.length ca, (Value.int .i64 (T.closed)), (Value.int .i64 (T.lo)), (Value.int .i64 (T.hi)), V], (Value.int .i64 ((a : Int))), (Value.int .i64 ((b : Int)))] w (StepP T a b w) := by
  go_enter Try.func84, Try.ntmps84
  go_wp2
  all_goals go_ret2
  all_goals refine stepP_of ?_ (by (repeat (first | with_reducible exact Below.refl _ _ | with_reducible apply bl_alloc | with_reducible apply bl_drew | with_reducible apply bl_after | (with_reducible refine bl_call ?_ (by assumption)))))
  all_goals ((try simp only [beq_iff_eq, beq_eq_false_iff_ne, ne_eq] at *); unfold stepV; (repeat' split) <;> first | rfl | (exfalso; omega))
set_option maxRecDepth 100000 in
set_option maxHeartbeats 1000000 in
theorem r5step_any (A : Option Addr) (ca : Nat) (T : Trk) (a b : Nat) (w : World) (hl : T.pts.length ≤ 1000) (ha : a < T.pts.length) (hb : b < T.pts.length) :
    Calls Try.prog 79 #[(Value.agg #[.slice A T.pts.length ca, (Value.int .i64 (T.closed)), (Value.int .i64 (T.lo)), (Value.int .i64 (T.hi))]), (Value.int .i64 ((a : Int))), (Value.int .i64 ((b : Int)))] w (StepP T a b w) := by
  have h0 : 0 < T.pts.length := by omega
  have pos : ∀ x : Nat, x < T.pts.length → (x + 1 = T.pts.length ∧ ((x : Int) + 1) % (T.pts.length : Int) = 0) ∨ (x + 1 < T.pts.length ∧ ((x : Int) + 1) % (T.pts.length : Int) = (x : Int) + 1) := by
    intro x hx
    rcases Nat.lt_or_ge (x + 1) T.pts.length with h | h
    · exact .inr ⟨h, Int.emod_eq_of_lt (by omega) (by omega)⟩
    · have : (x : Int) + 1 = (T.pts.length : Int) := by omega
      exact .inl ⟨by omega, by rw [this, Int.emod_self]⟩
  rcases pos a ha with ⟨p1, p2⟩ | ⟨p1, p2⟩ <;> rcases pos b hb with ⟨q1, q2⟩ | ⟨q1, q2⟩
  all_goals
    have r1 := Lib.hid p1
    have r2 := Lib.hid q1
    clear p1 q1 pos
    go_enter Try.func79, Try.ntmps79
    go_wp2
    all_goals go_ret2
    all_goals refine stepP_of ?_ (by (repeat (first | with_reducible exact Below.refl _ _ | with_reducible apply bl_alloc | with_reducible apply bl_drew | with_reducible apply bl_after | (with_reducible refine bl_call ?_ (by assumption)))))
    all_goals (have p1 := r1.out; have q1 := r2.out; (try simp only [beq_iff_eq, beq_eq_false_iff_ne, ne_eq] at *); unfold stepV; (repeat' split) <;> first | rfl | (exfalso; omega))
theorem step_q (A : Option Addr) (ca : Nat) (T : Trk) (V : Value) (a b : Nat) (w : World) (hl : T.pts.length ≤ 1000) (ha : a < T.pts.length) (hb : b < T.pts.length) :
    Calls Try.prog 84 #[.agg #[.slice A T.pts.length ca, (Value.int .i64 (T.closed)), (Value.int .i64 (T.lo)), (Value.int .i64 (T.hi)), V], (Value.int .i64 ((a : Int))), (Value.int .i64 ((b : Int)))] w fun e w' => e = .returned (.tuple #[(Value.int .i64 ((stepV T a b).1)), .bool (stepV T a b).2]) ∧ Below w.heap.size w w' := step_any A ca T V a b w hl ha hb
theorem r5step_q (A : Option Addr) (ca : Nat) (T : Trk) (a b : Nat) (w : World) (hl : T.pts.length ≤ 1000) (ha : a < T.pts.length) (hb : b < T.pts.length) :
    Calls Try.prog 79 #[(Value.agg #[.slice A T.pts.length ca, (Value.int .i64 (T.closed)), (Value.int .i64 (T.lo)), (Value.int .i64 (T.hi))]), (Value.int .i64 ((a : Int))), (Value.int .i64 ((b : Int)))] w fun e w' => e = .returned (.tuple #[(Value.int .i64 ((stepV T a b).1)), .bool (stepV T a b).2]) ∧ Below w.heap.size w w' := r5step_any A ca T a b w hl ha hb
end Go.Proofs.Ytfgplmgkejeoiaa
