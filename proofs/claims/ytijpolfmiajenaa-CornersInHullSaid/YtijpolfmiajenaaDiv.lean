/- The function corners.divisor answers the greatest common divisor of two numbers within four times ten to the eighteenth. -/
import Derived.Test.YtijpolfmiajenaaLeaf
namespace Go.Proofs.Ytijpolfmiajenaa
open Go.RowKit
attribute [local go_sem] After.cell After.frozen

theorem gcd_step (a b : Int) (hb : b ≠ 0) : Int.gcd b (a.tmod b) = Int.gcd a b := by
  unfold Int.gcd
  rw [Int.natAbs_tmod, Nat.gcd_comm b.natAbs, ← Nat.gcd_rec, Nat.gcd_comm]
theorem gcd_zero (a : Int) : (Int.gcd a 0 : Int) = max a (-a) := by
  rw [Int.gcd_zero_right]; omega

set_option maxRecDepth 100000 in
set_option maxHeartbeats 400000 in
theorem divisor_any : ∀ (n : Nat) (a b : Int) (w : World), b.natAbs < n → (-4000000000000000000 ≤ a ∧ a ≤ 4000000000000000000) → (-4000000000000000000 ≤ b ∧ b ≤ 4000000000000000000) →
    Calls Try.prog 48 #[(Value.int .i64 (a)), (Value.int .i64 (b))] w fun e w' => e = .returned (Value.int .i64 ((Int.gcd a b : Int))) ∧ w = w'
  | 0, a, b, w, h, _, _ => by omega
  | n + 1, a, b, w, h, ha, hb => by
    by_cases h0 : b = 0
    · subst h0
      go_enter Try.func48, Try.ntmps48
      go_wp2
      go_ret
      exact ⟨ret_int (gcd_zero a).symm, rfl⟩
    · have hr : (a.tmod b).natAbs < b.natAbs := by rw [Int.natAbs_tmod]; exact Nat.mod_lt _ (by omega)
      have ih := divisor_any n b (a.tmod b) w (by omega) hb (by omega)
      rw [gcd_step a b h0] at ih
      go_enter Try.func48, Try.ntmps48
      go_wp2_with ((with_reducible refine Calls.mono ih ?_); rintro e w1 ⟨rfl, rfl⟩)
      go_ret
      exact ⟨rfl, rfl⟩
theorem divisor_is (a b : Int) (w : World) (ha : -4000000000000000000 ≤ a ∧ a ≤ 4000000000000000000) (hb : -4000000000000000000 ≤ b ∧ b ≤ 4000000000000000000) :
    Calls Try.prog 48 #[(Value.int .i64 (a)), (Value.int .i64 (b))] w fun e w' => e = .returned (Value.int .i64 ((Int.gcd a b : Int))) ∧ w = w' := divisor_any _ a b w (Nat.lt_succ_self _) ha hb
end Go.Proofs.Ytijpolfmiajenaa
