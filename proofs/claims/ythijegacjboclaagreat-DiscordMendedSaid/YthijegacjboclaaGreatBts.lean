/- Small sets as the bits of an unsigned number: what Go's shifts, 'or' and 'and' do to them. -/
import Derived.WalkKit
import Derived.IntWalk
namespace Go.Proofs.YthijegacjboclaaGreat

theorem u64_in (x : Int) (h : 0 ≤ x ∧ x < 18446744073709551616) : IntKind.u64.wrap x = x := by
  unfold IntKind.wrap
  simp [IntKind.bits, IntKind.signed]
  omega
theorem or_u64 {a b : Nat} (ha : a < 256) (hb : b < 256) : bits .or .u64 (a : Int) (b : Int) = ((a ||| b : Nat) : Int) := by
  have h : a ||| b < 2 ^ 8 := Nat.or_lt_two_pow (n := 8) (by omega) (by omega)
  unfold bits
  simp only [BitVec.ofInt_natCast, BitVec.toNat_or, BitVec.toNat_ofNat]
  rw [Nat.mod_eq_of_lt (by simp [IntKind.bits]; omega), Nat.mod_eq_of_lt (by simp [IntKind.bits]; omega)]
  exact u64_in _ (by omega)
theorem and_u64 {a b : Nat} (ha : a < 256) (hb : b < 256) : bits .and .u64 (a : Int) (b : Int) = ((a &&& b : Nat) : Int) := by
  have h : a &&& b ≤ a := Nat.and_le_left
  unfold bits
  simp only [BitVec.ofInt_natCast, BitVec.toNat_and, BitVec.toNat_ofNat]
  rw [Nat.mod_eq_of_lt (by simp [IntKind.bits]; omega), Nat.mod_eq_of_lt (by simp [IntKind.bits]; omega)]
  exact u64_in _ (by omega)
theorem shr_nat (s i : Nat) : (s : Int) / 2 ^ i = ((s >>> i : Nat) : Int) := by
  rw [Nat.shiftRight_eq_div_pow]
  push_cast
  rfl
theorem bit_and1 (s i : Nat) : ((s >>> i) &&& 1 = 1) ↔ s.testBit i = true := by
  simp [Nat.testBit, Nat.and_comm]
theorem shr_zero {s : Nat} (i : Nat) : s >>> i = 0 ↔ ∀ j, i ≤ j → s.testBit j = false := by
  constructor
  · intro h j hj
    have : s.testBit j = (s >>> i).testBit (j - i) := by rw [Nat.testBit_shiftRight]; congr 1; omega
    rw [this, h]; simp
  · intro h
    apply Nat.eq_of_testBit_eq
    intro j
    rw [Nat.testBit_shiftRight, h _ (by omega)]
    simp
theorem pow_u64 {n : Nat} (h : n < 8) : IntKind.u64.wrap (1 * 2 ^ n) = ((2 ^ n : Nat) : Int) := by
  have h1 : 2 ^ n < 2 ^ 8 := Nat.pow_lt_pow_right (by omega) h
  have e : (1 * 2 ^ n : Int) = ((2 ^ n : Nat) : Int) := by rw [Int.one_mul]; push_cast; rfl
  rw [e]
  generalize 2 ^ n = m at h1
  exact u64_in _ (by omega)
end Go.Proofs.YthijegacjboclaaGreat
