/- The function wide of knurllaw02 answers whether a valid polygon has a number beyond 12, for at most a million points. -/
import Derived.Test.YtijpolfmiajenaaOwn
import Derived.Test.YtijpolfmiajenaaRefCheck
namespace Go.Proofs.Ytijpolfmiajenaa
open Go.RowKit
attribute [local go_sem] After.cell After.frozen

@[go_sem high] theorem run_max_four {P : Program} (w : World) (ts : Array TypeId) (t : TypeId) (x y z u : Int) :
    (Builtin.max_ ts t #[.int .i64 x, .int .i64 y, .int .i64 z, .int .i64 u]).run P w = .ok (.int .i64 (max (max (max x y) z) u)) w := by
  have e : ∀ x y : Int, (if y > x then y else x) = max x y := by
    intro x y
    rw [Int.max_def]
    split <;> split <;> omega
  simp [Builtin.max_, Builtin.max2, e]

/-- A point has a number beyond 12. -/
def far12 (p : Pt) : Bool := decide (12 < max (max (max p.1 (-p.1)) p.2) (-p.2))
def wideP (l : List Pt) : Bool := (List.range l.length).any fun i => far12 (pat l i)
def wideB (l : List Pt) : Bool := decide (Ok l) && wideP l
theorem far12_no {p : Pt} (h : far12 p = false) : (-12 ≤ p.1 ∧ p.1 ≤ 12) ∧ (-12 ≤ p.2 ∧ p.2 ≤ 12) := by
  simp only [far12, decide_eq_false_iff_not] at h
  omega
theorem wideP_yes {l : List Pt} {k : Nat} (hk : k < l.length) (h : far12 (pat l k) = true) : wideP l = true := by
  unfold wideP
  rw [List.any_eq_true]
  exact ⟨k, List.mem_range.2 hk, h⟩
theorem wideP_no {l : List Pt} (h : ∀ k, k < l.length → far12 (pat l k) = false) : wideP l = false := by
  unfold wideP
  rw [List.any_eq_false]
  intro k hk
  rw [h k (List.mem_range.1 hk)]
  exact Bool.false_ne_true
set_option maxRecDepth 100000 in
set_option maxHeartbeats 1000000 in
theorem wide_any (A : Option Addr) (ca : Nat) (l : List Pt) (w : World) (ha : Pts w A l) (hla : l.length ≤ 1000000) :
    Calls Try.prog 28 #[.slice A l.length ca] w fun e w' => e = .returned (.bool (wideB l)) ∧ Below w.heap.size w w' := by
  have hc := rCheck_any A ca l w ha hla
  by_cases hok : Ok l
  · have e0 : wideB l = wideP l := by unfold wideB; rw [decide_eq_true hok, Bool.true_and]
    rw [e0]
    rw [chk_ok hok] at hc
    obtain ⟨b, o, rfl, hp⟩ := ha.at_ (k := 0) (by have := hok.1; omega)
    have HP := Lib.hid hok.2.1
    have hl10 := hok.1
    clear e0 hok ha
    go_enter Try.func28, Try.ntmps28
    go_wp2_with (go_at_call 23; with_reducible refine Calls.mono (hc) ?_; rintro e w1 ⟨rfl, hb1⟩; first | ((with_reducible apply kp_in_step (hb := hb1)); (with_reducible assumption); rintro ⟨hk, hc, hf, hzc, hzf⟩) | ((with_reducible refine kp_in_first hb1 ?_); rintro ⟨hk, hc, hf, hzc, hzf⟩))
    have hbW : Below w.heap.size w w1 := by (repeat (first | with_reducible exact Below.refl _ _ | with_reducible apply bl_alloc | with_reducible apply bl_drew | with_reducible apply bl_after | (with_reducible refine bl_call ?_ (by assumption))))
    clear hk hc hf hzc hzf hb1
    clear hc
    go_loopw [3] (fun i wr => ∃ k : Nat, k ≤ l.length ∧ i = (Value.int .i64 ((k : Int))) ∧ Hid (∀ j, j < k → far12 (pat l j) = false) ∧ Below w.heap.size w wr) (fun i _ => l.length - (intOf i).toNat)
    case atStart => exact ⟨0, Nat.zero_le _, rfl, Lib.hid fun j hj => absurd hj (Nat.not_lt_zero _), hbW⟩
    case round =>
      obtain ⟨k, kn, rfl, hno, hbw⟩ := hrel
      by_cases hlt : k < l.length
      · have pa := hp.below hbw
        have lb := pa.lt
        have x1 := pa.xp hlt
        have x2 := pa.yp hlt
        have p0 := isPt_bd (HP.out k hlt)
        have i1 : (0 : Int) ≤ (k : Int) := by omega
        have i2 : (k : Int) < (l.length : Int) := by omega
        have m1 := wrap64_in (x := -(pat l k).1) (by omega) (by omega)
        have m2 := wrap64_in (x := -(pat l k).2) (by omega) (by omega)
        cases hf12 : far12 (pat l k) with
        | true =>
          have y1 : 12 < max (max (max (pat l k).1 (-(pat l k).1)) (pat l k).2) (-(pat l k).2) := by simpa [far12] using hf12
          have hfin := Lib.hid (wideP_yes hlt hf12)
          clear hf12
          go_wp2
          refine wp_region_after (by kernel_rfl) (by kernel_rfl) ?_; (repeat (go_big_quiet_step ((fail)))); refine wpQuiet_nil ?_; rintro _ ⟨z, rfl⟩; (first | ((with_reducible apply kp_in_after (z := z)); (with_reducible assumption); rintro ⟨hk, hc, hf, hzc, hzf⟩) | ((with_reducible refine kp_in_after0 z ?_); rintro ⟨hk, hc, hf, hzc, hzf⟩))
          go_wp2
          go_ret
          exact ⟨ret_bool hfin.out.symm, by (repeat (first | with_reducible assumption | with_reducible exact Below.refl _ _ | with_reducible apply bl_alloc | with_reducible apply bl_drew | with_reducible apply bl_after | (with_reducible refine bl_call ?_ (by assumption)) | (with_reducible refine bl_setc ?_ (by omega))))⟩
        | false =>
          have y1 : ¬ 12 < max (max (max (pat l k).1 (-(pat l k).1)) (pat l k).2) (-(pat l k).2) := by simpa [far12] using hf12
          have hfin : Hid (∀ j, j < k + 1 → far12 (pat l j) = false) := Lib.hid fun j hj => by
            rcases Nat.lt_succ_iff_lt_or_eq.1 hj with h | h
            · exact hno.out j h
            · rw [h]; exact hf12
          clear hf12
          go_wp2
          refine wp_region_after (by kernel_rfl) (by kernel_rfl) ?_; (repeat (go_big_quiet_step ((fail)))); refine wpQuiet_nil ?_; rintro _ ⟨z, rfl⟩; (first | ((with_reducible apply kp_in_after (z := z)); (with_reducible assumption); rintro ⟨hk, hc, hf, hzc, hzf⟩) | ((with_reducible refine kp_in_after0 z ?_); rintro ⟨hk, hc, hf, hzc, hzf⟩))
          go_wp2
          go_roundw
          case rel => exact ⟨k + 1, by omega, by go_num, hfin, by (repeat (first | with_reducible assumption | with_reducible exact Below.refl _ _ | with_reducible apply bl_alloc | with_reducible apply bl_drew | with_reducible apply bl_after | (with_reducible refine bl_call ?_ (by assumption)) | (with_reducible refine bl_setc ?_ (by omega))))⟩
          case measure => simp [intOf]; omega
      · obtain rfl : k = l.length := by omega
        go_wp2
        go_ret
        exact ⟨ret_bool (wideP_no hno.out).symm, hbw⟩
  · have e0 : wideB l = false := by unfold wideB; rw [decide_eq_false hok, Bool.false_and]
    rw [e0]
    rw [chk_no hok] at hc
    clear e0 hok
    go_enter Try.func28, Try.ntmps28
    go_wp2_with (go_at_call 23; with_reducible refine Calls.mono (hc) ?_; rintro e w1 ⟨rfl, hb1⟩; first | ((with_reducible apply kp_in_step (hb := hb1)); (with_reducible assumption); rintro ⟨hk, hc, hf, hzc, hzf⟩) | ((with_reducible refine kp_in_first hb1 ?_); rintro ⟨hk, hc, hf, hzc, hzf⟩))
    go_ret
    exact ⟨rfl, by (repeat (first | with_reducible exact Below.refl _ _ | with_reducible apply bl_alloc | with_reducible apply bl_drew | with_reducible apply bl_after | (with_reducible refine bl_call ?_ (by assumption))))⟩
end Go.Proofs.Ytijpolfmiajenaa
