/- The function knurlref02.CheckPoints tells whether there is a hull of points, and the error else. -/
import Derived.Test.YtijpolfmiajenaaRefCheck
namespace Go.Proofs.Ytijpolfmiajenaa
open Go.RowKit
attribute [local go_sem] After.cell After.frozen

/-- The points can have a hull: they are at most 10, with numbers up to 200. -/
def PtsB (l : List Pt) : Prop := l.length ≤ 10 ∧ ∀ i, i < l.length → isPt (pat l i) = true
instance (l : List Pt) : Decidable (PtsB l) := by unfold PtsB; infer_instance
/-- All points are on one line. -/
def LineB (l : List Pt) : Prop := ∀ i, i < l.length → ∀ k, k < i → ∀ j, j < k → turn (pat l i) (pat l k) (pat l j) = 0
instance (l : List Pt) : Decidable (LineB l) := by unfold LineB; infer_instance
def hchk (l : List Pt) : Int := if PtsB l then (if LineB l then 3 else 0) else 1
theorem lt_succ_cases {P : Nat → Prop} {k : Nat} (h : ∀ j, j < k → P j) (hk : P k) : ∀ j, j < k + 1 → P j := fun j hj => by
  rcases Nat.lt_succ_iff_lt_or_eq.1 hj with q | q
  · exact h j q
  · exact q ▸ hk

set_option maxRecDepth 100000 in
set_option maxHeartbeats 4000000 in
theorem rCheckPoints_any (A : Option Addr) (ca : Nat) (l : List Pt) (w : World) (ha : Pts w A l) (hla : l.length ≤ 1000000) :
    Calls Try.prog 40 #[.slice A l.length ca] w fun e w' => e = .returned (Value.int .i64 (hchk l)) ∧ Below w.heap.size w w' := by
  by_cases h10 : 10 < l.length
  · have e : hchk l = 1 := if_neg fun h => by have := h.1; omega
    rw [e]
    have h10' : (10 : Int) < (l.length : Int) := by omega
    go_enter Try.func40, Try.ntmps40
    go_wp2
    go_ret
    exact ⟨rfl, by (repeat (first | with_reducible exact Below.refl _ _ | with_reducible apply bl_alloc | with_reducible apply bl_drew | with_reducible apply bl_after | (with_reducible refine bl_call ?_ (by assumption))))⟩
  · have h10' : ¬ (10 : Int) < (l.length : Int) := by omega
    go_enter Try.func40, Try.ntmps40
    go_wp2
    go_loopg [3] l.length (fun g i wr => ∃ k : Nat, k ≤ l.length ∧ g = l.length - k ∧ i = (Value.int .i64 ((k : Int))) ∧ (∀ j, j < k → isPt (pat l j) = true) ∧ Below w.heap.size w wr)
    case atStart => exact ⟨0, Nat.zero_le _, rfl, rfl, (fun j hj => by omega), by (repeat (first | with_reducible exact Below.refl _ _ | with_reducible apply bl_alloc | with_reducible apply bl_drew | with_reducible apply bl_after | (with_reducible refine bl_call ?_ (by assumption))))⟩
    case round =>
      obtain ⟨k, kn, rfl, rfl, HP, hbw⟩ := hrel
      replace HP := Lib.hid HP
      by_cases hlt : k < l.length
      · obtain ⟨b, o, rfl, hp⟩ := ha.at_ hlt
        have pa := hp.below hbw
        have x1 := pa.xp hlt
        have x2 := pa.yp hlt
        have lb := pa.lt
        have i1 : (k : Int) < (l.length : Int) := by omega
        by_cases hq : isPt (pat l k) = true
        · have hc := Lib.hid fun (V : World) => rIsPoint_any (pat l k) V
          simp only [hq] at hc
          go_wp2_with (go_at_call 31; with_reducible refine Calls.mono (hc.out _) ?_; rintro e w1 ⟨rfl, hb1⟩; first | ((with_reducible apply kp_in_step (hb := hb1)); (with_reducible assumption); rintro ⟨hk, hc, hf, hzc, hzf⟩) | ((with_reducible refine kp_in_first hb1 ?_); rintro ⟨hk, hc, hf, hzc, hzf⟩))
          go_roundg (l.length - (k + 1))
          case measure => omega
          case rel => exact ⟨k + 1, by omega, rfl, by go_num, lt_succ_cases HP.out hq, by (repeat (first | with_reducible exact Below.refl _ _ | with_reducible apply bl_alloc | with_reducible apply bl_drew | with_reducible apply bl_after | (with_reducible refine bl_call ?_ (by assumption))))⟩
        · have e : hchk l = 1 := if_neg fun h => hq (h.2 k hlt)
          have hq' : isPt (pat l k) = false := by simpa using hq
          have hc := Lib.hid fun (V : World) => rIsPoint_any (pat l k) V
          simp only [hq'] at hc
          go_wp2_with (go_at_call 31; with_reducible refine Calls.mono (hc.out _) ?_; rintro e w1 ⟨rfl, hb1⟩; first | ((with_reducible apply kp_in_step (hb := hb1)); (with_reducible assumption); rintro ⟨hk, hc, hf, hzc, hzf⟩) | ((with_reducible refine kp_in_first hb1 ?_); rintro ⟨hk, hc, hf, hzc, hzf⟩))
          go_ret
          exact ⟨ret_int e.symm, by (repeat (first | with_reducible exact Below.refl _ _ | with_reducible apply bl_alloc | with_reducible apply bl_drew | with_reducible apply bl_after | (with_reducible refine bl_call ?_ (by assumption))))⟩
      · obtain rfl : k = l.length := by omega
        have hB : PtsB l := ⟨by omega, HP.out⟩
        have e0 : hchk l = if LineB l then 3 else 0 := if_pos hB
        clear hlt kn
        go_wp2
        go_loopg [4] l.length (fun g i wr => ∃ k : Nat, k ≤ l.length ∧ g = l.length - k ∧ i = (Value.int .i64 ((k : Int))) ∧ (∀ i, i < k → ∀ k, k < i → ∀ j, j < k → turn (pat l i) (pat l k) (pat l j) = 0) ∧ Below w.heap.size w wr)
        case atStart => exact ⟨0, Nat.zero_le _, rfl, rfl, (fun j hj => by omega), hbw⟩
        case round =>
          clear hbw
          obtain ⟨i, kn, rfl, rfl, HI, hbw⟩ := hrel
          replace HI := Lib.hid HI
          by_cases hlt : i < l.length
          · have i1 : (i : Int) < (l.length : Int) := by omega
            go_wp2
            go_loopg [5] i (fun g x wr => ∃ k : Nat, k ≤ i ∧ g = i - k ∧ x = (Value.int .i64 ((k : Int))) ∧ (∀ k', k' < k → ∀ j, j < k' → turn (pat l i) (pat l k') (pat l j) = 0) ∧ Below w.heap.size w wr)
            case atStart => exact ⟨0, Nat.zero_le _, rfl, rfl, (fun j hj => by omega), hbw⟩
            case round =>
              clear hbw
              obtain ⟨k, kn2, rfl, rfl, HK, hbw⟩ := hrel
              replace HK := Lib.hid HK
              by_cases hlk : k < i
              · have i2 : (k : Int) < (i : Int) := by omega
                go_wp2
                go_loopg [6] k (fun g x wr => ∃ j : Nat, j ≤ k ∧ g = k - j ∧ x = (Value.int .i64 ((j : Int))) ∧ (∀ j', j' < j → turn (pat l i) (pat l k) (pat l j') = 0) ∧ Below w.heap.size w wr)
                case atStart => exact ⟨0, Nat.zero_le _, rfl, rfl, (fun j hj => by omega), hbw⟩
                case round =>
                  clear hbw
                  obtain ⟨j, jn, rfl, rfl, HJ, hbw⟩ := hrel
                  replace HJ := Lib.hid HJ
                  by_cases hlj : j < k
                  · have i3 : (j : Int) < (k : Int) := by omega
                    obtain ⟨b, o, rfl, hp⟩ := ha.at_ hlt
                    have pa := hp.below hbw
                    have x1 := pa.xp hlt
                    have x2 := pa.yp hlt
                    have x3 := pa.xp (i := k) (by omega)
                    have x4 := pa.yp (i := k) (by omega)
                    have x5 := pa.xp (i := j) (by omega)
                    have x6 := pa.yp (i := j) (by omega)
                    have lb := pa.lt
                    have hk1 : k < l.length := by omega
                    have hj1 : j < l.length := by omega
                    have i4 : (k : Int) < (l.length : Int) := by omega
                    have i5 : (j : Int) < (l.length : Int) := by omega
                    have p1 := HP.out i hlt
                    have p2 := HP.out k hk1
                    have p3 := HP.out j hj1
                    by_cases hz : turn (pat l i) (pat l k) (pat l j) = 0
                    · go_wp2
                      refine wp_region_after (by kernel_rfl) (by kernel_rfl) ?_; (repeat (go_big_quiet_step (((go_at_call 42; with_reducible exact calls_after (rTurn_any _ _ _ p1 p2 p3 _)))))); refine wpQuiet_nil ?_; rintro _ ⟨z, rfl⟩; (first | ((with_reducible apply kp_in_after (z := z)); (with_reducible assumption); rintro ⟨hk, hc, hf, hzc, hzf⟩) | ((with_reducible refine kp_in_after0 z ?_); rintro ⟨hk, hc, hf, hzc, hzf⟩))
                      go_wp2
                      go_roundg (k - (j + 1))
                      case measure => omega
                      case rel => exact ⟨j + 1, by omega, rfl, by go_num, lt_succ_cases HJ.out hz, by (repeat (first | with_reducible exact Below.refl _ _ | with_reducible apply bl_alloc | with_reducible apply bl_drew | with_reducible apply bl_after | (with_reducible refine bl_call ?_ (by assumption))))⟩
                    · have e : hchk l = 0 := by rw [e0]; exact if_neg fun h => hz (h i hlt k hlk j hlj)
                      go_wp2
                      refine wp_region_after (by kernel_rfl) (by kernel_rfl) ?_; (repeat (go_big_quiet_step (((go_at_call 42; with_reducible exact calls_after (rTurn_any _ _ _ p1 p2 p3 _)))))); refine wpQuiet_nil ?_; rintro _ ⟨z, rfl⟩; (first | ((with_reducible apply kp_in_after (z := z)); (with_reducible assumption); rintro ⟨hk, hc, hf, hzc, hzf⟩) | ((with_reducible refine kp_in_after0 z ?_); rintro ⟨hk, hc, hf, hzc, hzf⟩))
                      go_wp2
                      go_ret
                      exact ⟨ret_int e.symm, by (repeat (first | with_reducible exact Below.refl _ _ | with_reducible apply bl_alloc | with_reducible apply bl_drew | with_reducible apply bl_after | (with_reducible refine bl_call ?_ (by assumption))))⟩
                  · obtain rfl : j = k := by omega
                    go_wp2
                    go_roundg (i - (j + 1))
                    case measure => omega
                    case rel => exact ⟨j + 1, by omega, rfl, by go_num, lt_succ_cases HK.out HJ.out, hbw⟩
              · obtain rfl : k = i := by omega
                go_wp2
                go_roundg (l.length - (k + 1))
                case measure => omega
                case rel => exact ⟨k + 1, by omega, rfl, by go_num, lt_succ_cases HI.out HK.out, hbw⟩
          · obtain rfl : i = l.length := by omega
            have e : hchk l = 3 := by rw [e0]; exact if_pos HI.out
            go_wp2
            go_ret
            exact ⟨ret_int e.symm, hbw⟩
end Go.Proofs.Ytijpolfmiajenaa
