/- The reference's functions IsDeed, Agree and Agrees of sheets. -/
import Derived.Test.YtegdnbceiopklaaGreatAg4
import Derived.Test.YtegdnbceiopklaaGreatRe4
import Derived.Test.YtegdnbceiopklaaGreatTwF
import Derived.Test.YtegdnbceiopklaaGreatRefCheck
namespace Go.Proofs.YtegdnbceiopklaaGreat
open Go.RowKit
attribute [local go_sem] After.cell After.frozen

theorem sumOne_bd {l : List Pt} (h : ∀ i, i < l.length → isPt (pat l i) = true) : ∀ k, k ≤ l.length → -(80000 * (k : Int)) ≤ sumTo oneF l k ∧ sumTo oneF l k ≤ 80000 * (k : Int)
  | 0, _ => by simp [sumTo]
  | k + 1, hk => by
    have ih := sumOne_bd h k (by omega)
    have h3 := cross_bd1 (h k (by omega)) (h (nxt l k) (nxt_lt k (by omega)))
    simp only [sumTo, oneF, Int.one_mul] at *
    omega
theorem tw_bd2 {l : List Pt} (h : Ok l) : -10000000 ≤ tw l ∧ tw l ≤ 10000000 := by
  have h1 := sumOne_bd h.2.1 l.length (Nat.le_refl _)
  have h2 := h.1.2
  have h3 : tw l = sumTo oneF l l.length := rfl
  rw [h3]
  omega
theorem abT_bd2 {l : List Pt} (h : Ok l) : 0 ≤ abT l ∧ abT l ≤ 10000000 := by have := tw_bd2 h; unfold abT; omega
/-- The sheet with both spans one factor. -/
def oneS (S : Sht) (f : Pt) : Sht := ⟨f.1, f.1, f.2, f.2, S.cs, S.wrong⟩
theorem one_prs (S : Sht) (f : Pt) : prs (oneS S f) = [f] := by
  have h1 : nX (oneS S f) = 1 := by unfold nX oneS; simp only; omega
  have h2 : nY (oneS S f) = 1 := by unfold nY oneS; simp only; omega
  unfold prs
  rw [h1, h2]
  simp [prAt, h2, oneS]
theorem one_wrg (S : Sht) (f : Pt) : wrg (oneS S f) f = wrg S f := rfl
theorem one_trs {S : Sht} {f : Pt} (h : truB S f = true) : trs (oneS S f) = [f] := by
  have h1 : wrg S f ≤ S.wrong := by
    simp only [truB, Bool.and_eq_true, decide_eq_true_eq] at h
    exact h.2
  unfold trs
  rw [one_prs, List.filter_cons, one_wrg, decide_eq_true (show wrg S f ≤ (oneS S f).wrong from h1)]
  rfl
theorem one_sht {S : Sht} {f : Pt} (h0 : shtB S = true) (h : truB S f = true) : shtB (oneS S f) = true := by
  have hS := sht_ok h0
  have hx := hS.x0; have hx2 := hS.x2; have hy := hS.y0; have hy2 := hS.y2
  simp only [shtB, Bool.and_eq_true] at h0
  simp only [truB, within, Bool.and_eq_true, decide_eq_true_eq] at h
  have hx3 : spnB f.1 f.1 = true := by simp only [spnB, within, Bool.and_eq_true, decide_eq_true_eq]; omega
  have hy3 : spnB f.2 f.2 = true := by simp only [spnB, within, Bool.and_eq_true, decide_eq_true_eq]; omega
  simp only [shtB, oneS, Bool.and_eq_true]
  exact ⟨⟨⟨⟨hx3, hy3⟩, h0.1.1.2⟩, h0.1.2⟩, h0.2⟩
theorem knw_one (p : Pt → Bool) (f : Pt) : knw p [f] ≠ 3 := by
  unfold knw cnt
  rw [List.filter_cons]
  cases p f <;> simp
theorem low_le {q : Int × Int} (h : FrOk q) : low q * q.2 ≤ q.1 ∧ q.1 ≤ hig q * q.2 ∧ 0 ≤ low q ∧ low q ≤ hig q ∧ hig q - low q ≤ 1 := by
  obtain ⟨⟨h0, h1⟩, h2, h3⟩ := h
  have e1 : low q = q.1 / q.2 := Int.tdiv_eq_ediv_of_nonneg h0
  have e2 : hig q = (q.1 + q.2 - 1) / q.2 := Int.tdiv_eq_ediv_of_nonneg (by omega)
  have d1 := Int.mul_ediv_add_emod q.1 q.2
  have d2 := Int.mul_ediv_add_emod (q.1 + q.2 - 1) q.2
  have m1 := Int.emod_nonneg q.1 (b := q.2) (by omega)
  have m2 := Int.emod_lt_of_pos q.1 h2
  have m3 := Int.emod_nonneg (q.1 + q.2 - 1) (b := q.2) (by omega)
  have m4 := Int.emod_lt_of_pos (q.1 + q.2 - 1) h2
  have n1 : 0 ≤ q.1 / q.2 := Int.ediv_nonneg h0 (by omega)
  rw [e1, e2]
  generalize q.1 / q.2 = x at *
  generalize (q.1 + q.2 - 1) / q.2 = y at *
  generalize q.1 % q.2 = r at *
  generalize (q.1 + q.2 - 1) % q.2 = s at *
  rw [Int.mul_comm] at d1 d2
  refine ⟨by omega, by omega, n1, ?_, ?_⟩
  · refine Int.not_lt.1 fun hlt => ?_
    have := Int.mul_le_mul_of_nonneg_right (show y + 1 ≤ x from hlt) (show 0 ≤ q.2 by omega)
    rw [Int.add_mul, Int.one_mul] at this
    omega
  · refine Int.not_lt.1 fun hlt => ?_
    have := Int.mul_le_mul_of_nonneg_right (show x + 2 ≤ y by omega) (show 0 ≤ q.2 by omega)
    rw [Int.add_mul] at this
    omega
theorem hig_sane {q : Int × Int} (h : FrOk q) (hq : q.1 ≤ 10000000000000) (hd : 810000 ≤ q.2) : hig q < 1073741824 := by
  have h1 := low_le h
  refine Int.not_le.1 fun hlt => ?_
  have := Int.mul_le_mul_of_nonneg_left hd (show 0 ≤ low q from h1.2.2.1)
  omega
def saneB (lo hi : Int) : Bool := decide (0 ≤ lo) && decide (lo ≤ hi) && decide (hi < 1073741824)
set_option maxHeartbeats 1000000 in
theorem sane4 (lo hi : Int) (h : saneB lo hi = true) (w : World) :
    Calls Tryz.prog 26 #[.agg #[(Value.int .i64 (lo)), (Value.int .i64 (hi))]] w fun e w' => e = .returned (.bool true) ∧ Below w.heap.size w w' := by
  simp only [saneB, Bool.and_eq_true, decide_eq_true_eq] at h
  obtain ⟨⟨h1, h2⟩, h3⟩ := h
  go_enter Tryz.func26, Tryz.ntmps26
  go_wp2
  go_ret
  exact ⟨rfl, by (repeat (first | with_reducible exact Below.refl _ _ | with_reducible apply bl_alloc | with_reducible apply bl_drew | with_reducible apply bl_after | (with_reducible refine bl_call ?_ (by assumption))))⟩
theorem labs4 (n : Int) (hn : -4000000000000000000 ≤ n ∧ n ≤ 4000000000000000000) (w : World) :
    Calls Tryz.prog 29 #[(Value.int .i64 (n))] w fun e w' => e = .returned (Value.int .i64 (max n (-n))) ∧ w = w' := by
  have z := wrap64_in (x := -n) (by omega) (by omega)
  go_enter Tryz.func29, Tryz.ntmps29
  go_wp2
  go_ret
  exact ⟨rfl, rfl⟩
end Go.Proofs.YtegdnbceiopklaaGreat
namespace Go.Proofs.YtegdnbceiopklaaGreat
open Go.RowKit Go.Shelf
attribute [local go_sem] After.cell After.frozen

set_option maxHeartbeats 1000000 in
theorem rIsDeed4 (deed off : Int) (w : World) :
    Calls Tryz.prog 19 #[(Value.int .i64 (deed)), (Value.int .i64 (off))] w fun e w' => e = .returned (.bool (deedB deed off)) ∧ w = w' := by
  have HD := Lib.hid (show deedB deed off = (within deed 0 999999 && within off 0 999999) from rfl)
  have k1 := fun (W : World) => r4Within_any deed 0 999999 W
  have k2 := fun (W : World) => r4Within_any off 0 999999 W
  cases h1 : within deed 0 999999 <;> cases h2 : within off 0 999999 <;> rw [h1] at k1 <;> rw [h2] at k2 <;> rw [h1, h2] at HD <;> replace k1 := Lib.hid k1 <;> replace k2 := Lib.hid k2
  all_goals
    clear h1 h2
    go_enter Tryz.func19, Tryz.ntmps19
    go_wp2_with (first | (go_at_call 48; with_reducible refine Calls.mono (k1.out _) ?_; rintro e w' ⟨rfl, rfl⟩) | (go_at_call 48; with_reducible refine Calls.mono (k2.out _) ?_; rintro e w' ⟨rfl, rfl⟩))
    go_ret
    exact ⟨congrArg (fun n : Bool => Ending.returned (.bool n)) HD.out.symm, rfl⟩
set_option maxHeartbeats 1000000 in
theorem rAgree4 (t n deed off : Int) (hn : n = max t (-t)) (ht : -800000000000 ≤ t ∧ t ≤ 800000000000) (f : Pt) (h : AgBd n deed off f) (w : World) :
    Calls Tryz.prog 32 #[(Value.int .i64 (t)), (Value.int .i64 (deed)), (Value.int .i64 (off)), (Value.agg #[.int .i64 f.1, .int .i64 f.2])] w fun e w' => e = .returned (.bool (agB n deed off f)) ∧ Below w.heap.size w w' := by
  have h1 := h.u; have h2 := h.n; have h3 := h.d; have h4 := h.o
  have z1 := wrap64_in (x := f.1 * f.2) (by omega) (by omega)
  have z2 := wrap64_in (x := n * 1000000) (by omega) (by omega)
  have z3 := wrap64_in (x := deed * (f.1 * f.2)) (by omega) (by omega)
  have z4 := wrap64_in (x := off * (f.1 * f.2)) (by omega) (by omega)
  have z5 := wrap64_in (x := n * 1000000 - deed * (f.1 * f.2)) (by omega) (by omega)
  have e1 : agB n deed off f = decide (max (n * 1000000 - deed * (f.1 * f.2)) (-(n * 1000000 - deed * (f.1 * f.2))) ≤ off * (f.1 * f.2)) := rfl
  have k1 := Lib.hid fun (W : World) => rAbs_any t (by omega) W
  have k2 := Lib.hid fun (W : World) => rAbs_any (n * 1000000 - deed * (f.1 * f.2)) (by omega) W
  have HE := Lib.hid e1
  rw [← hn] at k1
  clear h h1 h2 h3 h4 e1 hn ht
  go_enter Tryz.func32, Tryz.ntmps32
  go_wp2_with (first | (go_at_call 44; with_reducible refine Calls.mono (k1.out _) ?_; rintro e w' ⟨rfl, rfl⟩) | (go_at_call 44; with_reducible refine Calls.mono (k2.out _) ?_; rintro e w' ⟨rfl, rfl⟩))
  go_ret
  exact ⟨congrArg (fun n : Bool => Ending.returned (.bool n)) HE.out.symm, by (repeat (first | with_reducible exact Below.refl _ _ | with_reducible apply bl_alloc | with_reducible apply bl_drew | with_reducible apply bl_after | (with_reducible refine bl_call ?_ (by assumption))))⟩
theorem agE_eq (S : Sht) (l : List Pt) (deed off : Int) : knE S (chk l) (deedB deed off) = agE S l deed off := by
  unfold knE agE msE
  by_cases h : shtB S = true
  · simp only [h, if_true]
  · simp only [h]
    simp
end Go.Proofs.YtegdnbceiopklaaGreat
