/- The small functions of knurlref02 (Within, IsPoint, Turn, On, sign, meet) answer what the plain geometry says, for points with numbers up to 200. -/
import Derived.Test.YthijegacjboclaaGreatLeaf
namespace Go.Proofs.YthijegacjboclaaGreat
open Go.RowKit
attribute [local go_sem] After.cell After.frozen

set_option maxHeartbeats 400000 in
theorem rWithin_any (n l h : Int) (w : World) :
    Calls Tryz.prog 73 #[(Value.int .i64 (n)), (Value.int .i64 (l)), (Value.int .i64 (h))] w fun e w' => e = .returned (.bool (within n l h)) ∧ w = w' := by
  go_enter Tryz.func73, Tryz.ntmps73
  go_wp2
  all_goals (go_ret; refine ⟨?_, rfl⟩; unfold within; simp; try omega)

set_option maxHeartbeats 400000 in
theorem rIsPoint_any (p : Pt) (w : World) :
    Calls Tryz.prog 77 #[(Value.agg #[.int .i64 p.1, .int .i64 p.2])] w fun e w' => e = .returned (.bool (isPt p)) ∧ Below w.heap.size w w' := by
  go_enter Tryz.func77, Tryz.ntmps77
  go_wp2_with (go_at_call 73; with_reducible refine Calls.mono (rWithin_any _ _ _ _) ?_; rintro e w' ⟨rfl, rfl⟩)
  all_goals (go_ret; refine ⟨?_, by (repeat (first | with_reducible exact Below.refl _ _ | with_reducible apply bl_alloc | with_reducible apply bl_drew | with_reducible apply bl_after | (with_reducible refine bl_call ?_ (by assumption))))⟩; simp [isPt, *])

set_option maxHeartbeats 400000 in
theorem rTurn_any (a b c : Pt) (ha : isPt a = true) (hb : isPt b = true) (hc : isPt c = true) (w : World) :
    Calls Tryz.prog 75 #[(Value.agg #[.int .i64 a.1, .int .i64 a.2]), (Value.agg #[.int .i64 b.1, .int .i64 b.2]), (Value.agg #[.int .i64 c.1, .int .i64 c.2])] w fun e w' => e = .returned (Value.int .i64 (turn a b c)) ∧ Below w.heap.size w w' := by
  have ht := turn_bd ha hb hc
  have hp := turn_parts ha hb hc
  have a0 := isPt_bd ha
  have b0 := isPt_bd hb
  have c0 := isPt_bd hc
  have m1 := wrap64_in (x := (b.1 - a.1) * (c.2 - a.2)) (by omega) (by omega)
  have m2 := wrap64_in (x := (b.2 - a.2) * (c.1 - a.1)) (by omega) (by omega)
  have m3 := wrap64_in (x := turn a b c) (by omega) (by omega)
  unfold turn at m3
  clear ha hb hc hp ht
  go_enter Tryz.func75, Tryz.ntmps75
  go_wp2
  go_ret
  exact ⟨ret_int m3, by (repeat (first | with_reducible exact Below.refl _ _ | with_reducible apply bl_alloc | with_reducible apply bl_drew | with_reducible apply bl_after | (with_reducible refine bl_call ?_ (by assumption))))⟩

set_option maxHeartbeats 400000 in
theorem rOn_any (a b p : Pt) (ha : isPt a = true) (hb : isPt b = true) (hp : isPt p = true) (w : World) :
    Calls Tryz.prog 79 #[(Value.agg #[.int .i64 a.1, .int .i64 a.2]), (Value.agg #[.int .i64 b.1, .int .i64 b.2]), (Value.agg #[.int .i64 p.1, .int .i64 p.2])] w fun e w' => e = .returned (.bool (has a b p)) ∧ Below w.heap.size w w' := by
  have H := Lib.hid (And.intro ha (And.intro hb hp))
  clear ha hb hp
  go_enter Tryz.func79, Tryz.ntmps79
  go_wp2_with (first | (go_at_call 73; with_reducible refine Calls.mono (rWithin_any _ _ _ _) ?_; rintro e w' ⟨rfl, rfl⟩) | (go_at_call 75; with_reducible refine Calls.mono (rTurn_any _ _ _ (by first | exact H.out.1 | exact H.out.2.1 | exact H.out.2.2) (by first | exact H.out.1 | exact H.out.2.1 | exact H.out.2.2) (by first | exact H.out.1 | exact H.out.2.1 | exact H.out.2.2) _) ?_; rintro e w1 ⟨rfl, hb1⟩; first | ((with_reducible apply kp_in_step (hb := hb1)); (with_reducible assumption); rintro ⟨hk, hc, hf, hzc, hzf⟩) | ((with_reducible refine kp_in_first hb1 ?_); rintro ⟨hk, hc, hf, hzc, hzf⟩)))
  all_goals go_ret
  all_goals refine ⟨?_, by (repeat (first | with_reducible exact Below.refl _ _ | with_reducible apply bl_alloc | with_reducible apply bl_drew | with_reducible apply bl_after | (with_reducible refine bl_call ?_ (by assumption))))⟩
  all_goals (apply ret_bool; simp [has, *])

set_option maxHeartbeats 400000 in
theorem rSign_any (n : Int) (w : World) :
    Calls Tryz.prog 99 #[(Value.int .i64 (n))] w fun e w' => e = .returned (Value.int .i64 (sgn n)) ∧ w = w' := by
  go_enter Tryz.func99, Tryz.ntmps99
  go_wp2
  all_goals go_ret
  all_goals (refine ⟨ret_int ?_, rfl⟩; unfold sgn; omega)

set_option maxHeartbeats 1000000 in
theorem rMeet_any (a b c d : Pt) (ha : isPt a = true) (hb : isPt b = true) (hc : isPt c = true) (hd : isPt d = true) (w : World) :
    Calls Tryz.prog 80 #[(Value.agg #[.int .i64 a.1, .int .i64 a.2]), (Value.agg #[.int .i64 b.1, .int .i64 b.2]), (Value.agg #[.int .i64 c.1, .int .i64 c.2]), (Value.agg #[.int .i64 d.1, .int .i64 d.2])] w fun e w' => e = .returned (.bool (meets a b c d)) ∧ Below w.heap.size w w' := by
  have H := Lib.hid (And.intro ha (And.intro hb (And.intro hc hd)))
  clear ha hb hc hd
  have g1 := sgn_bd (turn a b c)
  have g2 := sgn_bd (turn a b d)
  have g3 := sgn_bd (turn c d a)
  have g4 := sgn_bd (turn c d b)
  have p1 := mul_bd (A := 1) (B := 1) g1.1 g1.2 g2.1 g2.2
  have p2 := mul_bd (A := 1) (B := 1) g3.1 g3.2 g4.1 g4.2
  have m1 := wrap64_in (x := sgn (turn a b c) * sgn (turn a b d)) (by omega) (by omega)
  have m2 := wrap64_in (x := sgn (turn c d a) * sgn (turn c d b)) (by omega) (by omega)
  have q1 := sgn_apart (turn a b c) (turn a b d)
  have q2 := sgn_apart (turn c d a) (turn c d b)
  have HF : Hid (meets a b c d = (has a b c || has a b d || has c d a || has c d b || (decide (sgn (turn a b c) * sgn (turn a b d) < 0) && decide (sgn (turn c d a) * sgn (turn c d b) < 0)))) := by
    rw [q1, q2]; rfl
  clear q1 q2 p1 p2
  by_cases hs : sgn (turn a b c) * sgn (turn a b d) < 0
  · have hs' : decide (sgn (turn a b c) * sgn (turn a b d) < 0) = true := by simpa using hs
    go_enter Tryz.func80, Tryz.ntmps80
    go_wp2_with (go_at_call 79; with_reducible refine Calls.mono (rOn_any _ _ _ (by first | exact H.out.1 | exact H.out.2.1 | exact H.out.2.2.1 | exact H.out.2.2.2) (by first | exact H.out.1 | exact H.out.2.1 | exact H.out.2.2.1 | exact H.out.2.2.2) (by first | exact H.out.1 | exact H.out.2.1 | exact H.out.2.2.1 | exact H.out.2.2.2) _) ?_; rintro e w1 ⟨rfl, hb1⟩; first | ((with_reducible apply kp_in_step (hb := hb1)); (with_reducible assumption); rintro ⟨hk, hc, hf, hzc, hzf⟩) | ((with_reducible refine kp_in_first hb1 ?_); rintro ⟨hk, hc, hf, hzc, hzf⟩))
    all_goals first | go_ret | (refine wp_region_after (by kernel_rfl) (by kernel_rfl) ?_; (repeat (go_big_quiet_step (((first | (go_at_call 75; with_reducible exact calls_after (rTurn_any _ _ _ (by first | exact H.out.1 | exact H.out.2.1 | exact H.out.2.2.1 | exact H.out.2.2.2) (by first | exact H.out.1 | exact H.out.2.1 | exact H.out.2.2.1 | exact H.out.2.2.2) (by first | exact H.out.1 | exact H.out.2.1 | exact H.out.2.2.1 | exact H.out.2.2.2) _)) | (go_at_call 99; with_reducible exact calls_after_same (rSign_any _ _))))))); refine wpQuiet_nil ?_; rintro _ ⟨z, rfl⟩; (first | ((with_reducible apply kp_in_after (z := z)); (with_reducible assumption); rintro ⟨hk, hc, hf, hzc, hzf⟩) | ((with_reducible refine kp_in_after0 z ?_); rintro ⟨hk, hc, hf, hzc, hzf⟩)); go_wp2; go_ret)
    all_goals refine ⟨?_, by (repeat (first | with_reducible exact Below.refl _ _ | with_reducible apply bl_alloc | with_reducible apply bl_drew | with_reducible apply bl_after | (with_reducible refine bl_call ?_ (by assumption))))⟩
    all_goals (apply ret_bool; rw [HF.out]; simp [*])
  · have hs' : decide (sgn (turn a b c) * sgn (turn a b d) < 0) = false := by simpa using hs
    go_enter Tryz.func80, Tryz.ntmps80
    go_wp2_with (go_at_call 79; with_reducible refine Calls.mono (rOn_any _ _ _ (by first | exact H.out.1 | exact H.out.2.1 | exact H.out.2.2.1 | exact H.out.2.2.2) (by first | exact H.out.1 | exact H.out.2.1 | exact H.out.2.2.1 | exact H.out.2.2.2) (by first | exact H.out.1 | exact H.out.2.1 | exact H.out.2.2.1 | exact H.out.2.2.2) _) ?_; rintro e w1 ⟨rfl, hb1⟩; first | ((with_reducible apply kp_in_step (hb := hb1)); (with_reducible assumption); rintro ⟨hk, hc, hf, hzc, hzf⟩) | ((with_reducible refine kp_in_first hb1 ?_); rintro ⟨hk, hc, hf, hzc, hzf⟩))
    all_goals first | go_ret | (refine wp_region_after (by kernel_rfl) (by kernel_rfl) ?_; (repeat (go_big_quiet_step (((first | (go_at_call 75; with_reducible exact calls_after (rTurn_any _ _ _ (by first | exact H.out.1 | exact H.out.2.1 | exact H.out.2.2.1 | exact H.out.2.2.2) (by first | exact H.out.1 | exact H.out.2.1 | exact H.out.2.2.1 | exact H.out.2.2.2) (by first | exact H.out.1 | exact H.out.2.1 | exact H.out.2.2.1 | exact H.out.2.2.2) _)) | (go_at_call 99; with_reducible exact calls_after_same (rSign_any _ _))))))); refine wpQuiet_nil ?_; rintro _ ⟨z, rfl⟩; (first | ((with_reducible apply kp_in_after (z := z)); (with_reducible assumption); rintro ⟨hk, hc, hf, hzc, hzf⟩) | ((with_reducible refine kp_in_after0 z ?_); rintro ⟨hk, hc, hf, hzc, hzf⟩)); go_wp2; go_ret)
    all_goals refine ⟨?_, by (repeat (first | with_reducible exact Below.refl _ _ | with_reducible apply bl_alloc | with_reducible apply bl_drew | with_reducible apply bl_after | (with_reducible refine bl_call ?_ (by assumption))))⟩
    all_goals (apply ret_bool; rw [HF.out]; simp [*])
end Go.Proofs.YthijegacjboclaaGreat
