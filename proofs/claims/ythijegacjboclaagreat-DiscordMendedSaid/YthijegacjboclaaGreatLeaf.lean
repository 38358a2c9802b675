/- The small functions of corners (within, isPoint, turn, has, apart, meets) answer what the plain geometry says, for points with numbers up to 200. -/
import Derived.Test.YthijegacjboclaaGreatRows
import Derived.Test.YthijegacjboclaaGreatQt
import Derived.Test.YthijegacjboclaaGreatGeo
import Derived.WalkKit
import Derived.WalkSpells
import Derived.WalkLawsBesides
import Derived.BigQuiet
import Derived.Lib.Hide
import Derived.Lib.MinMax
namespace Go.Proofs.YthijegacjboclaaGreat
open Go.RowKit
attribute [local go_sem] After.cell After.frozen

theorem wrap64_in {x : Int} (h1 : -9000000000000000000 ≤ x) (h2 : x ≤ 9000000000000000000) : wrap64 x = x := by
  unfold wrap64; omega
theorem ret_int {k : IntKind} {a b : Int} (h : a = b) : Ending.returned (.int k a) = .returned (.int k b) := by rw [h]
theorem ret_bool {a b : Bool} (h : a = b) : Ending.returned (.bool a) = .returned (.bool b) := by rw [h]

set_option maxHeartbeats 400000 in
theorem within_any (n l h : Int) (w : World) :
    Calls Tryz.prog 81 #[(Value.int .i64 (n)), (Value.int .i64 (l)), (Value.int .i64 (h))] w fun e w' => e = .returned (.bool (within n l h)) ∧ w = w' := by
  go_enter Tryz.func81, Tryz.ntmps81
  go_wp2
  all_goals (go_ret; refine ⟨?_, rfl⟩; unfold within; simp; try omega)

set_option maxHeartbeats 400000 in
theorem isPoint_any (p : Pt) (w : World) :
    Calls Tryz.prog 84 #[(Value.agg #[.int .i64 p.1, .int .i64 p.2])] w fun e w' => e = .returned (.bool (isPt p)) ∧ Below w.heap.size w w' := by
  go_enter Tryz.func84, Tryz.ntmps84
  go_wp2_with (go_at_call 81; with_reducible refine Calls.mono (within_any _ _ _ _) ?_; rintro e w' ⟨rfl, rfl⟩)
  all_goals (go_ret; refine ⟨?_, (Below.refl _ _).alloc (Nat.le_refl _) _⟩; simp [isPt, *])

set_option maxHeartbeats 400000 in
theorem turn_any (a b c : Pt) (ha : isPt a = true) (hb : isPt b = true) (hc : isPt c = true) (w : World) :
    Calls Tryz.prog 120 #[(Value.agg #[.int .i64 a.1, .int .i64 a.2]), (Value.agg #[.int .i64 b.1, .int .i64 b.2]), (Value.agg #[.int .i64 c.1, .int .i64 c.2])] w fun e w' => e = .returned (Value.int .i64 (turn a b c)) ∧ Below w.heap.size w w' := by
  have ht := turn_bd ha hb hc
  have hp := turn_parts ha hb hc
  have a0 := isPt_bd ha
  have b0 := isPt_bd hb
  have c0 := isPt_bd hc
  have m1 := wrap64_in (x := (b.1 - a.1) * (c.2 - a.2)) (by omega) (by omega)
  have m2 := wrap64_in (x := (b.2 - a.2) * (c.1 - a.1)) (by omega) (by omega)
  have m3 := wrap64_in (x := turn a b c) (by omega) (by omega)
  unfold turn at m3
  clear ha hb hc hp ht
  go_enter Tryz.func120, Tryz.ntmps120
  go_wp2
  go_ret
  exact ⟨ret_int m3, (((Below.refl _ _).alloc (Nat.le_refl _) _).alloc (by simp) _).alloc (by simp; omega) _⟩

set_option maxHeartbeats 400000 in
theorem has_any (a b p : Pt) (ha : isPt a = true) (hb : isPt b = true) (hp : isPt p = true) (w : World) :
    Calls Tryz.prog 102 #[(Value.agg #[.int .i64 a.1, .int .i64 a.2, .int .i64 b.1, .int .i64 b.2]), (Value.agg #[.int .i64 p.1, .int .i64 p.2])] w fun e w' => e = .returned (.bool (has a b p)) ∧ Below w.heap.size w w' := by
  have H := Lib.hid (And.intro ha (And.intro hb hp))
  clear ha hb hp
  go_enter Tryz.func102, Tryz.ntmps102
  go_wp2_with (first | (go_at_call 81; with_reducible refine Calls.mono (within_any _ _ _ _) ?_; rintro e w' ⟨rfl, rfl⟩) | (go_at_call 120; with_reducible refine Calls.mono (turn_any _ _ _ (by first | exact H.out.1 | exact H.out.2.1 | exact H.out.2.2) (by first | exact H.out.1 | exact H.out.2.1 | exact H.out.2.2) (by first | exact H.out.1 | exact H.out.2.1 | exact H.out.2.2) _) ?_; rintro e w1 ⟨rfl, hb1⟩; first | ((with_reducible apply kp_in_step (hb := hb1)); (with_reducible assumption); rintro ⟨hk, hc, hf, hzc, hzf⟩) | ((with_reducible refine kp_in_first hb1 ?_); rintro ⟨hk, hc, hf, hzc, hzf⟩)))
  all_goals go_ret
  all_goals refine ⟨?_, by (repeat (first | with_reducible exact Below.refl _ _ | with_reducible apply bl_alloc | with_reducible apply bl_drew | with_reducible apply bl_after | (with_reducible refine bl_call ?_ (by assumption))))⟩
  all_goals (apply ret_bool; simp [has, *])

set_option maxHeartbeats 400000 in
theorem apart_any (a b p q : Pt) (ha : isPt a = true) (hb : isPt b = true) (hp : isPt p = true) (hq : isPt q = true) (w : World) :
    Calls Tryz.prog 121 #[(Value.agg #[.int .i64 a.1, .int .i64 a.2, .int .i64 b.1, .int .i64 b.2]), (Value.agg #[.int .i64 p.1, .int .i64 p.2]), (Value.agg #[.int .i64 q.1, .int .i64 q.2])] w fun e w' => e = .returned (.bool (apart a b p q)) ∧ Below w.heap.size w w' := by
  have H := Lib.hid (And.intro ha (And.intro hb (And.intro hp hq)))
  clear ha hb hp hq
  go_enter Tryz.func121, Tryz.ntmps121
  go_wp2
  refine wp_region_after (by kernel_rfl) (by kernel_rfl) ?_; (repeat (go_big_quiet_step (((go_at_call 120; with_reducible exact calls_after (turn_any _ _ _ (by first | exact H.out.1 | exact H.out.2.1 | exact H.out.2.2.1 | exact H.out.2.2.2) (by first | exact H.out.1 | exact H.out.2.1 | exact H.out.2.2.1 | exact H.out.2.2.2) (by first | exact H.out.1 | exact H.out.2.1 | exact H.out.2.2.1 | exact H.out.2.2.2) _)))))); refine wpQuiet_nil ?_; rintro _ ⟨z, rfl⟩; (first | ((with_reducible apply kp_in_after (z := z)); (with_reducible assumption); rintro ⟨hk, hc, hf, hzc, hzf⟩) | ((with_reducible refine kp_in_after0 z ?_); rintro ⟨hk, hc, hf, hzc, hzf⟩))
  go_wp2
  all_goals go_ret
  all_goals refine ⟨?_, by (repeat (first | with_reducible exact Below.refl _ _ | with_reducible apply bl_alloc | with_reducible apply bl_drew | with_reducible apply bl_after | (with_reducible refine bl_call ?_ (by assumption))))⟩
  all_goals (apply ret_bool; rw [Bool.eq_iff_iff]; simp [apart]; omega)

set_option maxHeartbeats 400000 in
theorem meets_any (a b c d : Pt) (ha : isPt a = true) (hb : isPt b = true) (hc : isPt c = true) (hd : isPt d = true) (w : World) :
    Calls Tryz.prog 103 #[(Value.agg #[.int .i64 a.1, .int .i64 a.2, .int .i64 b.1, .int .i64 b.2]), (Value.agg #[.int .i64 c.1, .int .i64 c.2, .int .i64 d.1, .int .i64 d.2])] w fun e w' => e = .returned (.bool (meets a b c d)) ∧ Below w.heap.size w w' := by
  have H := Lib.hid (And.intro ha (And.intro hb (And.intro hc hd)))
  clear ha hb hc hd
  go_enter Tryz.func103, Tryz.ntmps103
  go_wp2_with (first | (go_at_call 102; with_reducible refine Calls.mono (has_any _ _ _ (by first | exact H.out.1 | exact H.out.2.1 | exact H.out.2.2.1 | exact H.out.2.2.2) (by first | exact H.out.1 | exact H.out.2.1 | exact H.out.2.2.1 | exact H.out.2.2.2) (by first | exact H.out.1 | exact H.out.2.1 | exact H.out.2.2.1 | exact H.out.2.2.2) _) ?_; rintro e w1 ⟨rfl, hb1⟩; first | ((with_reducible apply kp_in_step (hb := hb1)); (with_reducible assumption); rintro ⟨hk, hc, hf, hzc, hzf⟩) | ((with_reducible refine kp_in_first hb1 ?_); rintro ⟨hk, hc, hf, hzc, hzf⟩)) | (go_at_call 121; with_reducible refine Calls.mono (apart_any _ _ _ _ (by first | exact H.out.1 | exact H.out.2.1 | exact H.out.2.2.1 | exact H.out.2.2.2) (by first | exact H.out.1 | exact H.out.2.1 | exact H.out.2.2.1 | exact H.out.2.2.2) (by first | exact H.out.1 | exact H.out.2.1 | exact H.out.2.2.1 | exact H.out.2.2.2) (by first | exact H.out.1 | exact H.out.2.1 | exact H.out.2.2.1 | exact H.out.2.2.2) _) ?_; rintro e w1 ⟨rfl, hb1⟩; first | ((with_reducible apply kp_in_step (hb := hb1)); (with_reducible assumption); rintro ⟨hk, hc, hf, hzc, hzf⟩) | ((with_reducible refine kp_in_first hb1 ?_); rintro ⟨hk, hc, hf, hzc, hzf⟩)))
  all_goals go_ret
  all_goals refine ⟨?_, by (repeat (first | with_reducible exact Below.refl _ _ | with_reducible apply bl_alloc | with_reducible apply bl_drew | with_reducible apply bl_after | (with_reducible refine bl_call ?_ (by assumption))))⟩
  all_goals (apply ret_bool; simp [meets, *])
end Go.Proofs.YthijegacjboclaaGreat
