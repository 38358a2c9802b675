/- The functions corners.ratio and knurlref02.Lowest answer a fraction in lowest terms with a Den above 0, for a Den that is not 0. -/
import Derived.Test.YtijpolfmiajenaaDiv
import Derived.Test.YtijpolfmiajenaaSl
namespace Go.Proofs.Ytijpolfmiajenaa
open Go.RowKit
attribute [local go_sem] After.cell After.frozen

/-- The divisor, with the sign of the Den. -/
def divOf (a b : Int) : Int := if b < 0 then - (Int.gcd a b : Int) else (Int.gcd a b : Int)
def lowOf (a b : Int) : Pt := (a.tdiv (divOf a b), b.tdiv (divOf a b))
theorem gcd_pos {a b : Int} (hb : b ≠ 0) : 0 < (Int.gcd a b : Int) := by
  have : Int.gcd a b ≠ 0 := fun h => hb (Int.gcd_eq_zero_iff.1 h).2
  omega
theorem gcd_le {a b : Int} (hb : b ≠ 0) : (Int.gcd a b : Int) ≤ b.natAbs := by
  have := Int.gcd_le_natAbs_right a hb
  omega
theorem tdiv_bd {a d B : Int} (h1 : -B ≤ a) (h2 : a ≤ B) : -B ≤ a.tdiv d ∧ a.tdiv d ≤ B := by
  have h := Int.natAbs_tdiv_le_natAbs a d
  omega

set_option maxRecDepth 100000 in
set_option maxHeartbeats 1000000 in
theorem ratio_any (a b : Int) (w : World) (hb : b ≠ 0) (h1 : -4000000000000000000 ≤ a ∧ a ≤ 4000000000000000000) (h2 : -4000000000000000000 ≤ b ∧ b ≤ 4000000000000000000) :
    Calls Try.prog 72 #[(Value.int .i64 (a)), (Value.int .i64 (b))] w fun e w' => e = .returned (Value.agg #[.int .i64 (lowOf a b).1, .int .i64 (lowOf a b).2]) ∧ Below w.heap.size w w' := by
  have g1 := gcd_pos (a := a) hb
  have g2 := gcd_le (a := a) hb
  have FIN : ∀ D : Int, divOf a b = D → D ≠ 0 ∧ wrap64 (a.tdiv D) = a.tdiv D ∧ wrap64 (b.tdiv D) = b.tdiv D := by
    intro D e
    have t1 := tdiv_bd (d := D) h1.1 h1.2
    have t2 := tdiv_bd (d := D) h2.1 h2.2
    refine ⟨?_, wrap64_in (by omega) (by omega), wrap64_in (by omega) (by omega)⟩
    rw [← e]
    unfold divOf
    split <;> omega
  by_cases hlt : b < 0
  · have e : divOf a b = - (Int.gcd a b : Int) := if_pos hlt
    obtain ⟨f1, f2, f3⟩ := FIN _ e
    go_enter Try.func72, Try.ntmps72
    go_wp2_with (go_at_call 48; with_reducible refine Calls.mono (divisor_is _ _ _ h1 h2) ?_; rintro e w' ⟨rfl, rfl⟩)
    have k1 : wrap64 (-a.tdiv (Int.gcd a b : Int)) = (lowOf a b).1 := by rw [← Int.tdiv_neg, f2, lowOf, e]
    have k2 : wrap64 (-b.tdiv (Int.gcd a b : Int)) = (lowOf a b).2 := by rw [← Int.tdiv_neg, f3, lowOf, e]
    refine wp_region_after_tail 7 (by kernel_rfl) (by kernel_rfl) ?_; simp only [List.take_succ_cons, List.take_zero, List.drop_succ_cons, List.drop_zero]; (repeat (go_big_quiet_step ((fail)))); refine wpQuiet_nil ?_; rintro _ ⟨z, rfl⟩; (first | ((with_reducible apply kp_in_after (z := z)); (with_reducible assumption); rintro ⟨hk, hc, hf, hzc, hzf⟩) | ((with_reducible refine kp_in_after0 z ?_); rintro ⟨hk, hc, hf, hzc, hzf⟩))
    go_wp2
    have b0 : Blk z.val w.heap.size 40 #[(Value.int .i64 (0)), (Value.int .i64 (0))] := (Blk.new w _ _).below z.ok
    have hb0 : Below w.heap.size w z.val := by (repeat (first | with_reducible exact Below.refl _ _ | with_reducible apply bl_alloc | with_reducible apply bl_drew | with_reducible apply bl_after | (with_reducible refine bl_call ?_ (by assumption))))
    refine bodyPost_ret (v := (Value.agg #[.int .i64 (lowOf a b).1, .int .i64 (lowOf a b).2])) (by simp [results, Try.results72, go_sem] <;> first | exact ⟨k1, k2⟩ | exact ⟨f2.symm.trans k1, f3.symm.trans k2⟩ | exact ⟨f2.symm.trans k1, (Int.tdiv_eq_ediv_of_nonneg (by omega)).symm.trans (f3.symm.trans k2)⟩ | exact ⟨(Int.tdiv_eq_ediv_of_nonneg (by omega)).symm.trans (f2.symm.trans k1), (Int.tdiv_eq_ediv_of_nonneg (by omega)).symm.trans (f3.symm.trans k2)⟩) rfl ?_
    exact ⟨rfl, (hb0.setCell (p := ⟨w.heap.size, 0, none⟩) (by simp) _).setCell (p := ⟨w.heap.size, 1, none⟩) (by simp) _⟩
  · have e : divOf a b = (Int.gcd a b : Int) := if_neg hlt
    obtain ⟨f1, f2, f3⟩ := FIN _ e
    go_enter Try.func72, Try.ntmps72
    go_wp2_with (go_at_call 48; with_reducible refine Calls.mono (divisor_is _ _ _ h1 h2) ?_; rintro e w' ⟨rfl, rfl⟩)
    have k1 : wrap64 (a.tdiv (Int.gcd a b : Int)) = (lowOf a b).1 := by rw [f2, lowOf, e]
    have k2 : wrap64 (b.tdiv (Int.gcd a b : Int)) = (lowOf a b).2 := by rw [f3, lowOf, e]
    refine wp_region_after_tail 7 (by kernel_rfl) (by kernel_rfl) ?_; simp only [List.take_succ_cons, List.take_zero, List.drop_succ_cons, List.drop_zero]; (repeat (go_big_quiet_step ((fail)))); refine wpQuiet_nil ?_; rintro _ ⟨z, rfl⟩; (first | ((with_reducible apply kp_in_after (z := z)); (with_reducible assumption); rintro ⟨hk, hc, hf, hzc, hzf⟩) | ((with_reducible refine kp_in_after0 z ?_); rintro ⟨hk, hc, hf, hzc, hzf⟩))
    go_wp2
    have hb0 : Below w.heap.size w z.val := by (repeat (first | with_reducible exact Below.refl _ _ | with_reducible apply bl_alloc | with_reducible apply bl_drew | with_reducible apply bl_after | (with_reducible refine bl_call ?_ (by assumption))))
    refine bodyPost_ret (v := (Value.agg #[.int .i64 (lowOf a b).1, .int .i64 (lowOf a b).2])) (by simp [results, Try.results72, go_sem] <;> first | exact ⟨k1, k2⟩ | exact ⟨f2.symm.trans k1, f3.symm.trans k2⟩ | exact ⟨f2.symm.trans k1, (Int.tdiv_eq_ediv_of_nonneg (by omega)).symm.trans (f3.symm.trans k2)⟩ | exact ⟨(Int.tdiv_eq_ediv_of_nonneg (by omega)).symm.trans (f2.symm.trans k1), (Int.tdiv_eq_ediv_of_nonneg (by omega)).symm.trans (f3.symm.trans k2)⟩) rfl ?_
    exact ⟨rfl, (hb0.setCell (p := ⟨w.heap.size, 0, none⟩) (by simp) _).setCell (p := ⟨w.heap.size, 1, none⟩) (by simp) _⟩

set_option maxRecDepth 100000 in
set_option maxHeartbeats 2000000 in
theorem Lowest_any (a b : Int) (w : World) (hb : b ≠ 0) (h1 : -4000000000000000000 ≤ a ∧ a ≤ 4000000000000000000) (h2 : -4000000000000000000 ≤ b ∧ b ≤ 4000000000000000000) :
    Calls Try.prog 32 #[(Value.int .i64 (a)), (Value.int .i64 (b))] w fun e w' => e = .returned (Value.agg #[.int .i64 (lowOf a b).1, .int .i64 (lowOf a b).2]) ∧ Below w.heap.size w w' := by
  have g1 := gcd_pos (a := a) hb
  have g2 := gcd_le (a := a) hb
  have FIN : ∀ D : Int, divOf a b = D → D ≠ 0 ∧ wrap64 (a.tdiv D) = a.tdiv D ∧ wrap64 (b.tdiv D) = b.tdiv D := by
    intro D e
    have t1 := tdiv_bd (d := D) h1.1 h1.2
    have t2 := tdiv_bd (d := D) h2.1 h2.2
    refine ⟨?_, wrap64_in (by omega) (by omega), wrap64_in (by omega) (by omega)⟩
    rw [← e]
    unfold divOf
    split <;> omega
  go_enter Try.func32, Try.ntmps32
  go_wp2
  go_loopw [5, 6] (fun i j wr => ∃ x y : Int, i = (Value.int .i64 (x)) ∧ j = (Value.int .i64 (y)) ∧ 0 ≤ x ∧ 0 ≤ y ∧ x ≤ 4000000000000000000 ∧ y ≤ 4000000000000000000 ∧ Int.gcd x y = Int.gcd a b ∧ Blk wr w.heap.size 40 #[(Value.int .i64 (0)), (Value.int .i64 (0))] ∧ Below w.heap.size w wr) (fun _ j _ => (intOf j).toNat)
  case atStart =>
    refine ⟨max a (-a), max b (-b), rfl, rfl, by omega, by omega, by omega, by omega, ?_, Blk.new _ _ _, by (repeat (first | with_reducible exact Below.refl _ _ | with_reducible apply bl_alloc | with_reducible apply bl_drew | with_reducible apply bl_after | (with_reducible refine bl_call ?_ (by assumption))))⟩
    have e1 : max a (-a) = (a.natAbs : Int) := by omega
    have e2 : max b (-b) = (b.natAbs : Int) := by omega
    rw [e1, e2]
    rfl
  case round =>
    obtain ⟨x, y, rfl, rfl, x0, y0, x1, y1, hg, c0, hbw⟩ := hrel
    have l0 := c0.lt
    have f0 := c0.frozen 0
    have f1 := c0.frozen 1
    have v0 := c0.cell 0
    have v1 := c0.cell 1
    by_cases hy : 0 < y
    · go_wp2
      refine wp_region_after (by kernel_rfl) (by kernel_rfl) ?_; (repeat (go_big_quiet_step ((fail)))); refine wpQuiet_nil ?_; rintro _ ⟨z, rfl⟩; (first | ((with_reducible apply kp_in_after (z := z)); (with_reducible assumption); rintro ⟨hk, hc, hf, hzc, hzf⟩) | ((with_reducible refine kp_in_after0 z ?_); rintro ⟨hk, hc, hf, hzc, hzf⟩))
      go_wp2
      have e1 := Int.emod_nonneg x (show y ≠ 0 by omega)
      have e2 := Int.emod_lt_of_pos x hy
      have e3 := gcd_step x y (by omega)
      rw [Int.tmod_eq_emod_of_nonneg x0] at e3
      refine ⟨⟨y, x % y, rfl, rfl, y0, e1, y1, by omega, by rw [e3]; exact hg, c0.below z.ok, by (repeat (first | with_reducible exact Below.refl _ _ | with_reducible apply bl_alloc | with_reducible apply bl_drew | with_reducible apply bl_after | (with_reducible refine bl_call ?_ (by assumption))))⟩, ?_⟩
      simp only [intOf]
      omega
    · obtain rfl : y = 0 := by omega
      have hx : x = (Int.gcd a b : Int) := by
        rw [← hg, Int.gcd_zero_right]; omega
      subst hx
      by_cases hlt : b < 0
      · have e : divOf a b = - (Int.gcd a b : Int) := if_pos hlt
        obtain ⟨d1, d2, d3⟩ := FIN _ e
        go_wp2
        have k1 : wrap64 (-a.tdiv (Int.gcd a b : Int)) = (lowOf a b).1 := by rw [← Int.tdiv_neg, d2, lowOf, e]
        have k2 : wrap64 (-b.tdiv (Int.gcd a b : Int)) = (lowOf a b).2 := by rw [← Int.tdiv_neg, d3, lowOf, e]
        refine wp_region_after_tail 7 (by kernel_rfl) (by kernel_rfl) ?_; simp only [List.take_succ_cons, List.take_zero, List.drop_succ_cons, List.drop_zero]; (repeat (go_big_quiet_step ((fail)))); refine wpQuiet_nil ?_; rintro _ ⟨z, rfl⟩; (first | ((with_reducible apply kp_in_after (z := z)); (with_reducible assumption); rintro ⟨hk, hc, hf, hzc, hzf⟩) | ((with_reducible refine kp_in_after0 z ?_); rintro ⟨hk, hc, hf, hzc, hzf⟩))
        go_wp2
        have hb0 : Below w.heap.size w z.val := by (repeat (first | with_reducible exact Below.refl _ _ | with_reducible apply bl_alloc | with_reducible apply bl_drew | with_reducible apply bl_after | (with_reducible refine bl_call ?_ (by assumption))))
        have c1 := c0.below z.ok
        have W0 : ∀ u, (z.val.setCell ⟨w.heap.size, 0, none⟩ u).cell? ⟨w.heap.size, 0, none⟩ = some u := fun u => by simpa using (c1.set_ 0 u).cell 0
        have W1 : ∀ u v, ((z.val.setCell ⟨w.heap.size, 0, none⟩ u).setCell ⟨w.heap.size, 1, none⟩ v).cell? ⟨w.heap.size, 1, none⟩ = some v := fun u v => by simpa using ((c1.set_ 0 u).set_ 1 v).cell 1
        refine bodyPost_ret (v := (Value.agg #[.int .i64 (lowOf a b).1, .int .i64 (lowOf a b).2])) (by simp [results, Try.results32, go_sem, W0, W1] <;> first | exact ⟨k1, k2⟩ | exact ⟨d2.symm.trans k1, d3.symm.trans k2⟩ | exact ⟨d2.symm.trans k1, (Int.tdiv_eq_ediv_of_nonneg (by omega)).symm.trans (d3.symm.trans k2)⟩ | exact ⟨(Int.tdiv_eq_ediv_of_nonneg (by omega)).symm.trans (d2.symm.trans k1), (Int.tdiv_eq_ediv_of_nonneg (by omega)).symm.trans (d3.symm.trans k2)⟩) rfl ?_
        exact ⟨rfl, (hb0.setCell (p := ⟨w.heap.size, 0, none⟩) (by simp) _).setCell (p := ⟨w.heap.size, 1, none⟩) (by simp) _⟩
      · have e : divOf a b = (Int.gcd a b : Int) := if_neg hlt
        obtain ⟨d1, d2, d3⟩ := FIN _ e
        go_wp2
        have k1 : wrap64 (a.tdiv (Int.gcd a b : Int)) = (lowOf a b).1 := by rw [d2, lowOf, e]
        have k2 : wrap64 (b.tdiv (Int.gcd a b : Int)) = (lowOf a b).2 := by rw [d3, lowOf, e]
        refine wp_region_after_tail 7 (by kernel_rfl) (by kernel_rfl) ?_; simp only [List.take_succ_cons, List.take_zero, List.drop_succ_cons, List.drop_zero]; (repeat (go_big_quiet_step ((fail)))); refine wpQuiet_nil ?_; rintro _ ⟨z, rfl⟩; (first | ((with_reducible apply kp_in_after (z := z)); (with_reducible assumption); rintro ⟨hk, hc, hf, hzc, hzf⟩) | ((with_reducible refine kp_in_after0 z ?_); rintro ⟨hk, hc, hf, hzc, hzf⟩))
        go_wp2
        have hb0 : Below w.heap.size w z.val := by (repeat (first | with_reducible exact Below.refl _ _ | with_reducible apply bl_alloc | with_reducible apply bl_drew | with_reducible apply bl_after | (with_reducible refine bl_call ?_ (by assumption))))
        have c1 := c0.below z.ok
        have W0 : ∀ u, (z.val.setCell ⟨w.heap.size, 0, none⟩ u).cell? ⟨w.heap.size, 0, none⟩ = some u := fun u => by simpa using (c1.set_ 0 u).cell 0
        have W1 : ∀ u v, ((z.val.setCell ⟨w.heap.size, 0, none⟩ u).setCell ⟨w.heap.size, 1, none⟩ v).cell? ⟨w.heap.size, 1, none⟩ = some v := fun u v => by simpa using ((c1.set_ 0 u).set_ 1 v).cell 1
        refine bodyPost_ret (v := (Value.agg #[.int .i64 (lowOf a b).1, .int .i64 (lowOf a b).2])) (by simp [results, Try.results32, go_sem, W0, W1] <;> first | exact ⟨k1, k2⟩ | exact ⟨d2.symm.trans k1, d3.symm.trans k2⟩ | exact ⟨d2.symm.trans k1, (Int.tdiv_eq_ediv_of_nonneg (by omega)).symm.trans (d3.symm.trans k2)⟩ | exact ⟨(Int.tdiv_eq_ediv_of_nonneg (by omega)).symm.trans (d2.symm.trans k1), (Int.tdiv_eq_ediv_of_nonneg (by omega)).symm.trans (d3.symm.trans k2)⟩) rfl ?_
        exact ⟨rfl, (hb0.setCell (p := ⟨w.heap.size, 0, none⟩) (by simp) _).setCell (p := ⟨w.heap.size, 1, none⟩) (by simp) _⟩
end Go.Proofs.Ytijpolfmiajenaa
