/- The law CornersLarger answers true for any corners and any factor, and leaves its arguments as they were. -/
import Derived.Test.YtijpolfmiajenaaPts
import Derived.Test.YtijpolfmiajenaaOpen
import Derived.Test.YtijpolfmiajenaaTold
import Derived.Test.YtijpolfmiajenaaMove
import Derived.Test.YtijpolfmiajenaaLow
import Derived.Deep.AppendLies
import Derived.StillTactics
import Derived.Test.YtijpolfmiajenaaRows
namespace Go.Proofs.Ytijpolfmiajenaa
open Go.ChangeShapes Go.WideShapes Go.RowKit
attribute [local go_sem] After.cell After.frozen

theorem take_next {l : List Pt} {k : Nat} (h : k < l.length) : l.take (k + 1) = l.take k ++ [pat l k] := by
  rw [List.take_add_one, pat_get h]; rfl
theorem run_eqIn_rat (d : Nat) (a b : Pt) (w : World) : (Op.equalIn (d + 2) 40 (Value.agg #[.int .i64 a.1, .int .i64 a.2]) (Value.agg #[.int .i64 b.1, .int .i64 b.2])).run Try.prog w = .ok (decide (a = b)) w := by
  obtain ⟨a1, a2⟩ := a
  obtain ⟨b1, b2⟩ := b
  rw [run_equalIn_struct w (d + 1) _ _ _ (by kernel_rfl) (by kernel_rfl)]
  by_cases h1 : a1 = b1 <;> by_cases h2 : a2 = b2 <;> simp [go_sem, h1, h2]
theorem run_eql_rat (a b : Pt) (w : World) : (binOp .eql 40 (Value.agg #[.int .i64 a.1, .int .i64 a.2]) (Value.agg #[.int .i64 b.1, .int .i64 b.2])).run Try.prog w = .ok (.bool (decide (a = b))) w := by
  rw [run_eql_struct, show (10000 : Nat) = 9998 + 2 from rfl, run_eqIn_rat]; rfl
attribute [local go_sem high] run_eql_rat

set_option maxRecDepth 100000 in
set_option maxHeartbeats 4000000 in
theorem lawLarger_any (A : Option Addr) (ca : Nat) (l : List Pt) (n : Int) (w : World) (ha : Pts w A l) (hla : l.length ≤ 9223372036854775807) (hnn : (Lit.int .i64 n).wf = true) :
    Calls Try.prog 8 #[.slice A l.length ca, (Value.int .i64 (n))] w fun e w' => e = .returned (.bool true) ∧ Below w.heap.size w w' := by
  have hr := Lib.hid fun (W : World) (hW : Below w.heap.size w W) => ready_any A ca l W (ha.below hW) hla
  by_cases hok : Ok l
  · rw [decide_eq_true hok] at hr
    by_cases hn1 : n < 1
    · go_enter Try.func8, Try.ntmps8
      go_wp2_with (first | (go_at_call 14; with_reducible refine Calls.mono (hr.out _ (by (repeat (first | with_reducible exact Below.refl _ _ | with_reducible apply bl_alloc | with_reducible apply bl_drew | with_reducible apply bl_after | (with_reducible refine bl_call ?_ (by assumption)))))) ?_; rintro e w1 ⟨rfl, hb1⟩; first | ((with_reducible apply kp_in_step (hb := hb1)); (with_reducible assumption); rintro ⟨hk, hc, hf, hzc, hzf⟩) | ((with_reducible refine kp_in_first hb1 ?_); rintro ⟨hk, hc, hf, hzc, hzf⟩)) | (go_at_call 15; with_reducible refine Calls.mono (works_any _) ?_; rintro e w1 ⟨rfl, hb1⟩; first | ((with_reducible apply kp_in_step (hb := hb1)); (with_reducible assumption); rintro ⟨hk, hc, hf, hzc, hzf⟩) | ((with_reducible refine kp_in_first hb1 ?_); rintro ⟨hk, hc, hf, hzc, hzf⟩)))
      go_ret
      exact ⟨rfl, by (repeat (first | with_reducible exact Below.refl _ _ | with_reducible apply bl_alloc | with_reducible apply bl_drew | with_reducible apply bl_after | (with_reducible refine bl_call ?_ (by assumption))))⟩
    by_cases hn2 : 200 < n
    · go_enter Try.func8, Try.ntmps8
      go_wp2_with (first | (go_at_call 14; with_reducible refine Calls.mono (hr.out _ (by (repeat (first | with_reducible exact Below.refl _ _ | with_reducible apply bl_alloc | with_reducible apply bl_drew | with_reducible apply bl_after | (with_reducible refine bl_call ?_ (by assumption)))))) ?_; rintro e w1 ⟨rfl, hb1⟩; first | ((with_reducible apply kp_in_step (hb := hb1)); (with_reducible assumption); rintro ⟨hk, hc, hf, hzc, hzf⟩) | ((with_reducible refine kp_in_first hb1 ?_); rintro ⟨hk, hc, hf, hzc, hzf⟩)) | (go_at_call 15; with_reducible refine Calls.mono (works_any _) ?_; rintro e w1 ⟨rfl, hb1⟩; first | ((with_reducible apply kp_in_step (hb := hb1)); (with_reducible assumption); rintro ⟨hk, hc, hf, hzc, hzf⟩) | ((with_reducible refine kp_in_first hb1 ?_); rintro ⟨hk, hc, hf, hzc, hzf⟩)))
      go_ret
      exact ⟨rfl, by (repeat (first | with_reducible exact Below.refl _ _ | with_reducible apply bl_alloc | with_reducible apply bl_drew | with_reducible apply bl_after | (with_reducible refine bl_call ?_ (by assumption))))⟩
    obtain ⟨b, o, rfl, hp⟩ := ha.ok hok
    obtain ⟨i0, hi, hz0, hz1, hz2⟩ := info_parts infoPt
    have hl10 := hok.1
    have HP := Lib.hid hok.2.1
    have hp0 := hp.lt
    go_enter Try.func8, Try.ntmps8
    go_upto_region 3 with (first | (go_at_call 14; with_reducible refine Calls.mono (hr.out _ (by (repeat (first | with_reducible exact Below.refl _ _ | with_reducible apply bl_alloc | with_reducible apply bl_drew | with_reducible apply bl_after | (with_reducible refine bl_call ?_ (by assumption)))))) ?_; rintro e w1 ⟨rfl, hb1⟩; first | ((with_reducible apply kp_in_step (hb := hb1)); (with_reducible assumption); rintro ⟨hk, hc, hf, hzc, hzf⟩) | ((with_reducible refine kp_in_first hb1 ?_); rintro ⟨hk, hc, hf, hzc, hzf⟩)))
    have hbW : Below w.heap.size w w1 := by (repeat (first | with_reducible exact Below.refl _ _ | with_reducible apply bl_alloc | with_reducible apply bl_drew | with_reducible apply bl_after | (with_reducible refine bl_call ?_ (by assumption))))
    clear hk hc hf hzc hzf hb1
    have hpW := hp.below hbW
    clear hp
    generalize w1 = W at hbW hpW ⊢
    have hbW2 := hbW.size
    have lp := hpW.lt
    have hbb : b < w.heap.size := hp0
    go_wp2
    go_loopg [5, 6] l.length (fun g v i wr => ∃ k : Nat, k ≤ l.length ∧ g = l.length - k ∧ i = (Value.int .i64 ((k : Int))) ∧ wr.ownsRow W.heap.size 33 2 v k (ptsV (scl n (l.take k))) ∧ Below W.heap.size W wr)
    case atStart => exact ⟨0, by omega, rfl, rfl, World.ownsRow_nil _ _ _ _, by (repeat (first | with_reducible exact Below.refl _ _ | with_reducible apply bl_alloc | with_reducible apply bl_drew | with_reducible apply bl_after | (with_reducible refine bl_call ?_ (by assumption))))⟩
    case round =>
      obtain ⟨k, kn, rfl, rfl, hown, hbw⟩ := hrel
      by_cases hlt : k < l.length
      · have pa := hpW.below hbw
        have lb := pa.lt
        have x1 := pa.xp hlt
        have x2 := pa.yp hlt
        have p0 := isPt_bd (HP.out k hlt)
        have hne : u5.ownBlock ≠ some b := fun h => by have h1 := (hown.lt b h).1; omega
        have hgm := hbw.size
        have HB := Lib.hid hbw
        clear hbw pa
        have i1 : (0 : Int) ≤ (k : Int) := by omega
        have i2 : (k : Int) < (l.length : Int) := by omega
        have b1 := mul_bd (A := 200) (B := 200) (x := n) (y := (pat l k).1) (by omega) (by omega) (by omega) (by omega)
        have b2 := mul_bd (A := 200) (B := 200) (x := n) (y := (pat l k).2) (by omega) (by omega) (by omega) (by omega)
        have i8 : IntKind.i64.wrap (n * (pat l k).1) = n * (pat l k).1 := IntWalk.i64_in _ (by omega)
        have i9 : IntKind.i64.wrap (n * (pat l k).2) = n * (pat l k).2 := IntWalk.i64_in _ (by omega)
        go_upto_region 7 with fail
        go_region_held3 (fun w' => w'.cell? ⟨b, o + k * 2, none⟩ = some (Value.int .i64 ((pat l k).1)) ∧ w'.cell? ⟨b, o + k * 2 + 1, none⟩ = some (Value.int .i64 ((pat l k).2)))
          (first
            | go_keep
            | (go_split_ands
               refine ⟨?_, ?_⟩ <;> (rw [hgrow.cell_far _ (by simp; omega) (Ne.symm hne)]; assumption)))
          ((refine step_append_lies _ (by rfl) _ _ _ (by rfl) W.heap.size 33 i0 _ 2 16 undPts hi hz0 hz1 hz2 rfl (by omega) u5 k (ptsV (scl n (l.take k))) (by rfl) ((hown.alloc _).drew) ⟨wr.heap.size, 0, none⟩ 1 1 (ptsV [(n * (pat l k).1, n * (pat l k).2)]) (by rfl) (by rfl) (World.news_of_block (cs := (ptsV [(n * (pat l k).1, n * (pat l k).2)]).toArray) (t := 33) (fr := (0, 0)) (heap_alloc_new wr _)) (ptsV_one _) (by omega) (by unfold maxLen; omega) (by omega) (by simp; omega) (wr.heap.size + 1) (by simp) ?_; intro gg cap w1 hown1 hgrow hat hltt))
        have hb1 : Below W.heap.size W w1 := (((Below.alloc HB.out HB.out.size _).drew).grown hgrow (by simp; omega) (fun g hg => (hown.lt g hg).1))
        rw [← ptsV_append] at hown1
        have hown2 : w1.ownsRow W.heap.size 33 2 (.slice (some ⟨gg, 0, none⟩) (k + 1) cap) (k + 1) (ptsV (scl n (l.take (k + 1)))) := by
          rw [take_next hlt]
          simpa [scl] using hown1
        clear x1 x2 hgrow hat lb hown hne hown1
        go_wp2
        go_roundg (l.length - (k + 1))
        case measure => omega
        case rel => exact ⟨k + 1, by omega, rfl, by go_num, hown2, hb1⟩
      · obtain rfl : k = l.length := by omega
        rw [List.take_length] at hown
        obtain ⟨-, A1, ca1, rfl, hP1⟩ := own_parts hown
        have hbA : Below w.heap.size w wr := hbW.trans (hbw.mono hbW2)
        have hpA := hpW.below hbw
        have hl6 : (scl n l).length ≤ 1000000 := by simp only [scl, List.length_map]; omega
        clear hown hbw hpW hbW
        by_cases hok2 : Ok (scl n l)
        · have hc := Lib.hid fun (V : World) (h : Below wr.heap.size wr V) => rCheck_any A1 ca1 (scl n l) V (hP1.below h) hl6
          rw [chk_ok hok2] at hc
          obtain ⟨b1, o1, rfl, hp1⟩ := hP1.ok hok2
          have ht1 := Lib.hid fun (V : World) (h : Below wr.heap.size wr V) => told_ok b o ca l V (hpA.below h) hok
          have ht2 := Lib.hid fun (V : World) (h : Below wr.heap.size wr V) => told_ok b1 o1 ca1 (scl n l) V (hp1.below h) hok2
          go_upto_region 11 with (first | (go_at_call 23; with_reducible refine Calls.mono (hc.out _ (by (repeat (first | with_reducible exact Below.refl _ _ | with_reducible apply bl_alloc | with_reducible apply bl_drew | with_reducible apply bl_after | (with_reducible refine bl_call ?_ (by assumption)))))) ?_; rintro e w1 ⟨rfl, hb1⟩; first | ((with_reducible apply kp_in_step (hb := hb1)); (with_reducible assumption); rintro ⟨hk, hc, hf, hzc, hzf⟩) | ((with_reducible refine kp_in_first hb1 ?_); rintro ⟨hk, hc, hf, hzc, hzf⟩)) | (go_at_call 30; with_reducible refine Calls.mono (ht1.out _ (by (repeat (first | with_reducible exact Below.refl _ _ | with_reducible apply bl_alloc | with_reducible apply bl_drew | with_reducible apply bl_after | (with_reducible refine bl_call ?_ (by assumption)))))) ?_; rintro e w1 ⟨rfl, hb1⟩; first | ((with_reducible apply kp_in_step (hb := hb1)); (with_reducible assumption); rintro ⟨hk, hc, hf, hzc, hzf⟩) | ((with_reducible refine kp_in_first hb1 ?_); rintro ⟨hk, hc, hf, hzc, hzf⟩)))
          have c7 : Blk (w1.alloc (.cells #[(Value.int .i64 (tw l)), (Value.int .i64 (mx l)), (Value.int .i64 (my l)), (Value.int .i64 (mxx l)), (Value.int .i64 (mxy l)), (Value.int .i64 (myy l)), (Value.int .i64 ((cenX l).1)), (Value.int .i64 ((cenX l).2)), (Value.int .i64 ((cenY l).1)), (Value.int .i64 ((cenY l).2))] 42)) w1.heap.size 42 #[(Value.int .i64 (tw l)), (Value.int .i64 (mx l)), (Value.int .i64 (my l)), (Value.int .i64 (mxx l)), (Value.int .i64 (mxy l)), (Value.int .i64 (myy l)), (Value.int .i64 ((cenX l).1)), (Value.int .i64 ((cenX l).2)), (Value.int .i64 ((cenY l).1)), (Value.int .i64 ((cenY l).2))] := Blk.new _ _ _
          have hbr : Below wr.heap.size wr (w1.alloc (.cells #[(Value.int .i64 (tw l)), (Value.int .i64 (mx l)), (Value.int .i64 (my l)), (Value.int .i64 (mxx l)), (Value.int .i64 (mxy l)), (Value.int .i64 (myy l)), (Value.int .i64 ((cenX l).1)), (Value.int .i64 ((cenX l).2)), (Value.int .i64 ((cenY l).1)), (Value.int .i64 ((cenY l).2))] 42)) := by (repeat (first | with_reducible exact Below.refl _ _ | with_reducible apply bl_alloc | with_reducible apply bl_drew | with_reducible apply bl_after | (with_reducible refine bl_call ?_ (by assumption))))
          clear hk hc hf hzc hzf hb1
          clear hk hc hf hzc hzf hb1
          clear hc ht1
          generalize w1.alloc (.cells #[(Value.int .i64 (tw l)), (Value.int .i64 (mx l)), (Value.int .i64 (my l)), (Value.int .i64 (mxx l)), (Value.int .i64 (mxy l)), (Value.int .i64 (myy l)), (Value.int .i64 ((cenX l).1)), (Value.int .i64 ((cenX l).2)), (Value.int .i64 ((cenY l).1)), (Value.int .i64 ((cenY l).2))] 42) = W1 at c7 hbr ⊢
          generalize w1.heap.size = g7 at c7 ⊢
          go_upto_region 12 with (go_at_call 30; with_reducible refine Calls.mono (ht2.out _ hbr) ?_; rintro e w1 ⟨rfl, hb1⟩; first | ((with_reducible apply kp_in_step (hb := hb1)); (with_reducible assumption); rintro ⟨hk, hc, hf, hzc, hzf⟩) | ((with_reducible refine kp_in_first hb1 ?_); rintro ⟨hk, hc, hf, hzc, hzf⟩))
          have h2 : 2 ≤ l.length := by omega
          have e1 := tw_scl h2 n
          have e2 := mx_scl h2 n
          have e3 := my_scl h2 n
          have e4 := mxx_scl h2 n
          have e5 := mxy_scl h2 n
          have e6 := myy_scl h2 n
          have c9 : Blk (w1.alloc (.cells #[(Value.int .i64 (tw (scl n l))), (Value.int .i64 (mx (scl n l))), (Value.int .i64 (my (scl n l))), (Value.int .i64 (mxx (scl n l))), (Value.int .i64 (mxy (scl n l))), (Value.int .i64 (myy (scl n l))), (Value.int .i64 ((cenX (scl n l)).1)), (Value.int .i64 ((cenX (scl n l)).2)), (Value.int .i64 ((cenY (scl n l)).1)), (Value.int .i64 ((cenY (scl n l)).2))] 42)) w1.heap.size 42 #[(Value.int .i64 (tw (scl n l))), (Value.int .i64 (mx (scl n l))), (Value.int .i64 (my (scl n l))), (Value.int .i64 (mxx (scl n l))), (Value.int .i64 (mxy (scl n l))), (Value.int .i64 (myy (scl n l))), (Value.int .i64 ((cenX (scl n l)).1)), (Value.int .i64 ((cenX (scl n l)).2)), (Value.int .i64 ((cenY (scl n l)).1)), (Value.int .i64 ((cenY (scl n l)).2))] := Blk.new _ _ _
          replace c7 := (c7.below hb1).alloc (.cells #[(Value.int .i64 (tw (scl n l))), (Value.int .i64 (mx (scl n l))), (Value.int .i64 (my (scl n l))), (Value.int .i64 (mxx (scl n l))), (Value.int .i64 (mxy (scl n l))), (Value.int .i64 (myy (scl n l))), (Value.int .i64 ((cenX (scl n l)).1)), (Value.int .i64 ((cenX (scl n l)).2)), (Value.int .i64 ((cenY (scl n l)).1)), (Value.int .i64 ((cenY (scl n l)).2))] 42)
          have hbE : Below w.heap.size w (w1.alloc (.cells #[(Value.int .i64 (tw (scl n l))), (Value.int .i64 (mx (scl n l))), (Value.int .i64 (my (scl n l))), (Value.int .i64 (mxx (scl n l))), (Value.int .i64 (mxy (scl n l))), (Value.int .i64 (myy (scl n l))), (Value.int .i64 ((cenX (scl n l)).1)), (Value.int .i64 ((cenX (scl n l)).2)), (Value.int .i64 ((cenY (scl n l)).1)), (Value.int .i64 ((cenY (scl n l)).2))] 42)) := bl_alloc (bl_call (hbA.trans (hbr.mono hbA.size)) hb1)
          clear hk hc hf hzc hzf hb1
          clear ht2 hbr
          generalize w1.alloc (.cells #[(Value.int .i64 (tw (scl n l))), (Value.int .i64 (mx (scl n l))), (Value.int .i64 (my (scl n l))), (Value.int .i64 (mxx (scl n l))), (Value.int .i64 (mxy (scl n l))), (Value.int .i64 (myy (scl n l))), (Value.int .i64 ((cenX (scl n l)).1)), (Value.int .i64 ((cenX (scl n l)).2)), (Value.int .i64 ((cenY (scl n l)).1)), (Value.int .i64 ((cenY (scl n l)).2))] 42) = W2 at c7 c9 hbE ⊢
          generalize w1.heap.size = g9 at c9 ⊢
          have t1 := tw_bd hok2
          have t2 := mx_bd hok2
          have t3 := my_bd hok2
          have t4 := mxx_bd hok2
          have t5 := mxy_bd hok2
          have t6 := myy_bd hok2
          have tn := tw_ne hok
          have tb := tw_bd hok
          have tx := mx_bd hok
          have ty := my_bd hok
          -- the centre of the greater one
          have nn : n * n ≠ 0 := Int.mul_ne_zero (by omega) (by omega)
          have r1 : cenX (scl n l) = lowOf (n * (cenX l).1) (cenX l).2 := by
            unfold cenX
            rw [e1, e2, low_times n (by omega), show 3 * (n * n * tw l) = (n * n) * (3 * tw l) by grind, show n * n * n * mx l = (n * n) * (n * mx l) by grind, low_mul nn (by omega)]
          have r2 : cenY (scl n l) = lowOf (n * (cenY l).1) (cenY l).2 := by
            unfold cenY
            rw [e1, e3, low_times n (by omega), show 3 * (n * n * tw l) = (n * n) * (3 * tw l) by grind, show n * n * n * my l = (n * n) * (n * my l) by grind, low_mul nn (by omega)]
          have d1 : 1 ≤ (cenX l).2 := low_den (by omega)
          have d2 : 1 ≤ (cenY l).2 := low_den (by omega)
          have d3 := low_bd (a := mx l) (b := 3 * tw l) (A := 800000000000) (B := 2400000000000) (by omega) (by omega)
          have d4 := low_bd (a := my l) (b := 3 * tw l) (A := 800000000000) (B := 2400000000000) (by omega) (by omega)
          change (-800000000000 ≤ (cenX l).1 ∧ (cenX l).1 ≤ 800000000000) ∧ (-2400000000000 ≤ (cenX l).2 ∧ (cenX l).2 ≤ 2400000000000) at d3
          change (-800000000000 ≤ (cenY l).1 ∧ (cenY l).1 ≤ 800000000000) ∧ (-2400000000000 ≤ (cenY l).2 ∧ (cenY l).2 ≤ 2400000000000) at d4
          have f1 := mul_bd (A := 200) (B := 800000000000) (x := n) (y := (cenX l).1) (by omega) (by omega) (by omega) (by omega)
          have f2 := mul_bd (A := 200) (B := 800000000000) (x := n) (y := (cenY l).1) (by omega) (by omega) (by omega) (by omega)
          rw [r1, r2] at c9
          rw [e1] at t1
          rw [e2] at t2
          rw [e3] at t3
          rw [e4] at t4
          rw [e5] at t5
          rw [e6] at t6
          rw [e1, e2, e3, e4, e5, e6] at c9
          clear e1 e2 e3 e4 e5 e6 r1 r2
          have b1 := mul_bd (A := 200) (B := 200) (x := n) (y := n) (by omega) (by omega) (by omega) (by omega)
          have b2 := mul_bd (A := 40000) (B := 200) (x := n * n) (y := n) (by omega) (by omega) (by omega) (by omega)
          have b3 := mul_bd (A := 8000000) (B := 200) (x := n * n * n) (y := n) (by omega) (by omega) (by omega) (by omega)
          have m1 := wrap64_in (x := n * n) (by omega) (by omega)
          have m2 := wrap64_in (x := n * n * n) (by omega) (by omega)
          have m3 := wrap64_in (x := n * n * n * n) (by omega) (by omega)
          have m4 := wrap64_in (x := n * n * tw l) (by omega) (by omega)
          have m5 := wrap64_in (x := n * n * n * mx l) (by omega) (by omega)
          have m6 := wrap64_in (x := n * n * n * my l) (by omega) (by omega)
          have m7 := wrap64_in (x := n * n * n * n * mxx l) (by omega) (by omega)
          have m8 := wrap64_in (x := n * n * n * n * mxy l) (by omega) (by omega)
          have m9 := wrap64_in (x := n * n * n * n * myy l) (by omega) (by omega)
          have m10 := wrap64_in (x := n * (cenX l).1) (by omega) (by omega)
          have m11 := wrap64_in (x := n * (cenY l).1) (by omega) (by omega)
          clear t1 t2 t3 t4 t5 t6 b1 b2 b3 tb tx ty nn
          have HL1 := Lib.hid fun (V : World) => Lowest_any (n * (cenX l).1) (cenX l).2 V (by omega) (by omega) (by omega)
          have HL2 := Lib.hid fun (V : World) => Lowest_any (n * (cenY l).1) (cenY l).2 V (by omega) (by omega) (by omega)
          have HS := Lib.hid fun (V : World) (g : Nat) (h : Blk V g 3 #[(Value.int .i64 ((cenX l).1)), (Value.int .i64 ((cenX l).2)), (Value.int .i64 ((cenY l).1)), (Value.int .i64 ((cenY l).2))]) => sane4 h (by unfold big; omega) (by unfold big; omega) (by unfold big; omega) (by unfold big; omega)
          have d5 : ¬ (cenX l).2 < 1 := by omega
          have d6 : ¬ (cenY l).2 < 1 := by omega
          clear d3 d4 f1 f2
          have l7 := c7.lt
          have l9 := c9.lt
          have y0 := c7.cell 0
          have y1 := c7.cell 1
          have y2 := c7.cell 2
          have y3 := c7.cell 3
          have y4 := c7.cell 4
          have y5 := c7.cell 5
          have y6 := c7.cell 6
          have y7 := c7.cell 7
          have y8 := c7.cell 8
          have y9 := c7.cell 9
          have z0 := c9.cell 0
          have z1 := c9.cell 1
          have z2 := c9.cell 2
          have z3 := c9.cell 3
          have z4 := c9.cell 4
          have z5 := c9.cell 5
          have z6 := c9.cell 6
          have z7 := c9.cell 7
          have z8 := c9.cell 8
          have z9 := c9.cell 9
          simp only [List.getElem?_toArray, List.getElem?_cons_zero, List.getElem?_cons_succ] at y0 y1 y2 y3 y4 y5 y6 y7 y8 y9 z0 z1 z2 z3 z4 z5 z6 z7 z8 z9
          go_wp2_with (first | (go_at_call 18; with_reducible refine Calls.mono (HS.out _ _ (Blk.new _ _ _)) ?_; rintro e w' ⟨rfl, rfl⟩) | fail)
          refine wp_region_after (by kernel_rfl) (by kernel_rfl) ?_; (repeat (go_big_quiet_step ((first | (go_at_call 32; with_reducible exact calls_after (HL1.out _)) | (go_at_call 32; with_reducible exact calls_after (HL2.out _)) | (go_at_call 15; with_reducible exact calls_after (works_any _)))))); refine wpQuiet_nil ?_; rintro _ ⟨zz, rfl⟩; (first | ((with_reducible apply kp_in_after (z := zz)); (with_reducible assumption); rintro ⟨hk, hc, hf, hzc, hzf⟩) | ((with_reducible refine kp_in_after0 zz ?_); rintro ⟨hk, hc, hf, hzc, hzf⟩))
          go_wp2
          go_ret
          exact ⟨rfl, bl_after zz (bl_alloc hbE)⟩
        · have hc := rCheck_any A1 ca1 (scl n l) wr hP1 hl6
          rw [chk_no hok2] at hc
          go_wp2_with (first | (go_at_call 23; with_reducible refine Calls.mono (hc) ?_; rintro e w1 ⟨rfl, hb1⟩; first | ((with_reducible apply kp_in_step (hb := hb1)); (with_reducible assumption); rintro ⟨hk, hc, hf, hzc, hzf⟩) | ((with_reducible refine kp_in_first hb1 ?_); rintro ⟨hk, hc, hf, hzc, hzf⟩)) | (go_at_call 15; with_reducible refine Calls.mono (works_any _) ?_; rintro e w1 ⟨rfl, hb1⟩; first | ((with_reducible apply kp_in_step (hb := hb1)); (with_reducible assumption); rintro ⟨hk, hc, hf, hzc, hzf⟩) | ((with_reducible refine kp_in_first hb1 ?_); rintro ⟨hk, hc, hf, hzc, hzf⟩)))
          go_ret
          exact ⟨rfl, by (repeat (first | with_reducible assumption | with_reducible exact Below.refl _ _ | with_reducible apply bl_alloc | with_reducible apply bl_drew | with_reducible apply bl_after | (with_reducible refine bl_call ?_ (by assumption)) | (with_reducible refine bl_setc ?_ (by omega))))⟩
  · rw [decide_eq_false hok] at hr
    go_enter Try.func8, Try.ntmps8
    go_wp2_with (first | (go_at_call 14; with_reducible refine Calls.mono (hr.out _ (by (repeat (first | with_reducible exact Below.refl _ _ | with_reducible apply bl_alloc | with_reducible apply bl_drew | with_reducible apply bl_after | (with_reducible refine bl_call ?_ (by assumption)))))) ?_; rintro e w1 ⟨rfl, hb1⟩; first | ((with_reducible apply kp_in_step (hb := hb1)); (with_reducible assumption); rintro ⟨hk, hc, hf, hzc, hzf⟩) | ((with_reducible refine kp_in_first hb1 ?_); rintro ⟨hk, hc, hf, hzc, hzf⟩)) | (go_at_call 15; with_reducible refine Calls.mono (works_any _) ?_; rintro e w1 ⟨rfl, hb1⟩; first | ((with_reducible apply kp_in_step (hb := hb1)); (with_reducible assumption); rintro ⟨hk, hc, hf, hzc, hzf⟩) | ((with_reducible refine kp_in_first hb1 ?_); rintro ⟨hk, hc, hf, hzc, hzf⟩)))
    go_ret
    exact ⟨rfl, by (repeat (first | with_reducible exact Below.refl _ _ | with_reducible apply bl_alloc | with_reducible apply bl_drew | with_reducible apply bl_after | (with_reducible refine bl_call ?_ (by assumption))))⟩
section
open Go.ChangeAt
set_option maxRecDepth 100000 in
theorem cornersLarger_lifted (os : Os) (started : os.Started) (H : Type) (enc : TypeId × Value → H) :
    ReturnsInHanded {} Try.checked os 8 .any (Rows.cornersLargerSpec.pre6 enc Try.prog Try.f8 Rows.cornersLargerRow.domain false) (Rows.cornersLargerSpec.post enc Try.prog Try.f8 false true false false) := by
  refine returnsInHanded_of_change (C := Try.checked) own_knob started (by kernel_rfl) Try.func8
    (ChangeSpec.witness6 (enc := enc) (C := Try.checked) false ⟨#[], #[.slice none 0 0, .int .i64 0], []⟩ 8 (by kernel_rfl) (by kernel_rfl) (by kernel_rfl) (by kernel_rfl)) ?_
  intro W base args ds gs before hval0 hW hcnd _
  have hval : ∀ (j : Nat) t v, Try.f8.params[j]? = some t → args[j]? = some v → Value.okWide Try.prog W .any base t v := hval0
  have hW2 := hW
  obtain ⟨p, q, hA0, hV, rfl, hfz, hnd⟩ := hW
  have hA : DataW.TrodAll enc Try.prog W 0 (fun _ => true) true Try.f8.params.toList args.toList ds p := hA0
  rw [Try.params8] at hA hval
  obtain ⟨v0, v1, d0, d1, p0, p1, rfl, rfl, rfl, h0, h1⟩ := trodAll_two hA
  obtain ⟨rfl, rfl⟩ := trodVars_none hV
  obtain ⟨A, ca, l, rfl, hP, hl⟩ := open_points (okWide_slice undPts (hval 0 _ _ rfl rfl)) h0
  obtain ⟨num, rfl, rfl, rfl, hnum⟩ := open_int und_int (hval 1 _ _ rfl rfl) h1
  clear hA0 hval0
  simp only [List.append_nil, List.nil_append] at hW2
  (try simp only [List.append_nil, List.nil_append] at hA)
  refine (lawLarger_any A ca l num W hP hl hnum).mono fun e W2 ⟨he, hb⟩ => ?_
  subst he
  refine ⟨_, rfl, post_of_below (pa := _) (pv := []) hW2 (fun _ _ _ => trodAll_mk1 (shut_bool und_bool _)) (fun sp hs => args_stay hb (by rw [Try.params8]; intro t ht; simp at ht; (try rcases ht with rfl | rfl | rfl) <;> (try rcases ht with rfl | rfl) <;> (try subst ht) <;> exact ⟨by kernel_rfl, by decide +kernel⟩) (by rw [Try.params8]; exact hA) hs) (fun _ _ => rfl) (by simp) hb (ok_one (by kernel_rfl) rfl (okWide_bool_mk und_bool _))⟩

theorem cornersLarger_holds : Rows.CornersLargerSaid :=
  OpenClaim.holds_of_wide 8 Try.f8 rfl rfl rfl rfl rfl rfl rfl ⟨rfl, rfl, rfl, rfl, rfl⟩ rfl rfl rfl rfl rfl (by kernel_rfl) Try.func8 (by kernel_rfl)
    (of_decide_eq_true (by kernel_rfl)) (by unfold Func.isWrapper; first | (rw [if_pos (by decide +kernel)]; kernel_rfl) | (rw [if_neg (by decide +kernel)]; exact ⟨rfl, rfl⟩))
    (fun os started H enc _ => cornersLarger_lifted os started H enc)
end
end Go.Proofs.Ytijpolfmiajenaa
