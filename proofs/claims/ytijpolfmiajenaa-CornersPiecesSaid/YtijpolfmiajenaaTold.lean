/- The function knurllaw02.told answers all numbers of a valid polygon, and true. -/
import Derived.Test.YtijpolfmiajenaaCentre
import Derived.Test.YtijpolfmiajenaaReady
import Derived.Deep.RegionHeld3
namespace Go.Proofs.Ytijpolfmiajenaa
open Go.RowKit
attribute [local go_sem] After.cell After.frozen


theorem Blk.drewn {w : World} {g : Nat} {t : TypeId} {cs : Array Value} (h : Blk w g t cs) : Blk w.drew g t cs := h
theorem bl_setc {w X : World} {b o : Nat} {v : Value} (h : Below w.heap.size w X) (hb : w.heap.size ≤ b) : Below w.heap.size w (X.setCell ⟨b, o, none⟩ v) := h.setCell (p := ⟨b, o, none⟩) hb v
theorem mxx_bd {l : List Pt} (h : Ok l) : -800000000000 ≤ mxx l ∧ mxx l ≤ 800000000000 := sumOf_bd h.1.2 h.2.1 xx_bd
theorem mxy_bd {l : List Pt} (h : Ok l) : -800000000000 ≤ mxy l ∧ mxy l ≤ 800000000000 := sumOf_bd h.1.2 h.2.1 xy_bd
theorem myy_bd {l : List Pt} (h : Ok l) : -800000000000 ≤ myy l ∧ myy l ≤ 800000000000 := sumOf_bd h.1.2 h.2.1 yy_bd

set_option maxRecDepth 100000 in
set_option maxHeartbeats 4000000 in
theorem told_ok (b o ca : Nat) (l : List Pt) (w : World) (hp : PtsAt w b o l) (hok : Ok l) :
    Calls Try.prog 30 #[.slice (some ⟨b, o, none⟩) l.length ca] w fun e w' => e = .returned (.tuple #[.agg #[(Value.int .i64 (tw l)), (Value.int .i64 (mx l)), (Value.int .i64 (my l)), (Value.int .i64 (mxx l)), (Value.int .i64 (mxy l)), (Value.int .i64 (myy l)), (Value.int .i64 ((cenX l).1)), (Value.int .i64 ((cenX l).2)), (Value.int .i64 ((cenY l).1)), (Value.int .i64 ((cenY l).2))], .bool true]) ∧ Below w.heap.size w w' := by
  have hT := Lib.hid fun (W : World) (hW : Below w.heap.size w W) => Twice_ok b o ca l W (hp.below hW) hok
  have hF := Lib.hid fun (W : World) (hW : Below w.heap.size w W) => First_ok b o ca l W (hp.below hW) hok
  have hS := Lib.hid fun (W : World) (hW : Below w.heap.size w W) => Second_ok b o ca l W (hp.below hW) hok
  have hC := Lib.hid fun (W : World) (hW : Below w.heap.size w W) => Centre_ok b o ca l W (hp.below hW) hok
  have t1 := tw_bd hok
  have t2 := mx_bd hok
  have t3 := my_bd hok
  have t4 := mxx_bd hok
  have t5 := mxy_bd hok
  have t6 := myy_bd hok
  clear hok
  go_enter Try.func30, Try.ntmps30
  go_upto_region 3 with fail
  have c2 : Blk ((w.alloc (.cells #[(Value.int .i64 (0)), (Value.int .i64 (0)), (Value.int .i64 (0)), (Value.int .i64 (0)), (Value.int .i64 (0)), (Value.int .i64 (0)), (Value.int .i64 (0)), (Value.int .i64 (0)), (Value.int .i64 (0)), (Value.int .i64 (0))] 42)).alloc (.cells #[(Value.int .i64 (0)), (Value.int .i64 (0)), (Value.int .i64 (0)), (Value.int .i64 (0)), (Value.int .i64 (0)), (Value.int .i64 (0)), (Value.int .i64 (0)), (Value.int .i64 (0)), (Value.int .i64 (0)), (Value.int .i64 (0))] 42)) w.heap.size 42 #[(Value.int .i64 (0)), (Value.int .i64 (0)), (Value.int .i64 (0)), (Value.int .i64 (0)), (Value.int .i64 (0)), (Value.int .i64 (0)), (Value.int .i64 (0)), (Value.int .i64 (0)), (Value.int .i64 (0)), (Value.int .i64 (0))] := (Blk.new w _ _).alloc _
  have c4 : Blk ((w.alloc (.cells #[(Value.int .i64 (0)), (Value.int .i64 (0)), (Value.int .i64 (0)), (Value.int .i64 (0)), (Value.int .i64 (0)), (Value.int .i64 (0)), (Value.int .i64 (0)), (Value.int .i64 (0)), (Value.int .i64 (0)), (Value.int .i64 (0))] 42)).alloc (.cells #[(Value.int .i64 (0)), (Value.int .i64 (0)), (Value.int .i64 (0)), (Value.int .i64 (0)), (Value.int .i64 (0)), (Value.int .i64 (0)), (Value.int .i64 (0)), (Value.int .i64 (0)), (Value.int .i64 (0)), (Value.int .i64 (0))] 42)) (w.heap.size + 1) 42 #[(Value.int .i64 (0)), (Value.int .i64 (0)), (Value.int .i64 (0)), (Value.int .i64 (0)), (Value.int .i64 (0)), (Value.int .i64 (0)), (Value.int .i64 (0)), (Value.int .i64 (0)), (Value.int .i64 (0)), (Value.int .i64 (0))] := by
    have h := Blk.new (w.alloc (.cells #[(Value.int .i64 (0)), (Value.int .i64 (0)), (Value.int .i64 (0)), (Value.int .i64 (0)), (Value.int .i64 (0)), (Value.int .i64 (0)), (Value.int .i64 (0)), (Value.int .i64 (0)), (Value.int .i64 (0)), (Value.int .i64 (0))] 42)) 42 #[(Value.int .i64 (0)), (Value.int .i64 (0)), (Value.int .i64 (0)), (Value.int .i64 (0)), (Value.int .i64 (0)), (Value.int .i64 (0)), (Value.int .i64 (0)), (Value.int .i64 (0)), (Value.int .i64 (0)), (Value.int .i64 (0))]
    simpa using h
  have hbw : Below w.heap.size w ((w.alloc (.cells #[(Value.int .i64 (0)), (Value.int .i64 (0)), (Value.int .i64 (0)), (Value.int .i64 (0)), (Value.int .i64 (0)), (Value.int .i64 (0)), (Value.int .i64 (0)), (Value.int .i64 (0)), (Value.int .i64 (0)), (Value.int .i64 (0))] 42)).alloc (.cells #[(Value.int .i64 (0)), (Value.int .i64 (0)), (Value.int .i64 (0)), (Value.int .i64 (0)), (Value.int .i64 (0)), (Value.int .i64 (0)), (Value.int .i64 (0)), (Value.int .i64 (0)), (Value.int .i64 (0)), (Value.int .i64 (0))] 42)) := by (repeat (first | with_reducible exact Below.refl _ _ | with_reducible apply bl_alloc | with_reducible apply bl_drew | with_reducible apply bl_after | (with_reducible refine bl_call ?_ (by assumption))))
  generalize (w.alloc (.cells #[(Value.int .i64 (0)), (Value.int .i64 (0)), (Value.int .i64 (0)), (Value.int .i64 (0)), (Value.int .i64 (0)), (Value.int .i64 (0)), (Value.int .i64 (0)), (Value.int .i64 (0)), (Value.int .i64 (0)), (Value.int .i64 (0))] 42)).alloc (.cells #[(Value.int .i64 (0)), (Value.int .i64 (0)), (Value.int .i64 (0)), (Value.int .i64 (0)), (Value.int .i64 (0)), (Value.int .i64 (0)), (Value.int .i64 (0)), (Value.int .i64 (0)), (Value.int .i64 (0)), (Value.int .i64 (0))] 42) = W at c2 c4 hbw ⊢
  have l4 := c4.lt
  have x0 := c4.cell 0
  have f0 := c4.frozen 0
  go_upto_region 4 with (go_at_call 16; with_reducible refine Calls.mono (hT.out _ hbw) ?_; rintro e w1 ⟨rfl, hb1⟩; first | ((with_reducible apply kp_in_step (hb := hb1)); (with_reducible assumption); rintro ⟨hk, hc, hf, hzc, hzf⟩) | ((with_reducible refine kp_in_first hb1 ?_); rintro ⟨hk, hc, hf, hzc, hzf⟩))
  clear x0 f0 l4 hk hc hf hzc hzf
  replace c4 : Blk (w1.setCell ⟨w.heap.size + 1, 0, none⟩ (Value.int .i64 (tw l))) (w.heap.size + 1) 42 #[(Value.int .i64 (tw l)), (Value.int .i64 (0)), (Value.int .i64 (0)), (Value.int .i64 (0)), (Value.int .i64 (0)), (Value.int .i64 (0)), (Value.int .i64 (0)), (Value.int .i64 (0)), (Value.int .i64 (0)), (Value.int .i64 (0))] := by
    have h := ((c4.below hb1).set_ 0 (Value.int .i64 (tw l)))
    simpa using h
  replace c2 := ((c2.below hb1).far (p := ⟨w.heap.size + 1, 0, none⟩) (by simp) (Value.int .i64 (tw l)))
  replace hbw := ((hbw.trans (hb1.mono hbw.size)).setCell (p := ⟨w.heap.size + 1, 0, none⟩) (by simp) (Value.int .i64 (tw l)))
  clear hb1
  generalize w1.setCell ⟨w.heap.size + 1, 0, none⟩ (Value.int .i64 (tw l)) = W at c2 c4 hbw ⊢
  have l4 := c4.lt
  have x1 := c4.cell 1
  have f1 := c4.frozen 1
  have x2 := c4.cell 2
  have f2 := c4.frozen 2
  go_upto_region 5 with (go_at_call 34; with_reducible refine Calls.mono (hF.out _ hbw) ?_; rintro e w1 ⟨rfl, hb1⟩; first | ((with_reducible apply kp_in_step (hb := hb1)); (with_reducible assumption); rintro ⟨hk, hc, hf, hzc, hzf⟩) | ((with_reducible refine kp_in_first hb1 ?_); rintro ⟨hk, hc, hf, hzc, hzf⟩))
  clear x1 f1 x2 f2 l4 hk hc hf hzc hzf
  replace c4 : Blk ((w1.setCell ⟨w.heap.size + 1, 1, none⟩ (Value.int .i64 (mx l))).setCell ⟨w.heap.size + 1, 2, none⟩ (Value.int .i64 (my l))) (w.heap.size + 1) 42 #[(Value.int .i64 (tw l)), (Value.int .i64 (mx l)), (Value.int .i64 (my l)), (Value.int .i64 (0)), (Value.int .i64 (0)), (Value.int .i64 (0)), (Value.int .i64 (0)), (Value.int .i64 (0)), (Value.int .i64 (0)), (Value.int .i64 (0))] := by
    have h := (((c4.below hb1).set_ 1 (Value.int .i64 (mx l))).set_ 2 (Value.int .i64 (my l)))
    simpa using h
  replace c2 := (((c2.below hb1).far (p := ⟨w.heap.size + 1, 1, none⟩) (by simp) (Value.int .i64 (mx l))).far (p := ⟨w.heap.size + 1, 2, none⟩) (by simp) (Value.int .i64 (my l)))
  replace hbw := (((hbw.trans (hb1.mono hbw.size)).setCell (p := ⟨w.heap.size + 1, 1, none⟩) (by simp) (Value.int .i64 (mx l))).setCell (p := ⟨w.heap.size + 1, 2, none⟩) (by simp) (Value.int .i64 (my l)))
  clear hb1
  generalize (w1.setCell ⟨w.heap.size + 1, 1, none⟩ (Value.int .i64 (mx l))).setCell ⟨w.heap.size + 1, 2, none⟩ (Value.int .i64 (my l)) = W at c2 c4 hbw ⊢
  have l4 := c4.lt
  have x3 := c4.cell 3
  have f3 := c4.frozen 3
  have x4 := c4.cell 4
  have f4 := c4.frozen 4
  have x5 := c4.cell 5
  have f5 := c4.frozen 5
  go_upto_region 6 with (go_at_call 36; with_reducible refine Calls.mono (hS.out _ hbw) ?_; rintro e w1 ⟨rfl, hb1⟩; first | ((with_reducible apply kp_in_step (hb := hb1)); (with_reducible assumption); rintro ⟨hk, hc, hf, hzc, hzf⟩) | ((with_reducible refine kp_in_first hb1 ?_); rintro ⟨hk, hc, hf, hzc, hzf⟩))
  clear x3 f3 x4 f4 x5 f5 l4 hk hc hf hzc hzf
  replace c4 : Blk (((w1.setCell ⟨w.heap.size + 1, 3, none⟩ (Value.int .i64 (mxx l))).setCell ⟨w.heap.size + 1, 4, none⟩ (Value.int .i64 (mxy l))).setCell ⟨w.heap.size + 1, 5, none⟩ (Value.int .i64 (myy l))) (w.heap.size + 1) 42 #[(Value.int .i64 (tw l)), (Value.int .i64 (mx l)), (Value.int .i64 (my l)), (Value.int .i64 (mxx l)), (Value.int .i64 (mxy l)), (Value.int .i64 (myy l)), (Value.int .i64 (0)), (Value.int .i64 (0)), (Value.int .i64 (0)), (Value.int .i64 (0))] := by
    have h := ((((c4.below hb1).set_ 3 (Value.int .i64 (mxx l))).set_ 4 (Value.int .i64 (mxy l))).set_ 5 (Value.int .i64 (myy l)))
    simpa using h
  replace c2 := ((((c2.below hb1).far (p := ⟨w.heap.size + 1, 3, none⟩) (by simp) (Value.int .i64 (mxx l))).far (p := ⟨w.heap.size + 1, 4, none⟩) (by simp) (Value.int .i64 (mxy l))).far (p := ⟨w.heap.size + 1, 5, none⟩) (by simp) (Value.int .i64 (myy l)))
  replace hbw := ((((hbw.trans (hb1.mono hbw.size)).setCell (p := ⟨w.heap.size + 1, 3, none⟩) (by simp) (Value.int .i64 (mxx l))).setCell (p := ⟨w.heap.size + 1, 4, none⟩) (by simp) (Value.int .i64 (mxy l))).setCell (p := ⟨w.heap.size + 1, 5, none⟩) (by simp) (Value.int .i64 (myy l)))
  clear hb1
  generalize ((w1.setCell ⟨w.heap.size + 1, 3, none⟩ (Value.int .i64 (mxx l))).setCell ⟨w.heap.size + 1, 4, none⟩ (Value.int .i64 (mxy l))).setCell ⟨w.heap.size + 1, 5, none⟩ (Value.int .i64 (myy l)) = W at c2 c4 hbw ⊢
  have l4 := c4.lt
  have x6 := c4.cell 6
  have f6 := c4.frozen 6
  have x7 := c4.cell 7
  have f7 := c4.frozen 7
  have x8 := c4.cell 8
  have f8 := c4.frozen 8
  have x9 := c4.cell 9
  have f9 := c4.frozen 9
  go_upto_region 7 with (go_at_call 38; with_reducible refine Calls.mono (hC.out _ hbw) ?_; rintro e w1 ⟨rfl, hb1⟩; first | ((with_reducible apply kp_in_step (hb := hb1)); (with_reducible assumption); rintro ⟨hk, hc, hf, hzc, hzf⟩) | ((with_reducible refine kp_in_first hb1 ?_); rintro ⟨hk, hc, hf, hzc, hzf⟩))
  clear x6 f6 x7 f7 x8 f8 x9 f9 l4 hk hc hf hzc hzf
  replace c4 : Blk ((((w1.setCell ⟨w.heap.size + 1, 6, none⟩ (Value.int .i64 ((cenX l).1))).setCell ⟨w.heap.size + 1, 7, none⟩ (Value.int .i64 ((cenX l).2))).setCell ⟨w.heap.size + 1, 8, none⟩ (Value.int .i64 ((cenY l).1))).setCell ⟨w.heap.size + 1, 9, none⟩ (Value.int .i64 ((cenY l).2))) (w.heap.size + 1) 42 #[(Value.int .i64 (tw l)), (Value.int .i64 (mx l)), (Value.int .i64 (my l)), (Value.int .i64 (mxx l)), (Value.int .i64 (mxy l)), (Value.int .i64 (myy l)), (Value.int .i64 ((cenX l).1)), (Value.int .i64 ((cenX l).2)), (Value.int .i64 ((cenY l).1)), (Value.int .i64 ((cenY l).2))] := by
    have h := (((((c4.below hb1).set_ 6 (Value.int .i64 ((cenX l).1))).set_ 7 (Value.int .i64 ((cenX l).2))).set_ 8 (Value.int .i64 ((cenY l).1))).set_ 9 (Value.int .i64 ((cenY l).2)))
    simpa using h
  replace c2 := (((((c2.below hb1).far (p := ⟨w.heap.size + 1, 6, none⟩) (by simp) (Value.int .i64 ((cenX l).1))).far (p := ⟨w.heap.size + 1, 7, none⟩) (by simp) (Value.int .i64 ((cenX l).2))).far (p := ⟨w.heap.size + 1, 8, none⟩) (by simp) (Value.int .i64 ((cenY l).1))).far (p := ⟨w.heap.size + 1, 9, none⟩) (by simp) (Value.int .i64 ((cenY l).2)))
  replace hbw := (((((hbw.trans (hb1.mono hbw.size)).setCell (p := ⟨w.heap.size + 1, 6, none⟩) (by simp) (Value.int .i64 ((cenX l).1))).setCell (p := ⟨w.heap.size + 1, 7, none⟩) (by simp) (Value.int .i64 ((cenX l).2))).setCell (p := ⟨w.heap.size + 1, 8, none⟩) (by simp) (Value.int .i64 ((cenY l).1))).setCell (p := ⟨w.heap.size + 1, 9, none⟩) (by simp) (Value.int .i64 ((cenY l).2)))
  clear hb1
  generalize (((w1.setCell ⟨w.heap.size + 1, 6, none⟩ (Value.int .i64 ((cenX l).1))).setCell ⟨w.heap.size + 1, 7, none⟩ (Value.int .i64 ((cenX l).2))).setCell ⟨w.heap.size + 1, 8, none⟩ (Value.int .i64 ((cenY l).1))).setCell ⟨w.heap.size + 1, 9, none⟩ (Value.int .i64 ((cenY l).2)) = W at c2 c4 hbw ⊢
  have l4 := c4.lt
  have l2 := c2.lt
  have x0 := c4.cell 0
  have y0 := c2.cell 0
  have f0 := c2.frozen 0
  have x1 := c4.cell 1
  have y1 := c2.cell 1
  have f1 := c2.frozen 1
  have x2 := c4.cell 2
  have y2 := c2.cell 2
  have f2 := c2.frozen 2
  have x3 := c4.cell 3
  have y3 := c2.cell 3
  have f3 := c2.frozen 3
  have x4 := c4.cell 4
  have y4 := c2.cell 4
  have f4 := c2.frozen 4
  have x5 := c4.cell 5
  have y5 := c2.cell 5
  have f5 := c2.frozen 5
  have x6 := c4.cell 6
  have y6 := c2.cell 6
  have f6 := c2.frozen 6
  have x7 := c4.cell 7
  have y7 := c2.cell 7
  have f7 := c2.frozen 7
  have x8 := c4.cell 8
  have y8 := c2.cell 8
  have f8 := c2.frozen 8
  have x9 := c4.cell 9
  have y9 := c2.cell 9
  have f9 := c2.frozen 9
  simp only [List.getElem?_toArray, List.getElem?_cons_zero, List.getElem?_cons_succ] at x0 x1 x2 x3 x4 x5 x6 x7 x8 x9 y0 y1 y2 y3 y4 y5 y6 y7 y8 y9
  go_region_held3 (fun w' => w'.cell? ⟨w.heap.size + 1, 0, none⟩ = some (Value.int .i64 (tw l)) ∧ w'.cell? ⟨w.heap.size + 1, 1, none⟩ = some (Value.int .i64 (mx l)) ∧ w'.cell? ⟨w.heap.size + 1, 2, none⟩ = some (Value.int .i64 (my l)) ∧ w'.cell? ⟨w.heap.size + 1, 3, none⟩ = some (Value.int .i64 (mxx l)) ∧ w'.cell? ⟨w.heap.size + 1, 4, none⟩ = some (Value.int .i64 (mxy l)) ∧ w'.cell? ⟨w.heap.size + 1, 5, none⟩ = some (Value.int .i64 (myy l)) ∧ w'.cell? ⟨w.heap.size + 1, 6, none⟩ = some (Value.int .i64 ((cenX l).1)) ∧ w'.cell? ⟨w.heap.size + 1, 7, none⟩ = some (Value.int .i64 ((cenX l).2)) ∧ w'.cell? ⟨w.heap.size + 1, 8, none⟩ = some (Value.int .i64 ((cenY l).1)) ∧ w'.cell? ⟨w.heap.size + 1, 9, none⟩ = some (Value.int .i64 ((cenY l).2))) (go_keep) ((first | (go_at_call 18; with_reducible refine Calls.mono (sane6 (by first | exact Blk.new _ _ _ | exact (Blk.new _ _ _).drewn | exact (Blk.new _ _ _).drewn.drewn) (by unfold big; omega) (by unfold big; omega) (by unfold big; omega) (by unfold big; omega) (by unfold big; omega) (by unfold big; omega)) ?_; rintro e w' ⟨rfl, rfl⟩) | fail))
  clear hT hF hS hC
  go_wp2
  have cV : Blk ((((((((((W.setCell ⟨w.heap.size, 0, none⟩ (Value.int .i64 (tw l))).setCell ⟨w.heap.size, 1, none⟩ (Value.int .i64 (mx l))).setCell ⟨w.heap.size, 2, none⟩ (Value.int .i64 (my l))).setCell ⟨w.heap.size, 3, none⟩ (Value.int .i64 (mxx l))).setCell ⟨w.heap.size, 4, none⟩ (Value.int .i64 (mxy l))).setCell ⟨w.heap.size, 5, none⟩ (Value.int .i64 (myy l))).setCell ⟨w.heap.size, 6, none⟩ (Value.int .i64 ((cenX l).1))).setCell ⟨w.heap.size, 7, none⟩ (Value.int .i64 ((cenX l).2))).setCell ⟨w.heap.size, 8, none⟩ (Value.int .i64 ((cenY l).1))).setCell ⟨w.heap.size, 9, none⟩ (Value.int .i64 ((cenY l).2))) w.heap.size 42 #[(Value.int .i64 (tw l)), (Value.int .i64 (mx l)), (Value.int .i64 (my l)), (Value.int .i64 (mxx l)), (Value.int .i64 (mxy l)), (Value.int .i64 (myy l)), (Value.int .i64 ((cenX l).1)), (Value.int .i64 ((cenX l).2)), (Value.int .i64 ((cenY l).1)), (Value.int .i64 ((cenY l).2))] := by
    have h := ((((((((((c2.set_ 0 (Value.int .i64 (tw l))).set_ 1 (Value.int .i64 (mx l))).set_ 2 (Value.int .i64 (my l))).set_ 3 (Value.int .i64 (mxx l))).set_ 4 (Value.int .i64 (mxy l))).set_ 5 (Value.int .i64 (myy l))).set_ 6 (Value.int .i64 ((cenX l).1))).set_ 7 (Value.int .i64 ((cenX l).2))).set_ 8 (Value.int .i64 ((cenY l).1))).set_ 9 (Value.int .i64 ((cenY l).2)))
    simpa using h
  have hbV := ((((((((((hbw.setCell (p := ⟨w.heap.size, 0, none⟩) (by simp) (Value.int .i64 (tw l))).setCell (p := ⟨w.heap.size, 1, none⟩) (by simp) (Value.int .i64 (mx l))).setCell (p := ⟨w.heap.size, 2, none⟩) (by simp) (Value.int .i64 (my l))).setCell (p := ⟨w.heap.size, 3, none⟩) (by simp) (Value.int .i64 (mxx l))).setCell (p := ⟨w.heap.size, 4, none⟩) (by simp) (Value.int .i64 (mxy l))).setCell (p := ⟨w.heap.size, 5, none⟩) (by simp) (Value.int .i64 (myy l))).setCell (p := ⟨w.heap.size, 6, none⟩) (by simp) (Value.int .i64 ((cenX l).1))).setCell (p := ⟨w.heap.size, 7, none⟩) (by simp) (Value.int .i64 ((cenX l).2))).setCell (p := ⟨w.heap.size, 8, none⟩) (by simp) (Value.int .i64 ((cenY l).1))).setCell (p := ⟨w.heap.size, 9, none⟩) (by simp) (Value.int .i64 ((cenY l).2)))
  generalize ((((((((((W.setCell ⟨w.heap.size, 0, none⟩ (Value.int .i64 (tw l))).setCell ⟨w.heap.size, 1, none⟩ (Value.int .i64 (mx l))).setCell ⟨w.heap.size, 2, none⟩ (Value.int .i64 (my l))).setCell ⟨w.heap.size, 3, none⟩ (Value.int .i64 (mxx l))).setCell ⟨w.heap.size, 4, none⟩ (Value.int .i64 (mxy l))).setCell ⟨w.heap.size, 5, none⟩ (Value.int .i64 (myy l))).setCell ⟨w.heap.size, 6, none⟩ (Value.int .i64 ((cenX l).1))).setCell ⟨w.heap.size, 7, none⟩ (Value.int .i64 ((cenX l).2))).setCell ⟨w.heap.size, 8, none⟩ (Value.int .i64 ((cenY l).1))).setCell ⟨w.heap.size, 9, none⟩ (Value.int .i64 ((cenY l).2))) = V at cV hbV ⊢
  have q := cV.alloc (.cells #[(Value.int .i64 (tw l)), (Value.int .i64 (mx l)), (Value.int .i64 (my l)), (Value.int .i64 (mxx l)), (Value.int .i64 (mxy l)), (Value.int .i64 (myy l))] 3)
  have q0 := q.cell 0
  have q1 := q.cell 1
  have q2 := q.cell 2
  have q3 := q.cell 3
  have q4 := q.cell 4
  have q5 := q.cell 5
  have q6 := q.cell 6
  have q7 := q.cell 7
  have q8 := q.cell 8
  have q9 := q.cell 9
  simp only [List.getElem?_toArray, List.getElem?_cons_zero, List.getElem?_cons_succ] at q0 q1 q2 q3 q4 q5 q6 q7 q8 q9
  refine bodyPost_ret (v := .tuple #[.agg #[(Value.int .i64 (tw l)), (Value.int .i64 (mx l)), (Value.int .i64 (my l)), (Value.int .i64 (mxx l)), (Value.int .i64 (mxy l)), (Value.int .i64 (myy l)), (Value.int .i64 ((cenX l).1)), (Value.int .i64 ((cenX l).2)), (Value.int .i64 ((cenY l).1)), (Value.int .i64 ((cenY l).2))], .bool true]) (by simp [results, Try.results30, go_sem, q0, q1, q2, q3, q4, q5, q6, q7, q8, q9]) rfl ?_
  exact ⟨rfl, bl_drew (bl_alloc hbV)⟩
end Go.Proofs.Ytijpolfmiajenaa
