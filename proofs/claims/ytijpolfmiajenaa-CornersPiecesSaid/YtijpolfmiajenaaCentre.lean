/- The function corners.Centre answers the centre of a valid polygon in lowest terms, and its error for other points. -/
import Derived.Test.YtijpolfmiajenaaFirst
import Derived.Test.YtijpolfmiajenaaRatio
import Derived.Test.YtijpolfmiajenaaArea
namespace Go.Proofs.Ytijpolfmiajenaa
open Go.RowKit
attribute [local go_sem] After.cell After.frozen

def cenX (l : List Pt) : Pt := lowOf (mx l) (3 * tw l)
def cenY (l : List Pt) : Pt := lowOf (my l) (3 * tw l)
theorem tw_bd {l : List Pt} (h : Ok l) : -800000000000 ≤ tw l ∧ tw l ≤ 800000000000 := sumOf_bd h.1.2 h.2.1 one_bd
theorem mx_bd {l : List Pt} (h : Ok l) : -800000000000 ≤ mx l ∧ mx l ≤ 800000000000 := sumOf_bd h.1.2 h.2.1 fx_bd
theorem my_bd {l : List Pt} (h : Ok l) : -800000000000 ≤ my l ∧ my l ≤ 800000000000 := sumOf_bd h.1.2 h.2.1 fy_bd

theorem two_rats {W : World} {g : Nat} {t1 t2 : TypeId} {a0 a1 b0 b1 : Value} (h1 : Blk W g t1 #[a0, a1]) (h2 : Blk W (g + 1) t2 #[b0, b1]) (u v x y : Value) :
    let V := (((W.setCell ⟨g, 0, none⟩ u).setCell ⟨g, 1, none⟩ v).setCell ⟨g + 1, 0, none⟩ x).setCell ⟨g + 1, 1, none⟩ y
    V.cell? ⟨g, 0, none⟩ = some u ∧ V.cell? ⟨g, 1, none⟩ = some v ∧ V.cell? ⟨g + 1, 0, none⟩ = some x ∧ V.cell? ⟨g + 1, 1, none⟩ = some y := by
  have e1 := (((h1.set_ 0 u).set_ 1 v).far (p := ⟨g + 1, 0, none⟩) (by simp) x).far (p := ⟨g + 1, 1, none⟩) (by simp) y
  have e2 := (((h2.far (p := ⟨g, 0, none⟩) (by simp) u).far (p := ⟨g, 1, none⟩) (by simp) v).set_ 0 x).set_ 1 y
  exact ⟨by simpa using e1.cell 0, by simpa using e1.cell 1, by simpa using e2.cell 0, by simpa using e2.cell 1⟩

set_option maxRecDepth 100000 in
set_option maxHeartbeats 2000000 in
theorem Centre_no (A : Option Addr) (ca : Nat) (l : List Pt) (w : World) (ha : Pts w A l) (hla : l.length ≤ 1000000) (hok : ¬ Ok l) :
    Calls Try.prog 38 #[.slice A l.length ca] w fun e w' => e = .returned (.tuple #[(Value.agg #[.int .i64 ((0 : Int), (0 : Int)).1, .int .i64 ((0 : Int), (0 : Int)).2]), (Value.agg #[.int .i64 ((0 : Int), (0 : Int)).1, .int .i64 ((0 : Int), (0 : Int)).2]), (Value.int .i64 (20))]) ∧ Below w.heap.size w w' := by
  have hc := fun W hW => First_no A ca l W (ha.below (w' := W) hW) hla hok
  replace hc := Lib.hid hc
  clear hok
  go_enter Try.func38, Try.ntmps38
  go_wp2_with (first | (go_at_call 34; with_reducible refine Calls.mono (hc.out _ (by (repeat (first | with_reducible exact Below.refl _ _ | with_reducible apply bl_alloc | with_reducible apply bl_drew | with_reducible apply bl_after | (with_reducible refine bl_call ?_ (by assumption)))))) ?_; rintro e w1 ⟨rfl, hb1⟩; first | ((with_reducible apply kp_in_step (hb := hb1)); (with_reducible assumption); rintro ⟨hk, hc, hf, hzc, hzf⟩) | ((with_reducible refine kp_in_first hb1 ?_); rintro ⟨hk, hc, hf, hzc, hzf⟩)))
  go_region
  go_wp2
  have b0 : Blk w1 w.heap.size 40 #[(Value.int .i64 (0)), (Value.int .i64 (0))] := ((Blk.new w _ _).alloc _).below (by assumption)
  have b1 : Blk w1 (w.heap.size + 1) 40 #[(Value.int .i64 (0)), (Value.int .i64 (0))] := by
    have h := (Blk.new (w.alloc (.cells #[(Value.int .i64 (0)), (Value.int .i64 (0))] 40)) 40 #[(Value.int .i64 (0)), (Value.int .i64 (0))]).below (w' := w1) (by assumption)
    simpa using h
  have hx := two_rats b0 b1 (Value.int .i64 (0)) (Value.int .i64 (0)) (Value.int .i64 (0)) (Value.int .i64 (0))
  have hB : Below w.heap.size w w1 := by (repeat (first | with_reducible exact Below.refl _ _ | with_reducible apply bl_alloc | with_reducible apply bl_drew | with_reducible apply bl_after | (with_reducible refine bl_call ?_ (by assumption))))
  (try simp only [Exit.inBlock, Exit.then])
  refine bodyPost_ret (v := .tuple #[(Value.agg #[.int .i64 ((0 : Int), (0 : Int)).1, .int .i64 ((0 : Int), (0 : Int)).2]), (Value.agg #[.int .i64 ((0 : Int), (0 : Int)).1, .int .i64 ((0 : Int), (0 : Int)).2]), (Value.int .i64 (20))]) (by simp [results, Try.results38, go_sem, hx]) rfl ?_
  first | exact ⟨rfl, (((hB.setCell (p := ⟨w.heap.size, 0, none⟩) (by simp) _).setCell (p := ⟨w.heap.size, 1, none⟩) (by simp) _).setCell (p := ⟨w.heap.size + 1, 0, none⟩) (by simp) _).setCell (p := ⟨w.heap.size + 1, 1, none⟩) (by simp) _⟩ | exact ⟨rfl, bl_drew ((((hB.setCell (p := ⟨w.heap.size, 0, none⟩) (by simp) _).setCell (p := ⟨w.heap.size, 1, none⟩) (by simp) _).setCell (p := ⟨w.heap.size + 1, 0, none⟩) (by simp) _).setCell (p := ⟨w.heap.size + 1, 1, none⟩) (by simp) _)⟩
set_option maxRecDepth 100000 in
set_option maxHeartbeats 2000000 in
theorem Centre_ok (b o ca : Nat) (l : List Pt) (w : World) (hp : PtsAt w b o l) (hok : Ok l) :
    Calls Try.prog 38 #[.slice (some ⟨b, o, none⟩) l.length ca] w fun e w' => e = .returned (.tuple #[(Value.agg #[.int .i64 (cenX l).1, .int .i64 (cenX l).2]), (Value.agg #[.int .i64 (cenY l).1, .int .i64 (cenY l).2]), (Value.int .i64 (0))]) ∧ Below w.heap.size w w' := by
  have hF := Lib.hid fun (W : World) (hW : Below w.heap.size w W) => First_ok b o ca l W (hp.below hW) hok
  have hT := Lib.hid fun (W : World) (hW : Below w.heap.size w W) => tw_any b o ca l W (by have := hok.1; omega) hok.1.2 (hp.below hW) hok.2.1
  have t1 := tw_bd hok
  have t2 := mx_bd hok
  have t3 := my_bd hok
  have t4 := tw_ne hok
  have m1 := wrap64_in (x := 3 * tw l) (by omega) (by omega)
  clear hok
  go_enter Try.func38, Try.ntmps38
  go_wp2_with (first | (go_at_call 34; with_reducible refine Calls.mono (hF.out _ (by (repeat (first | with_reducible exact Below.refl _ _ | with_reducible apply bl_alloc | with_reducible apply bl_drew | with_reducible apply bl_after | (with_reducible refine bl_call ?_ (by assumption)))))) ?_; rintro e w1 ⟨rfl, hb1⟩; first | ((with_reducible apply kp_in_step (hb := hb1)); (with_reducible assumption); rintro ⟨hk, hc, hf, hzc, hzf⟩) | ((with_reducible refine kp_in_first hb1 ?_); rintro ⟨hk, hc, hf, hzc, hzf⟩)) | (go_at_call 46; with_reducible refine Calls.mono (hT.out _ (by (repeat (first | with_reducible exact Below.refl _ _ | with_reducible apply bl_alloc | with_reducible apply bl_drew | with_reducible apply bl_after | (with_reducible refine bl_call ?_ (by assumption)))))) ?_; rintro e w1 ⟨rfl, hb1⟩; first | ((with_reducible apply kp_in_step (hb := hb1)); (with_reducible assumption); rintro ⟨hk, hc, hf, hzc, hzf⟩) | ((with_reducible refine kp_in_first hb1 ?_); rintro ⟨hk, hc, hf, hzc, hzf⟩)) | (go_at_call 72; with_reducible refine Calls.mono (ratio_any _ _ _ (by omega) (by omega) (by omega)) ?_; rintro e w1 ⟨rfl, hb1⟩; first | ((with_reducible apply kp_in_step (hb := hb1)); (with_reducible assumption); rintro ⟨hk, hc, hf, hzc, hzf⟩) | ((with_reducible refine kp_in_first hb1 ?_); rintro ⟨hk, hc, hf, hzc, hzf⟩)))
  have b0 : Blk w1 w.heap.size 40 #[(Value.int .i64 (0)), (Value.int .i64 (0))] := (((((Blk.new w _ _).alloc _).below (by assumption)).below (by assumption)).below (by assumption)).below (by assumption)
  have b1 : Blk w1 (w.heap.size + 1) 40 #[(Value.int .i64 (0)), (Value.int .i64 (0))] := by
    have h := ((((Blk.new (w.alloc (.cells #[(Value.int .i64 (0)), (Value.int .i64 (0))] 40)) 40 #[(Value.int .i64 (0)), (Value.int .i64 (0))]).below (by assumption)).below (by assumption)).below (by assumption)).below (w' := w1) (by assumption)
    simpa using h
  have hx := two_rats b0 b1 (Value.int .i64 ((lowOf (mx l) (3 * tw l)).1)) (Value.int .i64 ((lowOf (mx l) (3 * tw l)).2)) (Value.int .i64 ((lowOf (my l) (3 * tw l)).1)) (Value.int .i64 ((lowOf (my l) (3 * tw l)).2))
  have y0 : ∀ u, (w1.setCell ⟨w.heap.size, 0, none⟩ u).cell? ⟨w.heap.size, 0, none⟩ = some u := fun u => by simpa using (b0.set_ 0 u).cell 0
  have y1 : ∀ u v, ((w1.setCell ⟨w.heap.size, 0, none⟩ u).setCell ⟨w.heap.size, 1, none⟩ v).cell? ⟨w.heap.size, 1, none⟩ = some v := fun u v => by simpa using ((b0.set_ 0 u).set_ 1 v).cell 1
  have y2 : ∀ u v x, (((w1.setCell ⟨w.heap.size, 0, none⟩ u).setCell ⟨w.heap.size, 1, none⟩ v).setCell ⟨w.heap.size + 1, 0, none⟩ x).cell? ⟨w.heap.size + 1, 0, none⟩ = some x := fun u v x => by simpa using (((b1.far (p := ⟨w.heap.size, 0, none⟩) (by simp) u).far (p := ⟨w.heap.size, 1, none⟩) (by simp) v).set_ 0 x).cell 0
  have hB : Below w.heap.size w w1 := by (repeat (first | with_reducible exact Below.refl _ _ | with_reducible apply bl_alloc | with_reducible apply bl_drew | with_reducible apply bl_after | (with_reducible refine bl_call ?_ (by assumption))))
  (try simp only [Exit.inBlock, Exit.then])
  refine bodyPost_ret (v := .tuple #[(Value.agg #[.int .i64 (cenX l).1, .int .i64 (cenX l).2]), (Value.agg #[.int .i64 (cenY l).1, .int .i64 (cenY l).2]), (Value.int .i64 (0))]) (by simp [results, Try.results38, go_sem, hx, y0, y1, y2, cenX, cenY]) rfl ?_
  first | exact ⟨rfl, (((hB.setCell (p := ⟨w.heap.size, 0, none⟩) (by simp) _).setCell (p := ⟨w.heap.size, 1, none⟩) (by simp) _).setCell (p := ⟨w.heap.size + 1, 0, none⟩) (by simp) _).setCell (p := ⟨w.heap.size + 1, 1, none⟩) (by simp) _⟩ | exact ⟨rfl, bl_drew ((((hB.setCell (p := ⟨w.heap.size, 0, none⟩) (by simp) _).setCell (p := ⟨w.heap.size, 1, none⟩) (by simp) _).setCell (p := ⟨w.heap.size + 1, 0, none⟩) (by simp) _).setCell (p := ⟨w.heap.size + 1, 1, none⟩) (by simp) _)⟩
end Go.Proofs.Ytijpolfmiajenaa
