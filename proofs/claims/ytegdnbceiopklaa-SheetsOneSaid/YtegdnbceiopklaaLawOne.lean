/- The law SheetsOne answers true for any sheet, polygon, and told factors and deed. -/
import Derived.Test.YtegdnbceiopklaaWk4
import Derived.Test.YtegdnbceiopklaaCp4
import Derived.Test.YtegdnbceiopklaaRi4
import Derived.Test.YtegdnbceiopklaaOn4
import Derived.Test.YtegdnbceiopklaaOpc
import Derived.Test.YtegdnbceiopklaaRows
namespace Go.Proofs.Ytegdnbceiopklaa
open Go.ChangeShapes Go.WideShapes Go.RowKit
attribute [local go_sem] After.cell After.frozen

theorem rowC_cts {w : World} {B n ca : Nat} {A : Option Addr} {l : List Ctl} (h : RowC w B (.slice A n ca) l) : Cts w A l := by
  obtain ⟨A', ca', e, hN⟩ := h.parts4
  simp only [Value.slice.injEq] at e
  obtain ⟨rfl, _, _⟩ := e
  exact hN
set_option maxRecDepth 100000 in
set_option maxHeartbeats 4000000 in
theorem lawOne_no (A B : Option Addr) (ca cb : Nat) (S : Sht) (l : List Pt) (f a b : Pt) (d o : Int) (w : World) (ha : Cts w A S.cs) (hla : S.cs.length ≤ 9223372036854775807) (hb : Pts w B l) (hlb : l.length ≤ 9223372036854775807)
    (x1 x2 x3 x4 : Bool) (h1 : rdyB S = x1) (h2 : polB l = x2) (h3 : rdyB S = true → truB S f = x3) (h4 : deedB d o = x4) (hx : x1 = false ∨ (x1 = true ∧ x2 = false) ∨ (x1 = true ∧ x2 = true ∧ x3 = false) ∨ (x1 = true ∧ x2 = true ∧ x3 = true ∧ x4 = false)) :
    Calls Try.prog 4 #[(Value.agg #[(Value.int .i64 (S.xlo)), (Value.int .i64 (S.xhi)), (Value.int .i64 (S.ylo)), (Value.int .i64 (S.yhi)), .slice A S.cs.length ca, (Value.int .i64 (S.wrong))]), .slice B l.length cb, .agg #[(Value.int .i64 (f.1)), (Value.int .i64 (f.2)), (Value.int .i64 (d)), (Value.int .i64 (o)), (Value.int .i64 (a.1)), (Value.int .i64 (a.2)), (Value.int .i64 (b.1)), (Value.int .i64 (b.2))]] w fun e w' => e = .returned (.bool true) ∧ Below w.heap.size w w' := by
  have hR := fun (W : World) (h : Below w.heap.size w W) => ready4 A ca S W (ha.below h) hla
  have hP := fun (W : World) (h : Below w.heap.size w W) => isPolygon4 B cb l W (hb.below h) hlb
  have hT := fun (h : rdyB S = true) (W : World) (hw : Below w.heap.size w W) => rIsTruth4 A ca S (sht_ok (by simp only [rdyB, Bool.and_eq_true] at h; exact h.2)) f W (ha.below hw)
  have hD := Lib.hid fun (W : World) => rIsDeed4 d o W
  have c1 : Blk ((w.alloc (.cells #[(Value.int .i64 (S.xlo)), (Value.int .i64 (S.xhi)), (Value.int .i64 (S.ylo)), (Value.int .i64 (S.yhi)), .slice A S.cs.length ca, (Value.int .i64 (S.wrong))] 26)).alloc (.cells #[(Value.int .i64 (f.1)), (Value.int .i64 (f.2)), (Value.int .i64 (d)), (Value.int .i64 (o)), (Value.int .i64 (a.1)), (Value.int .i64 (a.2)), (Value.int .i64 (b.1)), (Value.int .i64 (b.2))] 44)) w.heap.size 26 #[(Value.int .i64 (S.xlo)), (Value.int .i64 (S.xhi)), (Value.int .i64 (S.ylo)), (Value.int .i64 (S.yhi)), .slice A S.cs.length ca, (Value.int .i64 (S.wrong))] := (Blk.new _ _ _).alloc _
  have c2 : Blk ((w.alloc (.cells #[(Value.int .i64 (S.xlo)), (Value.int .i64 (S.xhi)), (Value.int .i64 (S.ylo)), (Value.int .i64 (S.yhi)), .slice A S.cs.length ca, (Value.int .i64 (S.wrong))] 26)).alloc (.cells #[(Value.int .i64 (f.1)), (Value.int .i64 (f.2)), (Value.int .i64 (d)), (Value.int .i64 (o)), (Value.int .i64 (a.1)), (Value.int .i64 (a.2)), (Value.int .i64 (b.1)), (Value.int .i64 (b.2))] 44)) (w.heap.size + 1) 44 #[(Value.int .i64 (f.1)), (Value.int .i64 (f.2)), (Value.int .i64 (d)), (Value.int .i64 (o)), (Value.int .i64 (a.1)), (Value.int .i64 (a.2)), (Value.int .i64 (b.1)), (Value.int .i64 (b.2))] := Blk.new_at (by simp)
  (have la := c1.lt); (have ya0 := c1.cell 0); (have ya1 := c1.cell 1); (have ya2 := c1.cell 2); (have ya3 := c1.cell 3); (have ya4 := c1.cell 4); (have ya5 := c1.cell 5); simp only [List.getElem?_toArray, List.getElem?_cons_zero, List.getElem?_cons_succ] at ya0 ya1 ya2 ya3 ya4 ya5
  (have lb := c2.lt); (have yb0 := c2.cell 0); (have yb1 := c2.cell 1); (have yb2 := c2.cell 2); (have yb3 := c2.cell 3); (have yb4 := c2.cell 4); (have yb5 := c2.cell 5); (have yb6 := c2.cell 6); (have yb7 := c2.cell 7); simp only [List.getElem?_toArray, List.getElem?_cons_zero, List.getElem?_cons_succ] at yb0 yb1 yb2 yb3 yb4 yb5 yb6 yb7
  rw [h1] at hR
  rw [h2] at hP
  rw [h4] at hD
  replace hR := Lib.hid hR
  replace hP := Lib.hid hP
  clear ha hb hla hlb c1 c2 h2 h4
  rcases hx with rfl | ⟨rfl, rfl⟩ | ⟨rfl, rfl, rfl⟩ | ⟨rfl, rfl, rfl, rfl⟩
  · clear hT h1 h3
    go_enter Try.func4, Try.ntmps4
    go_wp2_with (first | ((go_at_call 18); (with_reducible refine Calls.mono (hR.out _ (by (repeat (first | with_reducible exact Below.refl _ _ | with_reducible apply bl_alloc | with_reducible apply bl_drew | with_reducible apply bl_after | (with_reducible refine bl_call ?_ (by assumption)))))) ?_); rintro e wn ⟨rfl, hbn⟩; first | ((with_reducible apply kp_in_step (hb := hbn)); (with_reducible assumption); rintro ⟨hk, hc, hf, hzc, hzf⟩) | ((with_reducible refine kp_in_first hbn ?_); rintro ⟨hk, hc, hf, hzc, hzf⟩)) | ((go_at_call 19); (with_reducible refine Calls.mono (hP.out _ (by (repeat (first | with_reducible exact Below.refl _ _ | with_reducible apply bl_alloc | with_reducible apply bl_drew | with_reducible apply bl_after | (with_reducible refine bl_call ?_ (by assumption)))))) ?_); rintro e wn ⟨rfl, hbn⟩; first | ((with_reducible apply kp_in_step (hb := hbn)); (with_reducible assumption); rintro ⟨hk, hc, hf, hzc, hzf⟩) | ((with_reducible refine kp_in_first hbn ?_); rintro ⟨hk, hc, hf, hzc, hzf⟩)) | ((go_at_call 20); (with_reducible refine Calls.mono (hT.out _ (by (repeat (first | with_reducible exact Below.refl _ _ | with_reducible apply bl_alloc | with_reducible apply bl_drew | with_reducible apply bl_after | (with_reducible refine bl_call ?_ (by assumption)))))) ?_); rintro e wn ⟨rfl, hbn⟩; first | ((with_reducible apply kp_in_step (hb := hbn)); (with_reducible assumption); rintro ⟨hk, hc, hf, hzc, hzf⟩) | ((with_reducible refine kp_in_first hbn ?_); rintro ⟨hk, hc, hf, hzc, hzf⟩)) | (go_at_call 21; with_reducible refine Calls.mono (hD.out _) ?_; rintro e w' ⟨rfl, rfl⟩) | ((go_at_call 13); (with_reducible refine Calls.mono (works4 _) ?_); rintro e w9 ⟨rfl, hb9⟩; first | ((with_reducible apply kp_in_step (hb := hb9)); (with_reducible assumption); rintro ⟨hk, hc, hf, hzc, hzf⟩) | ((with_reducible refine kp_in_first hb9 ?_); rintro ⟨hk, hc, hf, hzc, hzf⟩)))
    go_ret
    exact ⟨rfl, by (repeat (first | with_reducible exact Below.refl _ _ | with_reducible apply bl_alloc | with_reducible apply bl_drew | with_reducible apply bl_after | (with_reducible refine bl_call ?_ (by assumption))))⟩
  · clear hT h1 h3
    go_enter Try.func4, Try.ntmps4
    go_wp2_with (first | ((go_at_call 18); (with_reducible refine Calls.mono (hR.out _ (by (repeat (first | with_reducible exact Below.refl _ _ | with_reducible apply bl_alloc | with_reducible apply bl_drew | with_reducible apply bl_after | (with_reducible refine bl_call ?_ (by assumption)))))) ?_); rintro e wn ⟨rfl, hbn⟩; first | ((with_reducible apply kp_in_step (hb := hbn)); (with_reducible assumption); rintro ⟨hk, hc, hf, hzc, hzf⟩) | ((with_reducible refine kp_in_first hbn ?_); rintro ⟨hk, hc, hf, hzc, hzf⟩)) | ((go_at_call 19); (with_reducible refine Calls.mono (hP.out _ (by (repeat (first | with_reducible exact Below.refl _ _ | with_reducible apply bl_alloc | with_reducible apply bl_drew | with_reducible apply bl_after | (with_reducible refine bl_call ?_ (by assumption)))))) ?_); rintro e wn ⟨rfl, hbn⟩; first | ((with_reducible apply kp_in_step (hb := hbn)); (with_reducible assumption); rintro ⟨hk, hc, hf, hzc, hzf⟩) | ((with_reducible refine kp_in_first hbn ?_); rintro ⟨hk, hc, hf, hzc, hzf⟩)) | ((go_at_call 20); (with_reducible refine Calls.mono (hT.out _ (by (repeat (first | with_reducible exact Below.refl _ _ | with_reducible apply bl_alloc | with_reducible apply bl_drew | with_reducible apply bl_after | (with_reducible refine bl_call ?_ (by assumption)))))) ?_); rintro e wn ⟨rfl, hbn⟩; first | ((with_reducible apply kp_in_step (hb := hbn)); (with_reducible assumption); rintro ⟨hk, hc, hf, hzc, hzf⟩) | ((with_reducible refine kp_in_first hbn ?_); rintro ⟨hk, hc, hf, hzc, hzf⟩)) | (go_at_call 21; with_reducible refine Calls.mono (hD.out _) ?_; rintro e w' ⟨rfl, rfl⟩) | ((go_at_call 13); (with_reducible refine Calls.mono (works4 _) ?_); rintro e w9 ⟨rfl, hb9⟩; first | ((with_reducible apply kp_in_step (hb := hb9)); (with_reducible assumption); rintro ⟨hk, hc, hf, hzc, hzf⟩) | ((with_reducible refine kp_in_first hb9 ?_); rintro ⟨hk, hc, hf, hzc, hzf⟩)))
    go_ret
    exact ⟨rfl, by (repeat (first | with_reducible exact Below.refl _ _ | with_reducible apply bl_alloc | with_reducible apply bl_drew | with_reducible apply bl_after | (with_reducible refine bl_call ?_ (by assumption))))⟩
  · replace hT := hT h1
    rw [h3 h1] at hT
    replace hT := Lib.hid hT
    clear h1 h3
    go_enter Try.func4, Try.ntmps4
    go_wp2_with (first | ((go_at_call 18); (with_reducible refine Calls.mono (hR.out _ (by (repeat (first | with_reducible exact Below.refl _ _ | with_reducible apply bl_alloc | with_reducible apply bl_drew | with_reducible apply bl_after | (with_reducible refine bl_call ?_ (by assumption)))))) ?_); rintro e wn ⟨rfl, hbn⟩; first | ((with_reducible apply kp_in_step (hb := hbn)); (with_reducible assumption); rintro ⟨hk, hc, hf, hzc, hzf⟩) | ((with_reducible refine kp_in_first hbn ?_); rintro ⟨hk, hc, hf, hzc, hzf⟩)) | ((go_at_call 19); (with_reducible refine Calls.mono (hP.out _ (by (repeat (first | with_reducible exact Below.refl _ _ | with_reducible apply bl_alloc | with_reducible apply bl_drew | with_reducible apply bl_after | (with_reducible refine bl_call ?_ (by assumption)))))) ?_); rintro e wn ⟨rfl, hbn⟩; first | ((with_reducible apply kp_in_step (hb := hbn)); (with_reducible assumption); rintro ⟨hk, hc, hf, hzc, hzf⟩) | ((with_reducible refine kp_in_first hbn ?_); rintro ⟨hk, hc, hf, hzc, hzf⟩)) | ((go_at_call 20); (with_reducible refine Calls.mono (hT.out _ (by (repeat (first | with_reducible exact Below.refl _ _ | with_reducible apply bl_alloc | with_reducible apply bl_drew | with_reducible apply bl_after | (with_reducible refine bl_call ?_ (by assumption)))))) ?_); rintro e wn ⟨rfl, hbn⟩; first | ((with_reducible apply kp_in_step (hb := hbn)); (with_reducible assumption); rintro ⟨hk, hc, hf, hzc, hzf⟩) | ((with_reducible refine kp_in_first hbn ?_); rintro ⟨hk, hc, hf, hzc, hzf⟩)) | (go_at_call 21; with_reducible refine Calls.mono (hD.out _) ?_; rintro e w' ⟨rfl, rfl⟩) | ((go_at_call 13); (with_reducible refine Calls.mono (works4 _) ?_); rintro e w9 ⟨rfl, hb9⟩; first | ((with_reducible apply kp_in_step (hb := hb9)); (with_reducible assumption); rintro ⟨hk, hc, hf, hzc, hzf⟩) | ((with_reducible refine kp_in_first hb9 ?_); rintro ⟨hk, hc, hf, hzc, hzf⟩)))
    go_ret
    exact ⟨rfl, by (repeat (first | with_reducible exact Below.refl _ _ | with_reducible apply bl_alloc | with_reducible apply bl_drew | with_reducible apply bl_after | (with_reducible refine bl_call ?_ (by assumption))))⟩
  · replace hT := hT h1
    rw [h3 h1] at hT
    replace hT := Lib.hid hT
    clear h1 h3
    go_enter Try.func4, Try.ntmps4
    go_wp2_with (first | ((go_at_call 18); (with_reducible refine Calls.mono (hR.out _ (by (repeat (first | with_reducible exact Below.refl _ _ | with_reducible apply bl_alloc | with_reducible apply bl_drew | with_reducible apply bl_after | (with_reducible refine bl_call ?_ (by assumption)))))) ?_); rintro e wn ⟨rfl, hbn⟩; first | ((with_reducible apply kp_in_step (hb := hbn)); (with_reducible assumption); rintro ⟨hk, hc, hf, hzc, hzf⟩) | ((with_reducible refine kp_in_first hbn ?_); rintro ⟨hk, hc, hf, hzc, hzf⟩)) | ((go_at_call 19); (with_reducible refine Calls.mono (hP.out _ (by (repeat (first | with_reducible exact Below.refl _ _ | with_reducible apply bl_alloc | with_reducible apply bl_drew | with_reducible apply bl_after | (with_reducible refine bl_call ?_ (by assumption)))))) ?_); rintro e wn ⟨rfl, hbn⟩; first | ((with_reducible apply kp_in_step (hb := hbn)); (with_reducible assumption); rintro ⟨hk, hc, hf, hzc, hzf⟩) | ((with_reducible refine kp_in_first hbn ?_); rintro ⟨hk, hc, hf, hzc, hzf⟩)) | ((go_at_call 20); (with_reducible refine Calls.mono (hT.out _ (by (repeat (first | with_reducible exact Below.refl _ _ | with_reducible apply bl_alloc | with_reducible apply bl_drew | with_reducible apply bl_after | (with_reducible refine bl_call ?_ (by assumption)))))) ?_); rintro e wn ⟨rfl, hbn⟩; first | ((with_reducible apply kp_in_step (hb := hbn)); (with_reducible assumption); rintro ⟨hk, hc, hf, hzc, hzf⟩) | ((with_reducible refine kp_in_first hbn ?_); rintro ⟨hk, hc, hf, hzc, hzf⟩)) | (go_at_call 21; with_reducible refine Calls.mono (hD.out _) ?_; rintro e w' ⟨rfl, rfl⟩) | ((go_at_call 13); (with_reducible refine Calls.mono (works4 _) ?_); rintro e w9 ⟨rfl, hb9⟩; first | ((with_reducible apply kp_in_step (hb := hb9)); (with_reducible assumption); rintro ⟨hk, hc, hf, hzc, hzf⟩) | ((with_reducible refine kp_in_first hb9 ?_); rintro ⟨hk, hc, hf, hzc, hzf⟩)))
    go_ret
    exact ⟨rfl, by (repeat (first | with_reducible exact Below.refl _ _ | with_reducible apply bl_alloc | with_reducible apply bl_drew | with_reducible apply bl_after | (with_reducible refine bl_call ?_ (by assumption))))⟩
set_option maxRecDepth 100000 in
set_option maxHeartbeats 8000000 in
theorem lawOne_ok (A B : Option Addr) (ca cb : Nat) (S : Sht) (l : List Pt) (f a b : Pt) (d o : Int) (w : World) (ha : Cts w A S.cs) (hla : S.cs.length ≤ 9223372036854775807) (hb : Pts w B l) (hlb : l.length ≤ 9223372036854775807)
    (h1 : rdyB S = true) (h2 : polB l = true) (h3 : truB S f = true) (h4 : deedB d o = true) :
    Calls Try.prog 4 #[(Value.agg #[(Value.int .i64 (S.xlo)), (Value.int .i64 (S.xhi)), (Value.int .i64 (S.ylo)), (Value.int .i64 (S.yhi)), .slice A S.cs.length ca, (Value.int .i64 (S.wrong))]), .slice B l.length cb, .agg #[(Value.int .i64 (f.1)), (Value.int .i64 (f.2)), (Value.int .i64 (d)), (Value.int .i64 (o)), (Value.int .i64 (a.1)), (Value.int .i64 (a.2)), (Value.int .i64 (b.1)), (Value.int .i64 (b.2))]] w fun e w' => e = .returned (.bool true) ∧ Below w.heap.size w w' := by
  have h0 : shtB S = true := by simp only [rdyB, Bool.and_eq_true] at h1; exact h1.2
  have hS := sht_ok h0
  have hR := fun (W : World) (h : Below w.heap.size w W) => ready4 A ca S W (ha.below h) hla
  have hP := fun (W : World) (h : Below w.heap.size w W) => isPolygon4 B cb l W (hb.below h) hlb
  have hT := fun (W : World) (hw : Below w.heap.size w W) => rIsTruth4 A ca S hS f W (ha.below hw)
  have hD := fun (W : World) => rIsDeed4 d o W
  rw [h1] at hR
  rw [h2] at hP
  rw [h3] at hT
  rw [h4] at hD
  replace hR := Lib.hid hR
  replace hP := Lib.hid hP
  replace hT := Lib.hid hT
  replace hD := Lib.hid hD
  have h8 := hS.len
  have hCp := Lib.hid fun (W : World) (h : Below w.heap.size w W) => rCopy4 A ca S W (ha.below h) (by omega)
  have HH := Lib.hid (And.intro h0 (And.intro h2 (And.intro h3 h4)))
  have c1 : Blk ((w.alloc (.cells #[(Value.int .i64 (S.xlo)), (Value.int .i64 (S.xhi)), (Value.int .i64 (S.ylo)), (Value.int .i64 (S.yhi)), .slice A S.cs.length ca, (Value.int .i64 (S.wrong))] 26)).alloc (.cells #[(Value.int .i64 (f.1)), (Value.int .i64 (f.2)), (Value.int .i64 (d)), (Value.int .i64 (o)), (Value.int .i64 (a.1)), (Value.int .i64 (a.2)), (Value.int .i64 (b.1)), (Value.int .i64 (b.2))] 44)) w.heap.size 26 #[(Value.int .i64 (S.xlo)), (Value.int .i64 (S.xhi)), (Value.int .i64 (S.ylo)), (Value.int .i64 (S.yhi)), .slice A S.cs.length ca, (Value.int .i64 (S.wrong))] := (Blk.new _ _ _).alloc _
  have c2 : Blk ((w.alloc (.cells #[(Value.int .i64 (S.xlo)), (Value.int .i64 (S.xhi)), (Value.int .i64 (S.ylo)), (Value.int .i64 (S.yhi)), .slice A S.cs.length ca, (Value.int .i64 (S.wrong))] 26)).alloc (.cells #[(Value.int .i64 (f.1)), (Value.int .i64 (f.2)), (Value.int .i64 (d)), (Value.int .i64 (o)), (Value.int .i64 (a.1)), (Value.int .i64 (a.2)), (Value.int .i64 (b.1)), (Value.int .i64 (b.2))] 44)) (w.heap.size + 1) 44 #[(Value.int .i64 (f.1)), (Value.int .i64 (f.2)), (Value.int .i64 (d)), (Value.int .i64 (o)), (Value.int .i64 (a.1)), (Value.int .i64 (a.2)), (Value.int .i64 (b.1)), (Value.int .i64 (b.2))] := Blk.new_at (by simp)
  have hb0 : Below w.heap.size w ((w.alloc (.cells #[(Value.int .i64 (S.xlo)), (Value.int .i64 (S.xhi)), (Value.int .i64 (S.ylo)), (Value.int .i64 (S.yhi)), .slice A S.cs.length ca, (Value.int .i64 (S.wrong))] 26)).alloc (.cells #[(Value.int .i64 (f.1)), (Value.int .i64 (f.2)), (Value.int .i64 (d)), (Value.int .i64 (o)), (Value.int .i64 (a.1)), (Value.int .i64 (a.2)), (Value.int .i64 (b.1)), (Value.int .i64 (b.2))] 44)) := by (repeat (first | with_reducible exact Below.refl _ _ | with_reducible apply bl_alloc | with_reducible apply bl_drew | with_reducible apply bl_after | (with_reducible refine bl_call ?_ (by assumption))))
  (have la := c1.lt); (have ya0 := c1.cell 0); (have ya1 := c1.cell 1); (have ya2 := c1.cell 2); (have ya3 := c1.cell 3); (have ya4 := c1.cell 4); (have ya5 := c1.cell 5); simp only [List.getElem?_toArray, List.getElem?_cons_zero, List.getElem?_cons_succ] at ya0 ya1 ya2 ya3 ya4 ya5
  (have lb := c2.lt); (have yb0 := c2.cell 0); (have yb1 := c2.cell 1); (have yb2 := c2.cell 2); (have yb3 := c2.cell 3); (have yb4 := c2.cell 4); (have yb5 := c2.cell 5); (have yb6 := c2.cell 6); (have yb7 := c2.cell 7); simp only [List.getElem?_toArray, List.getElem?_cons_zero, List.getElem?_cons_succ] at yb0 yb1 yb2 yb3 yb4 yb5 yb6 yb7
  clear h0 h1 h2 h3 h4 hla hlb
  go_enter Try.func4, Try.ntmps4
  go_upto_region 4 with (first | (first | ((go_at_call 18); (with_reducible refine Calls.mono (hR.out _ (by (repeat (first | with_reducible exact Below.refl _ _ | with_reducible apply bl_alloc | with_reducible apply bl_drew | with_reducible apply bl_after | (with_reducible refine bl_call ?_ (by assumption)))))) ?_); rintro e wn ⟨rfl, hbn⟩; first | ((with_reducible apply kp_in_step (hb := hbn)); (with_reducible assumption); rintro ⟨hk, hc, hf, hzc, hzf⟩) | ((with_reducible refine kp_in_first hbn ?_); rintro ⟨hk, hc, hf, hzc, hzf⟩)) | ((go_at_call 19); (with_reducible refine Calls.mono (hP.out _ (by (repeat (first | with_reducible exact Below.refl _ _ | with_reducible apply bl_alloc | with_reducible apply bl_drew | with_reducible apply bl_after | (with_reducible refine bl_call ?_ (by assumption)))))) ?_); rintro e wn ⟨rfl, hbn⟩; first | ((with_reducible apply kp_in_step (hb := hbn)); (with_reducible assumption); rintro ⟨hk, hc, hf, hzc, hzf⟩) | ((with_reducible refine kp_in_first hbn ?_); rintro ⟨hk, hc, hf, hzc, hzf⟩)) | ((go_at_call 20); (with_reducible refine Calls.mono (hT.out _ (by (repeat (first | with_reducible exact Below.refl _ _ | with_reducible apply bl_alloc | with_reducible apply bl_drew | with_reducible apply bl_after | (with_reducible refine bl_call ?_ (by assumption)))))) ?_); rintro e wn ⟨rfl, hbn⟩; first | ((with_reducible apply kp_in_step (hb := hbn)); (with_reducible assumption); rintro ⟨hk, hc, hf, hzc, hzf⟩) | ((with_reducible refine kp_in_first hbn ?_); rintro ⟨hk, hc, hf, hzc, hzf⟩)) | (go_at_call 21; with_reducible refine Calls.mono (hD.out _) ?_; rintro e w' ⟨rfl, rfl⟩) | ((go_at_call 13); (with_reducible refine Calls.mono (works4 _) ?_); rintro e w9 ⟨rfl, hb9⟩; first | ((with_reducible apply kp_in_step (hb := hb9)); (with_reducible assumption); rintro ⟨hk, hc, hf, hzc, hzf⟩) | ((with_reducible refine kp_in_first hb9 ?_); rintro ⟨hk, hc, hf, hzc, hzf⟩))) | ((go_at_call 15); (with_reducible refine Calls.mono (hCp.out _ (by (repeat (first | with_reducible exact Below.refl _ _ | with_reducible apply bl_alloc | with_reducible apply bl_drew | with_reducible apply bl_after | (with_reducible refine bl_call ?_ (by assumption)))))) ?_); rintro e3 w3 ⟨⟨A3, ca3, rfl, hC3⟩, hb3⟩; first | ((with_reducible apply kp_in_step (hb := hb3)); (with_reducible assumption); rintro ⟨hk, hc, hf, hzc, hzf⟩) | ((with_reducible refine kp_in_first hb3 ?_); rintro ⟨hk, hc, hf, hzc, hzf⟩)))
  have hW3 : Below (((w.alloc (.cells #[(Value.int .i64 (S.xlo)), (Value.int .i64 (S.xhi)), (Value.int .i64 (S.ylo)), (Value.int .i64 (S.yhi)), .slice A S.cs.length ca, (Value.int .i64 (S.wrong))] 26)).alloc (.cells #[(Value.int .i64 (f.1)), (Value.int .i64 (f.2)), (Value.int .i64 (d)), (Value.int .i64 (o)), (Value.int .i64 (a.1)), (Value.int .i64 (a.2)), (Value.int .i64 (b.1)), (Value.int .i64 (b.2))] 44))).heap.size ((w.alloc (.cells #[(Value.int .i64 (S.xlo)), (Value.int .i64 (S.xhi)), (Value.int .i64 (S.ylo)), (Value.int .i64 (S.yhi)), .slice A S.cs.length ca, (Value.int .i64 (S.wrong))] 26)).alloc (.cells #[(Value.int .i64 (f.1)), (Value.int .i64 (f.2)), (Value.int .i64 (d)), (Value.int .i64 (o)), (Value.int .i64 (a.1)), (Value.int .i64 (a.2)), (Value.int .i64 (b.1)), (Value.int .i64 (b.2))] 44)) w3 := by (repeat (first | with_reducible exact Below.refl _ _ | with_reducible apply bl_alloc | with_reducible apply bl_drew | with_reducible apply bl_after | (with_reducible refine bl_call ?_ (by assumption))))
  have e2 := c2.below hW3
  have hbV := bl_call hb0 hW3
  have hsz := hbV.size
  clear la ya0 ya1 ya2 ya3 ya4 ya5 lb yb0 yb1 yb2 yb3 yb4 yb5 yb6 yb7 c1 hW3 hbn hb3 hR hP hT hD hCp
  ((try clear hk hc hf hzc hzf); (try clear hk hc hf hzc hzf); (try clear hk hc hf hzc hzf); (try clear hk hc hf hzc hzf))
  (have lb := e2.lt); (have yb0 := e2.cell 0); (have yb1 := e2.cell 1); (have yb2 := e2.cell 2); (have yb3 := e2.cell 3); (have yb4 := e2.cell 4); (have yb5 := e2.cell 5); (have yb6 := e2.cell 6); (have yb7 := e2.cell 7); simp only [List.getElem?_toArray, List.getElem?_cons_zero, List.getElem?_cons_succ] at yb0 yb1 yb2 yb3 yb4 yb5 yb6 yb7
  go_upto_region 6 with fail
  have hbX : Below w.heap.size w (w3.alloc (.cells #[(Value.int .i64 ((oneS S f).xlo)), (Value.int .i64 ((oneS S f).xhi)), (Value.int .i64 ((oneS S f).ylo)), (Value.int .i64 ((oneS S f).yhi)), .slice A3 (oneS S f).cs.length ca3, (Value.int .i64 ((oneS S f).wrong))] 26)) := bl_alloc hbV
  have hX3 : Cts (w3.alloc (.cells #[(Value.int .i64 ((oneS S f).xlo)), (Value.int .i64 ((oneS S f).xhi)), (Value.int .i64 ((oneS S f).ylo)), (Value.int .i64 ((oneS S f).yhi)), .slice A3 (oneS S f).cs.length ca3, (Value.int .i64 ((oneS S f).wrong))] 26)) A3 (oneS S f).cs := (rowC_cts hC3).alloc _
  have hpX := hb.below hbX
  have g2 := e2.alloc (.cells #[(Value.int .i64 ((oneS S f).xlo)), (Value.int .i64 ((oneS S f).xhi)), (Value.int .i64 ((oneS S f).ylo)), (Value.int .i64 ((oneS S f).yhi)), .slice A3 (oneS S f).cs.length ca3, (Value.int .i64 ((oneS S f).wrong))] 26)
  have g8 := Blk.new w3 26 #[(Value.int .i64 ((oneS S f).xlo)), (Value.int .i64 ((oneS S f).xhi)), (Value.int .i64 ((oneS S f).ylo)), (Value.int .i64 ((oneS S f).yhi)), .slice A3 (oneS S f).cs.length ca3, (Value.int .i64 ((oneS S f).wrong))]
  clear lb yb0 yb1 yb2 yb3 yb4 yb5 yb6 yb7 e2 hC3 hbV hb ha
  change Code.wp _ _ _ _ (w3.alloc (.cells #[(Value.int .i64 ((oneS S f).xlo)), (Value.int .i64 ((oneS S f).xhi)), (Value.int .i64 ((oneS S f).ylo)), (Value.int .i64 ((oneS S f).yhi)), .slice A3 (oneS S f).cs.length ca3, (Value.int .i64 ((oneS S f).wrong))] 26))
  obtain ⟨q0, q2, q3, q4⟩ := HH.out
  have hok := polB_ok.1 q2
  have hf := FacOk.of_in hS (by simp only [truB, Bool.and_eq_true] at q3; exact q3.1.1) (by simp only [truB, Bool.and_eq_true] at q3; exact q3.1.2)
  have hO1 := one_sht q0 q3
  have hO2 := one_trs q3
  have hne : trs (oneS S f) ≠ [] := by rw [hO2]; exact List.cons_ne_nil _ _
  have v1 : opS (oneS S f) true = 0 := opS_of hO1 rfl hne
  have v2 : mnS (oneS S f) = 1 := by rw [mnS, if_pos v1, hO2]; rfl
  have vm : msE (oneS S f) l = 0 := by rw [msE, if_pos hO1, chk_ok hok]
  have v3 : arE (oneS S f) l true = 0 := by rw [arE, if_pos vm, v1]
  have v4 : arLo (oneS S f) l = low (arQ l f) := by rw [arLo, if_pos v3, hO2]; rfl
  have v5 : arHi (oneS S f) l = hig (arQ l f) := by rw [arHi, if_pos v3, hO2]; rfl
  have v6 : (alV (oneS S f) == 3) = false := by rw [alV, if_pos v1, hO2, beq_eq_false_iff_ne]; exact knw_one _ _
  have v7 : agE (oneS S f) l d o = 0 := by rw [agE, if_pos vm]; exact opS_of hO1 q4 hne
  have v8 : (agV (oneS S f) l d o == 3) = false := by rw [agV, if_pos v7, hO2, beq_eq_false_iff_ne]; exact knw_one _ _
  have hfr := arQ_ok hok hf
  have hby := ff_bd hf
  have hab := abT_bd2 hok
  have hlh := low_le hfr
  have hhs := hig_sane hfr (by simp only [arQ]; omega) hby.1
  have e1 : (arQ l f).1 = abT l * 1000000 := rfl
  have e2 : (arQ l f).2 = f.1 * f.2 := rfl
  rw [e1, e2] at hlh
  have l10 := hok.1
  have htw := tw_bd2 hok
  have hMn := fun (V : World) (h : Below (w3.alloc (.cells #[(Value.int .i64 ((oneS S f).xlo)), (Value.int .i64 ((oneS S f).xhi)), (Value.int .i64 ((oneS S f).ylo)), (Value.int .i64 ((oneS S f).yhi)), .slice A3 (oneS S f).cs.length ca3, (Value.int .i64 ((oneS S f).wrong))] 26)).heap.size (w3.alloc (.cells #[(Value.int .i64 ((oneS S f).xlo)), (Value.int .i64 ((oneS S f).xhi)), (Value.int .i64 ((oneS S f).ylo)), (Value.int .i64 ((oneS S f).yhi)), .slice A3 (oneS S f).cs.length ca3, (Value.int .i64 ((oneS S f).wrong))] 26)) V) => Many_any4 A3 ca3 (oneS S f) V (hX3.below h)
  have hAr := fun (V : World) (h : Below (w3.alloc (.cells #[(Value.int .i64 ((oneS S f).xlo)), (Value.int .i64 ((oneS S f).xhi)), (Value.int .i64 ((oneS S f).ylo)), (Value.int .i64 ((oneS S f).yhi)), .slice A3 (oneS S f).cs.length ca3, (Value.int .i64 ((oneS S f).wrong))] 26)).heap.size (w3.alloc (.cells #[(Value.int .i64 ((oneS S f).xlo)), (Value.int .i64 ((oneS S f).xhi)), (Value.int .i64 ((oneS S f).ylo)), (Value.int .i64 ((oneS S f).yhi)), .slice A3 (oneS S f).cs.length ca3, (Value.int .i64 ((oneS S f).wrong))] 26)) V) => Area_any A3 B ca3 cb (oneS S f) l V (hX3.below h) (hpX.below h) (by omega)
  have hAl := fun (V : World) (h : Below (w3.alloc (.cells #[(Value.int .i64 ((oneS S f).xlo)), (Value.int .i64 ((oneS S f).xhi)), (Value.int .i64 ((oneS S f).ylo)), (Value.int .i64 ((oneS S f).yhi)), .slice A3 (oneS S f).cs.length ca3, (Value.int .i64 ((oneS S f).wrong))] 26)).heap.size (w3.alloc (.cells #[(Value.int .i64 ((oneS S f).xlo)), (Value.int .i64 ((oneS S f).xhi)), (Value.int .i64 ((oneS S f).ylo)), (Value.int .i64 ((oneS S f).yhi)), .slice A3 (oneS S f).cs.length ca3, (Value.int .i64 ((oneS S f).wrong))] 26)) V) => Alike_any A3 ca3 (oneS S f) V (hX3.below h)
  have hAg := fun (V : World) (h : Below (w3.alloc (.cells #[(Value.int .i64 ((oneS S f).xlo)), (Value.int .i64 ((oneS S f).xhi)), (Value.int .i64 ((oneS S f).ylo)), (Value.int .i64 ((oneS S f).yhi)), .slice A3 (oneS S f).cs.length ca3, (Value.int .i64 ((oneS S f).wrong))] 26)).heap.size (w3.alloc (.cells #[(Value.int .i64 ((oneS S f).xlo)), (Value.int .i64 ((oneS S f).xhi)), (Value.int .i64 ((oneS S f).ylo)), (Value.int .i64 ((oneS S f).yhi)), .slice A3 (oneS S f).cs.length ca3, (Value.int .i64 ((oneS S f).wrong))] 26)) V) => Agrees_any A3 B ca3 cb (oneS S f) l d o V (hX3.below h) (hpX.below h) (by omega)
  obtain ⟨bp, op, hBp, pp⟩ := hpX.ok hok
  subst hBp
  have hTw := Lib.hid fun (V : World) (h : Below (w3.alloc (.cells #[(Value.int .i64 ((oneS S f).xlo)), (Value.int .i64 ((oneS S f).xhi)), (Value.int .i64 ((oneS S f).ylo)), (Value.int .i64 ((oneS S f).yhi)), .slice A3 (oneS S f).cs.length ca3, (Value.int .i64 ((oneS S f).wrong))] 26)).heap.size (w3.alloc (.cells #[(Value.int .i64 ((oneS S f).xlo)), (Value.int .i64 ((oneS S f).xhi)), (Value.int .i64 ((oneS S f).ylo)), (Value.int .i64 ((oneS S f).yhi)), .slice A3 (oneS S f).cs.length ca3, (Value.int .i64 ((oneS S f).wrong))] 26)) V) => TwiceOf_any bp op cb l V (pp.below h) hok.1.1 hok.1.2 hok.2.1
  rw [v1, v2] at hMn
  rw [v3, v4, v5] at hAr
  rw [v1] at hAl
  rw [v7] at hAg
  have hSn := fun (V : World) => sane4 (low (arQ l f)) (hig (arQ l f)) (by simp only [saneB, Bool.and_eq_true, decide_eq_true_eq]; omega) V
  have hAb := Lib.hid fun (V : World) => (show Calls Try.prog 26 #[(Value.int .i64 (tw l))] V fun e w' => e = .returned (Value.int .i64 (abT l)) ∧ V = w' from labs4 (tw l) (by omega) V)
  generalize low (arQ l f) = lo at *
  generalize hig (arQ l f) = hi at *
  generalize alV (oneS S f) = av at *
  generalize agV (oneS S f) l d o = gv at *
  generalize oneS S f = O at *
  generalize w3.alloc (.cells #[(Value.int .i64 (O.xlo)), (Value.int .i64 (O.xhi)), (Value.int .i64 (O.ylo)), (Value.int .i64 (O.yhi)), .slice A3 O.cs.length ca3, (Value.int .i64 (O.wrong))] 26) = W1 at *
  generalize w3.heap.size = k8 at *
  have hhb : 0 ≤ hi * (f.1 * f.2) ∧ hi * (f.1 * f.2) ≤ 1073741824 * 1210000 := ⟨Int.mul_nonneg (by omega) (by omega), Int.mul_le_mul (by omega) hby.2 (by omega) (by omega)⟩
  have hlb2 : 0 ≤ lo * (f.1 * f.2) := Int.mul_nonneg (by omega) (by omega)
  have zA : IntKind.i64.wrap (hi - lo) = hi - lo := IntWalk.i64_in _ (by omega)
  have zB : IntKind.i64.wrap (f.1 * f.2) = f.1 * f.2 := IntWalk.i64_in _ (by omega)
  have zC : IntKind.i64.wrap (lo * (f.1 * f.2)) = lo * (f.1 * f.2) := IntWalk.i64_in _ (by omega)
  have zD : IntKind.i64.wrap (hi * (f.1 * f.2)) = hi * (f.1 * f.2) := IntWalk.i64_in _ (by omega)
  have zE : IntKind.i64.wrap (abT l * 1000000) = abT l * 1000000 := IntWalk.i64_in _ (by omega)
  have k1 := hlh.1
  have k2 := hlh.2.1
  have k3 : ¬ 1 < hi - lo := by omega
  replace hMn := Lib.hid hMn
  replace hAr := Lib.hid hAr
  replace hAl := Lib.hid hAl
  replace hAg := Lib.hid hAg
  replace hSn := Lib.hid hSn
  clear q0 q2 q3 q4 hok hf hO1 hO2 hne v1 v2 vm v3 v4 v5 v7 hfr hby hab hlh hhs e1 e2 htw hX3 hpX pp HH hS hhb hlb2 h8 c2 hb0 hsz
  (have lb := g2.lt); (have yb0 := g2.cell 0); (have yb1 := g2.cell 1); (have yb2 := g2.cell 2); (have yb3 := g2.cell 3); (have yb4 := g2.cell 4); (have yb5 := g2.cell 5); (have yb6 := g2.cell 6); (have yb7 := g2.cell 7); simp only [List.getElem?_toArray, List.getElem?_cons_zero, List.getElem?_cons_succ] at yb0 yb1 yb2 yb3 yb4 yb5 yb6 yb7
  (have lc := g8.lt); (have yc0 := g8.cell 0); (have yc1 := g8.cell 1); (have yc2 := g8.cell 2); (have yc3 := g8.cell 3); (have yc4 := g8.cell 4); (have yc5 := g8.cell 5); simp only [List.getElem?_toArray, List.getElem?_cons_zero, List.getElem?_cons_succ] at yc0 yc1 yc2 yc3 yc4 yc5
  have G2 := Lib.hid g2
  have G8 := Lib.hid g8
  clear g2 g8
  go_upto_region 12 with (first | ((go_at_call 22); (with_reducible refine Calls.mono (hMn.out _ (by (repeat (first | with_reducible exact Below.refl _ _ | with_reducible apply bl_alloc | with_reducible apply bl_drew | with_reducible apply bl_after | (with_reducible refine bl_call ?_ (by assumption)))))) ?_); rintro e wn ⟨rfl, hbn⟩; first | ((with_reducible apply kp_in_step (hb := hbn)); (with_reducible assumption); rintro ⟨hk, hc, hf, hzc, hzf⟩) | ((with_reducible refine kp_in_first hbn ?_); rintro ⟨hk, hc, hf, hzc, hzf⟩)) | ((go_at_call 23); (with_reducible refine Calls.mono (hAr.out _ (by (repeat (first | with_reducible exact Below.refl _ _ | with_reducible apply bl_alloc | with_reducible apply bl_drew | with_reducible apply bl_after | (with_reducible refine bl_call ?_ (by assumption)))))) ?_); rintro e w4 ⟨rfl, hb4⟩; (have hb14 : Below W1.heap.size W1 w4 := by (repeat (first | with_reducible exact Below.refl _ _ | with_reducible apply bl_alloc | with_reducible apply bl_drew | with_reducible apply bl_after | (with_reducible refine bl_call ?_ (by assumption))))); (have g82 := G8.out.below hb14); (have l82 := g82.lt); (have g22 := G2.out.below hb14); (have l22 := g22.lt); (have l23 : w.heap.size < w4.heap.size := by omega); first | ((with_reducible apply kp_in_step (hb := hb4)); (with_reducible assumption); rintro ⟨hk, hc, hf, hzc, hzf⟩) | ((with_reducible refine kp_in_first hb4 ?_); rintro ⟨hk, hc, hf, hzc, hzf⟩)) | ((go_at_call 24); (with_reducible refine Calls.mono (hAl.out _ (by (repeat (first | with_reducible exact Below.refl _ _ | with_reducible apply bl_alloc | with_reducible apply bl_drew | with_reducible apply bl_after | (with_reducible refine bl_call ?_ (by assumption)))))) ?_); rintro e wn ⟨rfl, hbn⟩; first | ((with_reducible apply kp_in_step (hb := hbn)); (with_reducible assumption); rintro ⟨hk, hc, hf, hzc, hzf⟩) | ((with_reducible refine kp_in_first hbn ?_); rintro ⟨hk, hc, hf, hzc, hzf⟩)) | ((go_at_call 14); (with_reducible refine Calls.mono (hAg.out _ (by (repeat (first | with_reducible exact Below.refl _ _ | with_reducible apply bl_alloc | with_reducible apply bl_drew | with_reducible apply bl_after | (with_reducible refine bl_call ?_ (by assumption)))))) ?_); rintro e wn ⟨rfl, hbn⟩; first | ((with_reducible apply kp_in_step (hb := hbn)); (with_reducible assumption); rintro ⟨hk, hc, hf, hzc, hzf⟩) | ((with_reducible refine kp_in_first hbn ?_); rintro ⟨hk, hc, hf, hzc, hzf⟩)) | ((go_at_call 25); (with_reducible refine Calls.mono (hSn.out _) ?_); rintro e w7 ⟨rfl, hb7⟩; first | ((with_reducible apply kp_in_step (hb := hb7)); (with_reducible assumption); rintro ⟨hk, hc, hf, hzc, hzf⟩) | ((with_reducible refine kp_in_first hb7 ?_); rintro ⟨hk, hc, hf, hzc, hzf⟩)))
  have hS7 : Below (w4.alloc (.cells #[(Value.int .i64 (lo)), (Value.int .i64 (hi))] 23)).heap.size (w4.alloc (.cells #[(Value.int .i64 (lo)), (Value.int .i64 (hi))] 23)) w7 := by (repeat (first | with_reducible exact Below.refl _ _ | with_reducible apply bl_alloc | with_reducible apply bl_drew | with_reducible apply bl_after | (with_reducible refine bl_call ?_ (by assumption))))
  have sp7 := (Blk.new w4 23 #[(Value.int .i64 (lo)), (Value.int .i64 (hi))]).below hS7
  have hW7 : Below W1.heap.size W1 w7 := bl_call (bl_alloc hb14) hS7
  have hbY := bl_call hbX hW7
  have m2 := G2.out.below hW7
  have hTw2 := Lib.hid fun (V : World) (h : Below w7.heap.size w7 V) => hTw.out V (bl_call hW7 h)
  clear lb yb0 yb1 yb2 yb3 yb4 yb5 yb6 yb7 lc yc0 yc1 yc2 yc3 yc4 yc5 G2 G8 hS7 hW7 hbX hTw hMn hAr hAl hAg hSn l82 g82 g22 l22 l23 hbn hb7 hb4 hb14
  ((try clear hk hc hf hzc hzf); (try clear hk hc hf hzc hzf); (try clear hk hc hf hzc hzf); (try clear hk hc hf hzc hzf))
  generalize w4.heap.size = g4 at *
  (have lb := m2.lt); (have yb0 := m2.cell 0); (have yb1 := m2.cell 1); (have yb2 := m2.cell 2); (have yb3 := m2.cell 3); (have yb4 := m2.cell 4); (have yb5 := m2.cell 5); (have yb6 := m2.cell 6); (have yb7 := m2.cell 7); simp only [List.getElem?_toArray, List.getElem?_cons_zero, List.getElem?_cons_succ] at yb0 yb1 yb2 yb3 yb4 yb5 yb6 yb7
  refine wp_region_CN (fun w' => ∃ z : After w7, w' = z.val) (by kernel_rfl) ?_
  change wpAnyC _ _ _ _ _ _ _ (World.drew w7)
  have hd0 : Below w7.heap.size w7 w7.drew := bl_drew (Below.refl _ _)
  refine wpAnyC_take (i := 0) (v := ?v0u) rfl (by kernel_rfl) (by kernel_rfl) (by kernel_rfl) ?q0u rfl ?y0u ?r0u; (case q0u => exact fun _ _ _ h => h); (case y0u => ((rintro _ ⟨z, rfl⟩); (go_simp); (try with_reducible rfl))); simp only [Act.put, List.getElem_toArray, List.getElem_cons_succ, List.getElem_cons_zero, List.setIfInBounds_toArray, List.set_cons_succ, List.set_cons_zero]
  refine wpAnyC_take (i := 1) (v := ?v1u) rfl (by kernel_rfl) (by kernel_rfl) (by kernel_rfl) ?q1u rfl ?y1u ?r1u; (case q1u => exact fun _ _ _ h => h); (case y1u => ((rintro _ ⟨z, rfl⟩); (go_simp); (try with_reducible rfl))); simp only [Act.put, List.getElem_toArray, List.getElem_cons_succ, List.getElem_cons_zero, List.setIfInBounds_toArray, List.set_cons_succ, List.set_cons_zero]
  refine wpAnyC_take (i := 2) (v := ?v2u) rfl (by kernel_rfl) (by kernel_rfl) (by kernel_rfl) ?q2u rfl ?y2u ?r2u; (case q2u => exact fun _ _ _ h => h); (case y2u => ((rintro _ ⟨z, rfl⟩); (go_simp); (try with_reducible rfl))); simp only [Act.put, List.getElem_toArray, List.getElem_cons_succ, List.getElem_cons_zero, List.setIfInBounds_toArray, List.set_cons_succ, List.set_cons_zero]
  refine wpAnyC_take (i := 3) (v := ?v3u) rfl (by kernel_rfl) (by kernel_rfl) (by kernel_rfl) ?q3u rfl ?y3u ?r3u; (case q3u => exact fun _ _ _ h => h); (case y3u => ((rintro _ ⟨z, rfl⟩); (go_simp); (try with_reducible rfl))); simp only [Act.put, List.getElem_toArray, List.getElem_cons_succ, List.getElem_cons_zero, List.setIfInBounds_toArray, List.set_cons_succ, List.set_cons_zero]
  refine wpAnyC_take (i := 4) (v := ?v4u) rfl (by kernel_rfl) (by kernel_rfl) (by kernel_rfl) ?q4u rfl ?y4u ?r4u; (case q4u => exact fun _ _ _ h => h); (case y4u => ((rintro _ ⟨z, rfl⟩); (go_simp); (try with_reducible rfl))); simp only [Act.put, List.getElem_toArray, List.getElem_cons_succ, List.getElem_cons_zero, List.setIfInBounds_toArray, List.set_cons_succ, List.set_cons_zero]
  refine wpAnyC_take (i := 5) (v := ?v5u) rfl (by kernel_rfl) (by kernel_rfl) (by kernel_rfl) ?q5u rfl ?y5u ?r5u; (case q5u => exact fun _ _ _ h => h); (case y5u => ((rintro _ ⟨z, rfl⟩); (go_simp); (try with_reducible rfl))); simp only [Act.put, List.getElem_toArray, List.getElem_cons_succ, List.getElem_cons_zero, List.setIfInBounds_toArray, List.set_cons_succ, List.set_cons_zero]
  refine wpAnyC_take (i := 6) (v := ?v6u) rfl (by kernel_rfl) (by kernel_rfl) (by kernel_rfl) ?q6u rfl ?y6u ?r6u; (case q6u => exact fun _ _ _ h => h); (case y6u => ((rintro _ ⟨z, rfl⟩); (go_simp); (try with_reducible rfl))); simp only [Act.put, List.getElem_toArray, List.getElem_cons_succ, List.getElem_cons_zero, List.setIfInBounds_toArray, List.set_cons_succ, List.set_cons_zero]
  refine wpAnyC_take (i := 7) (v := ?v7u) rfl (by kernel_rfl) (by kernel_rfl) (by kernel_rfl) ?q7u rfl ?y7u ?r7u; (case q7u => exact fun _ _ _ h => h); (case y7u => ((rintro _ ⟨z, rfl⟩); (go_simp); (try with_reducible rfl))); simp only [Act.put, List.getElem_toArray, List.getElem_cons_succ, List.getElem_cons_zero, List.setIfInBounds_toArray, List.set_cons_succ, List.set_cons_zero]
  refine wpAnyC_one (i := 8) (by kernel_rfl) rfl ⟨⟨_, hd0⟩, rfl⟩ rfl (fun K hK => ?_)
  go_simp
  go_at_call 27
  (with_reducible refine Calls.mono (hTw2.out _ hd0) ?_)
  rintro e8 w8 ⟨rfl, hb8⟩
  refine hK _ _ ?_
  clear hK K
  have hd1 := hd0.trans (hb8.mono hd0.size)
  (refine wpAnyC_one (i := 9) (by kernel_rfl) rfl ⟨⟨_, hd1⟩, rfl⟩ rfl (fun K hK => ?_); go_simp; go_at_call 26; (with_reducible refine Calls.mono (hAb.out _) ?_); rintro e w' ⟨rfl, rfl⟩; refine hK _ _ ?_; clear hK K)
  refine wpAnyC_take (i := 10) (v := ?v10u) rfl (by kernel_rfl) (by kernel_rfl) (by kernel_rfl) ?q10u rfl ?y10u ?r10u; (case q10u => exact fun _ _ _ h => h); (case y10u => ((rintro _ ⟨z, rfl⟩); (go_simp); (try with_reducible rfl))); simp only [Act.put, List.getElem_toArray, List.getElem_cons_succ, List.getElem_cons_zero, List.setIfInBounds_toArray, List.set_cons_succ, List.set_cons_zero]
  refine wpAnyC_take (i := 11) (v := ?v11u) rfl (by kernel_rfl) (by kernel_rfl) (by kernel_rfl) ?q11u rfl ?y11u ?r11u; (case q11u => exact fun _ _ _ h => h); (case y11u => ((rintro _ ⟨z, rfl⟩); (go_simp); (try with_reducible rfl))); simp only [Act.put, List.getElem_toArray, List.getElem_cons_succ, List.getElem_cons_zero, List.setIfInBounds_toArray, List.set_cons_succ, List.set_cons_zero]
  refine wpAnyC_take (i := 12) (v := ?v12u) rfl (by kernel_rfl) (by kernel_rfl) (by kernel_rfl) ?q12u rfl ?y12u ?r12u; (case q12u => exact fun _ _ _ h => h); (case y12u => ((rintro _ ⟨z, rfl⟩); (go_simp); (try with_reducible rfl))); simp only [Act.put, List.getElem_toArray, List.getElem_cons_succ, List.getElem_cons_zero, List.setIfInBounds_toArray, List.set_cons_succ, List.set_cons_zero]
  refine wpAnyC_doneN (by kernel_rfl) ⟨⟨_, hd1⟩, rfl⟩ ?_ _
  have n4 := sp7.below hd1
  have hbZ := bl_call hbY hd1
  clear lb yb0 yb1 yb2 yb3 yb4 yb5 yb6 yb7 m2 sp7 hd0 hd1 hb8 hbY hTw2 hAb
  (have lc := n4.lt); (have yc0 := n4.cell 0); (have yc1 := n4.cell 1); simp only [List.getElem?_toArray, List.getElem?_cons_zero, List.getElem?_cons_succ] at yc0 yc1
  go_wp2_with ((go_at_call 13); (with_reducible refine Calls.mono (works4 _) ?_); rintro e w9 ⟨rfl, hb9⟩; (have hbF := bl_call hbZ hb9))
  go_ret
  exact ⟨rfl, hbF⟩
theorem lawOne_any (A B : Option Addr) (ca cb : Nat) (S : Sht) (l : List Pt) (f a b : Pt) (d o : Int) (w : World) (ha : Cts w A S.cs) (hla : S.cs.length ≤ 9223372036854775807) (hb : Pts w B l) (hlb : l.length ≤ 9223372036854775807) :
    Calls Try.prog 4 #[(Value.agg #[(Value.int .i64 (S.xlo)), (Value.int .i64 (S.xhi)), (Value.int .i64 (S.ylo)), (Value.int .i64 (S.yhi)), .slice A S.cs.length ca, (Value.int .i64 (S.wrong))]), .slice B l.length cb, .agg #[(Value.int .i64 (f.1)), (Value.int .i64 (f.2)), (Value.int .i64 (d)), (Value.int .i64 (o)), (Value.int .i64 (a.1)), (Value.int .i64 (a.2)), (Value.int .i64 (b.1)), (Value.int .i64 (b.2))]] w fun e w' => e = .returned (.bool true) ∧ Below w.heap.size w w' := by
  by_cases h1 : rdyB S = true
  · by_cases h2 : polB l = true
    · by_cases h3 : truB S f = true
      · by_cases h4 : deedB d o = true
        · exact lawOne_ok A B ca cb S l f a b d o w ha hla hb hlb h1 h2 h3 h4
        · exact lawOne_no A B ca cb S l f a b d o w ha hla hb hlb true true true false h1 h2 (fun _ => h3) (by simpa using h4) (.inr (.inr (.inr ⟨rfl, rfl, rfl, rfl⟩)))
      · exact lawOne_no A B ca cb S l f a b d o w ha hla hb hlb true true false (deedB d o) h1 h2 (fun _ => by simpa using h3) rfl (.inr (.inr (.inl ⟨rfl, rfl, rfl⟩)))
    · exact lawOne_no A B ca cb S l f a b d o w ha hla hb hlb true false (truB S f) (deedB d o) h1 (by simpa using h2) (fun _ => rfl) rfl (.inr (.inl ⟨rfl, rfl⟩))
  · exact lawOne_no A B ca cb S l f a b d o w ha hla hb hlb false (polB l) (truB S f) (deedB d o) (by simpa using h1) rfl (fun _ => rfl) rfl (.inl rfl)
section
open Go.Deep
variable {H : Type} {enc : TypeId × Value → H}
set_option maxRecDepth 100000 in
theorem open_told {W : World} {r : Reach} {b0 : Nat} {v : Value} {d : DataW H} {p : List MemPlace} (hv : Value.okWide Try.prog W r b0 44 v) (h : DataW.Trod enc Try.prog W 0 (fun _ => true) true 44 v d p) :
    ∃ (f : Pt) (x y : Int) (a b : Pt), v = .agg #[(Value.int .i64 (f.1)), (Value.int .i64 (f.2)), (Value.int .i64 (x)), (Value.int .i64 (y)), (Value.int .i64 (a.1)), (Value.int .i64 (a.2)), (Value.int .i64 (b.1)), (Value.int .i64 (b.2))] := by
  obtain ⟨cs, rfl, hsz⟩ := okWide_struct Try.underlying44 hv
  obtain ⟨cl⟩ := cs
  have hsz2 : cl.length = 8 := hsz.trans (by kernel_rfl)
  match cl, hsz2 with
  | [c0, c1, c2, c3, c4, c5, c6, c7], _ =>
    obtain ⟨fuel, hf⟩ := h
    obtain ⟨y0, y1, y2, y3, n, hx, _, h0, h1, h2, h3⟩ := Go.Joins.trod_struct4 Try.underlying44 hf
    have k0 : Try.prog.cellsOf 40 = 2 := by kernel_rfl
    have k1 : Try.prog.cellsOf 29 = 2 := by kernel_rfl
    have k2 : Try.prog.cellsOf 42 = 2 := by kernel_rfl
    simp only [Value.cells, k0, k1, k2, List.drop_zero, List.take_succ_cons, List.take_zero, List.drop_succ_cons] at h0 h1 h2 h3
    obtain ⟨z0, z1, m1, _, _, g0, g1⟩ := trod_struct2 Try.underlying40 h0
    obtain ⟨z2, z3, m2, _, _, g2, g3⟩ := trod_struct2 Try.underlying29 h1
    obtain ⟨z4, z5, m3, _, _, g4, g5⟩ := trod_struct2 Try.underlying42 h2
    obtain ⟨z6, z7, m4, _, _, g6, g7⟩ := trod_struct2 Try.underlying42 h3
    simp only [cellsInt, List.drop_zero, List.take_succ_cons, List.take_zero, List.drop_succ_cons] at g0 g1 g2 g3 g4 g5 g6 g7
    obtain ⟨x0, rfl, _⟩ := int_f g0
    obtain ⟨x1, rfl, _⟩ := int_f g1
    obtain ⟨x2, rfl, _⟩ := int_f g2
    obtain ⟨x3, rfl, _⟩ := int_f g3
    obtain ⟨x4, rfl, _⟩ := int_f g4
    obtain ⟨x5, rfl, _⟩ := int_f g5
    obtain ⟨x6, rfl, _⟩ := int_f g6
    obtain ⟨x7, rfl, _⟩ := int_f g7
    exact ⟨(x0, x1), x2, x3, (x4, x5), (x6, x7), rfl⟩
end
section
open Go.ChangeAt
set_option maxRecDepth 100000 in
theorem sheetsOne_lifted (os : Os) (started : os.Started) (H : Type) (enc : TypeId × Value → H) :
    ReturnsInHanded {} Try.checked os 4 .any (Rows.sheetsOneSpec.pre6 enc Try.prog Try.f4 Rows.sheetsOneRow.domain false) (Rows.sheetsOneSpec.post enc Try.prog Try.f4 false true false false) := by
  refine returnsInHanded_of_change (C := Try.checked) own_knob started (by kernel_rfl) Try.func4
    (ChangeSpec.witness6 (enc := enc) (C := Try.checked) false ⟨#[], #[.agg #[.int .i64 0, .int .i64 0, .int .i64 0, .int .i64 0, .slice none 0 0, .int .i64 0], .slice none 0 0, .agg #[.int .i64 0, .int .i64 0, .int .i64 0, .int .i64 0, .int .i64 0, .int .i64 0, .int .i64 0, .int .i64 0]], []⟩ 8 (by kernel_rfl) (by kernel_rfl) (by kernel_rfl) (by kernel_rfl)) ?_
  intro W base args ds gs before hval0 hW hcnd _
  have hval : ∀ (j : Nat) t v, Try.f4.params[j]? = some t → args[j]? = some v → Value.okWide Try.prog W .any base t v := hval0
  have hW2 := hW
  obtain ⟨p, q, hA0, hV, rfl, hfz, hnd⟩ := hW
  have hA : DataW.TrodAll enc Try.prog W 0 (fun _ => true) true Try.f4.params.toList args.toList ds p := hA0
  rw [Try.params4] at hA hval
  obtain ⟨v0, v1, v2, d0, d1, d2, p0, p1, p2, rfl, rfl, rfl, h0, h1, h2⟩ := trodAll_three hA; obtain ⟨A, ca, S, rfl, hP0, hl0, hT1, hT2, hT3, hT4, hT5⟩ := open_sheet (hval 0 _ _ rfl rfl) h0; obtain ⟨B, cb, l, rfl, hP1, hl1⟩ := open_points (okWide_slice undPts (hval 1 _ _ rfl rfl)) h1; obtain ⟨xf, xd, xo, xa, xb, rfl⟩ := open_told (hval 2 _ _ rfl rfl) h2
  obtain ⟨rfl, rfl⟩ := trodVars_none hV
  clear hA0 hval0
  simp only [List.append_nil, List.nil_append] at hW2
  (try simp only [List.append_nil, List.nil_append] at hA)
  refine (lawOne_any A B ca cb S l xf xa xb xd xo W hP0 hl0 hP1 hl1).mono fun e W2 ⟨he, hb⟩ => ?_
  subst he
  refine ⟨_, rfl, post_of_below (pa := _) (pv := []) hW2 (fun _ _ _ => trodAll_mk1 (shut_bool und_bool _)) (fun sp hs => args_stay hb (by rw [Try.params4]; intro t ht; simp at ht; (try rcases ht with rfl | rfl | rfl) <;> (try rcases ht with rfl | rfl) <;> (try subst ht) <;> exact ⟨by kernel_rfl, by decide +kernel⟩) (by rw [Try.params4]; exact hA) hs) (fun _ _ => rfl) (by simp) hb (ok_one (by kernel_rfl) rfl (okWide_bool_mk und_bool _))⟩

theorem sheetsOne_holds : Rows.SheetsOneSaid :=
  OpenClaim.holds_of_wide 4 Try.f4 rfl rfl rfl rfl rfl rfl rfl ⟨rfl, rfl, rfl, rfl, rfl⟩ rfl rfl rfl rfl rfl (by kernel_rfl) Try.func4 (by kernel_rfl)
    (of_decide_eq_true (by kernel_rfl)) (by unfold Func.isWrapper; first | (rw [if_pos (by decide +kernel)]; kernel_rfl) | (rw [if_neg (by decide +kernel)]; exact ⟨rfl, rfl⟩))
    (fun os started H enc _ => sheetsOne_lifted os started H enc)
end
end Go.Proofs.Ytegdnbceiopklaa
