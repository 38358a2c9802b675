/- The law SheetsArea answers true for any sheet, polygon and two points, and leaves its arguments as they were. -/
import Derived.Test.YtegdnbceiopklaaGreatWk4
import Derived.Test.YtegdnbceiopklaaGreatCp4
import Derived.Test.YtegdnbceiopklaaGreatRLe4
import Derived.Test.YtegdnbceiopklaaGreatOpt
import Derived.Test.YtegdnbceiopklaaGreatRows
namespace Go.Proofs.YtegdnbceiopklaaGreat
open Go.ChangeShapes Go.WideShapes Go.RowKit
attribute [local go_sem] After.cell After.frozen

theorem rowC_cts {w : World} {B n ca : Nat} {A : Option Addr} {l : List Ctl} (h : RowC w B (.slice A n ca) l) : Cts w A l := by
  obtain ⟨A', ca', e, hN⟩ := h.parts4
  simp only [Value.slice.injEq] at e
  obtain ⟨rfl, _, _⟩ := e
  exact hN
set_option maxRecDepth 100000 in
set_option maxHeartbeats 8000000 in
theorem lawArea_any (A B : Option Addr) (ca cb : Nat) (S : Sht) (l : List Pt) (a b : Pt) (w : World) (ha : Cts w A S.cs) (hla : S.cs.length ≤ 9223372036854775807) (hb : Pts w B l) (hlb : l.length ≤ 9223372036854775807) :
    Calls Tryz.prog 3 #[(Value.agg #[(Value.int .i64 (S.xlo)), (Value.int .i64 (S.xhi)), (Value.int .i64 (S.ylo)), (Value.int .i64 (S.yhi)), .slice A S.cs.length ca, (Value.int .i64 (S.wrong))]), .slice B l.length cb, .agg #[(Value.int .i64 (a.1)), (Value.int .i64 (a.2)), (Value.int .i64 (b.1)), (Value.int .i64 (b.2))]] w fun e w' => e = .returned (.bool true) ∧ Below w.heap.size w w' := by
  have hF := fun (W : World) (h : Below w.heap.size w W) => far4 A ca S W (ha.below h) hla
  have hG := fun (W : World) => Far_any B cb l.length W hlb
  have c1 : Blk ((w.alloc (.cells #[(Value.int .i64 (S.xlo)), (Value.int .i64 (S.xhi)), (Value.int .i64 (S.ylo)), (Value.int .i64 (S.yhi)), .slice A S.cs.length ca, (Value.int .i64 (S.wrong))] 26)).alloc (.cells #[(Value.int .i64 (a.1)), (Value.int .i64 (a.2)), (Value.int .i64 (b.1)), (Value.int .i64 (b.2))] 30)) w.heap.size 26 #[(Value.int .i64 (S.xlo)), (Value.int .i64 (S.xhi)), (Value.int .i64 (S.ylo)), (Value.int .i64 (S.yhi)), .slice A S.cs.length ca, (Value.int .i64 (S.wrong))] := (Blk.new _ _ _).alloc _
  have c2 : Blk ((w.alloc (.cells #[(Value.int .i64 (S.xlo)), (Value.int .i64 (S.xhi)), (Value.int .i64 (S.ylo)), (Value.int .i64 (S.yhi)), .slice A S.cs.length ca, (Value.int .i64 (S.wrong))] 26)).alloc (.cells #[(Value.int .i64 (a.1)), (Value.int .i64 (a.2)), (Value.int .i64 (b.1)), (Value.int .i64 (b.2))] 30)) (w.heap.size + 1) 30 #[(Value.int .i64 (a.1)), (Value.int .i64 (a.2)), (Value.int .i64 (b.1)), (Value.int .i64 (b.2))] := Blk.new_at (by simp)
  have hb0 : Below w.heap.size w ((w.alloc (.cells #[(Value.int .i64 (S.xlo)), (Value.int .i64 (S.xhi)), (Value.int .i64 (S.ylo)), (Value.int .i64 (S.yhi)), .slice A S.cs.length ca, (Value.int .i64 (S.wrong))] 26)).alloc (.cells #[(Value.int .i64 (a.1)), (Value.int .i64 (a.2)), (Value.int .i64 (b.1)), (Value.int .i64 (b.2))] 30)) := by (repeat (first | with_reducible exact Below.refl _ _ | with_reducible apply bl_alloc | with_reducible apply bl_drew | with_reducible apply bl_after | (with_reducible refine bl_call ?_ (by assumption))))
  (have la := c1.lt); (have ya0 := c1.cell 0); (have ya1 := c1.cell 1); (have ya2 := c1.cell 2); (have ya3 := c1.cell 3); (have ya4 := c1.cell 4); (have ya5 := c1.cell 5); simp only [List.getElem?_toArray, List.getElem?_cons_zero, List.getElem?_cons_succ] at ya0 ya1 ya2 ya3 ya4 ya5
  (have lb := c2.lt); (have yb0 := c2.cell 0); (have yb1 := c2.cell 1); (have yb2 := c2.cell 2); (have yb3 := c2.cell 3); simp only [List.getElem?_toArray, List.getElem?_cons_zero, List.getElem?_cons_succ] at yb0 yb1 yb2 yb3
  cases h1 : farB S
  rotate_left
  · rw [h1] at hF
    replace hF := Lib.hid hF
    clear ha hb
    go_enter Tryz.func3, Tryz.ntmps3
    go_wp2_with (first | ((go_at_call 5); (with_reducible refine Calls.mono (hF.out _ (by (repeat (first | with_reducible exact Below.refl _ _ | with_reducible apply bl_alloc | with_reducible apply bl_drew | with_reducible apply bl_after | (with_reducible refine bl_call ?_ (by assumption)))))) ?_); rintro e wn ⟨rfl, hbn⟩; first | ((with_reducible apply kp_in_step (hb := hbn)); (with_reducible assumption); rintro ⟨hk, hc, hf, hzc, hzf⟩) | ((with_reducible refine kp_in_first hbn ?_); rintro ⟨hk, hc, hf, hzc, hzf⟩)) | ((go_at_call 7); (with_reducible refine Calls.mono (works4 _) ?_); rintro e w9 ⟨rfl, hb9⟩; first | ((with_reducible apply kp_in_step (hb := hb9)); (with_reducible assumption); rintro ⟨hk, hc, hf, hzc, hzf⟩) | ((with_reducible refine kp_in_first hb9 ?_); rintro ⟨hk, hc, hf, hzc, hzf⟩)))
    go_ret
    exact ⟨rfl, by (repeat (first | with_reducible exact Below.refl _ _ | with_reducible apply bl_alloc | with_reducible apply bl_drew | with_reducible apply bl_after | (with_reducible refine bl_call ?_ (by assumption))))⟩
  by_cases h2 : 40 < l.length
  · rw [h1] at hF
    rw [decide_eq_true h2] at hG
    replace hF := Lib.hid hF
    replace hG := Lib.hid hG
    clear ha hb
    go_enter Tryz.func3, Tryz.ntmps3
    go_wp2_with (first | ((go_at_call 5); (with_reducible refine Calls.mono (hF.out _ (by (repeat (first | with_reducible exact Below.refl _ _ | with_reducible apply bl_alloc | with_reducible apply bl_drew | with_reducible apply bl_after | (with_reducible refine bl_call ?_ (by assumption)))))) ?_); rintro e wn ⟨rfl, hbn⟩; first | ((with_reducible apply kp_in_step (hb := hbn)); (with_reducible assumption); rintro ⟨hk, hc, hf, hzc, hzf⟩) | ((with_reducible refine kp_in_first hbn ?_); rintro ⟨hk, hc, hf, hzc, hzf⟩)) | (go_at_call 6; with_reducible refine Calls.mono (hG.out _) ?_; rintro e w' ⟨rfl, rfl⟩) | ((go_at_call 7); (with_reducible refine Calls.mono (works4 _) ?_); rintro e w9 ⟨rfl, hb9⟩; first | ((with_reducible apply kp_in_step (hb := hb9)); (with_reducible assumption); rintro ⟨hk, hc, hf, hzc, hzf⟩) | ((with_reducible refine kp_in_first hb9 ?_); rintro ⟨hk, hc, hf, hzc, hzf⟩)))
    go_ret
    exact ⟨rfl, by (repeat (first | with_reducible exact Below.refl _ _ | with_reducible apply bl_alloc | with_reducible apply bl_drew | with_reducible apply bl_after | (with_reducible refine bl_call ?_ (by assumption))))⟩
  have hl8 : S.cs.length ≤ 40 := by
    simp only [farB, Bool.or_eq_false_iff, decide_eq_false_iff_not] at h1
    omega
  rw [h1] at hF
  rw [decide_eq_false h2] at hG
  replace hF := Lib.hid hF
  replace hG := Lib.hid hG
  have hlb2 : l.length ≤ 40 := by omega
  have hCp := Lib.hid fun (W : World) (h : Below w.heap.size w W) => rCopy4 A ca S W (ha.below h) (by omega)
  have hCq := Lib.hid fun (W : World) (h : Below w.heap.size w W) => rCopy_any B cb l W (hb.below h) (by omega)
  clear hla hlb h1 h2
  go_enter Tryz.func3, Tryz.ntmps3
  go_upto_region 4 with (first | ((go_at_call 5); (with_reducible refine Calls.mono (hF.out _ (by (repeat (first | with_reducible exact Below.refl _ _ | with_reducible apply bl_alloc | with_reducible apply bl_drew | with_reducible apply bl_after | (with_reducible refine bl_call ?_ (by assumption)))))) ?_); rintro e wn ⟨rfl, hbn⟩; first | ((with_reducible apply kp_in_step (hb := hbn)); (with_reducible assumption); rintro ⟨hk, hc, hf, hzc, hzf⟩) | ((with_reducible refine kp_in_first hbn ?_); rintro ⟨hk, hc, hf, hzc, hzf⟩)) | (go_at_call 6; with_reducible refine Calls.mono (hG.out _) ?_; rintro e w' ⟨rfl, rfl⟩) | ((go_at_call 8); (with_reducible refine Calls.mono (hCp.out _ (by (repeat (first | with_reducible exact Below.refl _ _ | with_reducible apply bl_alloc | with_reducible apply bl_drew | with_reducible apply bl_after | (with_reducible refine bl_call ?_ (by assumption)))))) ?_); rintro e3 w3 ⟨⟨A3, ca3, rfl, hC3⟩, hb3⟩; first | ((with_reducible apply kp_in_step (hb := hb3)); (with_reducible assumption); rintro ⟨hk, hc, hf, hzc, hzf⟩) | ((with_reducible refine kp_in_first hb3 ?_); rintro ⟨hk, hc, hf, hzc, hzf⟩)) | ((go_at_call 9); (with_reducible refine Calls.mono (hCq.out _ (by (repeat (first | with_reducible exact Below.refl _ _ | with_reducible apply bl_alloc | with_reducible apply bl_drew | with_reducible apply bl_after | (with_reducible refine bl_call ?_ (by assumption)))))) ?_); rintro e4 w4 ⟨⟨A4, ca4, rfl, hP4⟩, hb4⟩; (have hC4 := (rowC_cts hC3).below hb4); first | ((with_reducible apply kp_in_step (hb := hb4)); (with_reducible assumption); rintro ⟨hk, hc, hf, hzc, hzf⟩) | ((with_reducible refine kp_in_first hb4 ?_); rintro ⟨hk, hc, hf, hzc, hzf⟩)))
  have hW4 : Below (((w.alloc (.cells #[(Value.int .i64 (S.xlo)), (Value.int .i64 (S.xhi)), (Value.int .i64 (S.ylo)), (Value.int .i64 (S.yhi)), .slice A S.cs.length ca, (Value.int .i64 (S.wrong))] 26)).alloc (.cells #[(Value.int .i64 (a.1)), (Value.int .i64 (a.2)), (Value.int .i64 (b.1)), (Value.int .i64 (b.2))] 30))).heap.size ((w.alloc (.cells #[(Value.int .i64 (S.xlo)), (Value.int .i64 (S.xhi)), (Value.int .i64 (S.ylo)), (Value.int .i64 (S.yhi)), .slice A S.cs.length ca, (Value.int .i64 (S.wrong))] 26)).alloc (.cells #[(Value.int .i64 (a.1)), (Value.int .i64 (a.2)), (Value.int .i64 (b.1)), (Value.int .i64 (b.2))] 30)) (w4.alloc (.cells #[(Value.int .i64 (S.xlo)), (Value.int .i64 (S.xhi)), (Value.int .i64 (S.ylo)), (Value.int .i64 (S.yhi)), .slice A3 S.cs.length ca3, (Value.int .i64 (S.wrong))] 26)) := by (repeat (first | with_reducible exact Below.refl _ _ | with_reducible apply bl_alloc | with_reducible apply bl_drew | with_reducible apply bl_after | (with_reducible refine bl_call ?_ (by assumption))))
  have e1 := c1.below hW4
  have e2 := c2.below hW4
  have e7 := Blk.new w4 26 #[(Value.int .i64 (S.xlo)), (Value.int .i64 (S.xhi)), (Value.int .i64 (S.ylo)), (Value.int .i64 (S.yhi)), .slice A3 S.cs.length ca3, (Value.int .i64 (S.wrong))]
  have hbV := bl_call hb0 hW4
  have hA := ha.below hbV
  have hB := hb.below hbV
  have hA3 := hC4.alloc (.cells #[(Value.int .i64 (S.xlo)), (Value.int .i64 (S.xhi)), (Value.int .i64 (S.ylo)), (Value.int .i64 (S.yhi)), .slice A3 S.cs.length ca3, (Value.int .i64 (S.wrong))] 26)
  have hB4 := hP4.alloc (.cells #[(Value.int .i64 (S.xlo)), (Value.int .i64 (S.xhi)), (Value.int .i64 (S.ylo)), (Value.int .i64 (S.yhi)), .slice A3 S.cs.length ca3, (Value.int .i64 (S.wrong))] 26)
  clear la ya0 ya1 ya2 ya3 ya4 ya5 lb yb0 yb1 yb2 yb3 c1 c2 hb0 hW4 hbn hb3 hb4 ha hb hF hG hC3 hC4 hP4 hCp hCq
  ((try clear hk hc hf hzc hzf); (try clear hk hc hf hzc hzf); (try clear hk hc hf hzc hzf); (try clear hk hc hf hzc hzf))
  generalize w4.alloc (.cells #[(Value.int .i64 (S.xlo)), (Value.int .i64 (S.xhi)), (Value.int .i64 (S.ylo)), (Value.int .i64 (S.yhi)), .slice A3 S.cs.length ca3, (Value.int .i64 (S.wrong))] 26) = W1 at *
  generalize w4.heap.size = g7 at *
  (have la := e1.lt); (have ya0 := e1.cell 0); (have ya1 := e1.cell 1); (have ya2 := e1.cell 2); (have ya3 := e1.cell 3); (have ya4 := e1.cell 4); (have ya5 := e1.cell 5); simp only [List.getElem?_toArray, List.getElem?_cons_zero, List.getElem?_cons_succ] at ya0 ya1 ya2 ya3 ya4 ya5
  (have lb := e2.lt); (have yb0 := e2.cell 0); (have yb1 := e2.cell 1); (have yb2 := e2.cell 2); (have yb3 := e2.cell 3); simp only [List.getElem?_toArray, List.getElem?_cons_zero, List.getElem?_cons_succ] at yb0 yb1 yb2 yb3
  (have lc := e7.lt); (have yc0 := e7.cell 0); (have yc1 := e7.cell 1); (have yc2 := e7.cell 2); (have yc3 := e7.cell 3); (have yc4 := e7.cell 4); (have yc5 := e7.cell 5); simp only [List.getElem?_toArray, List.getElem?_cons_zero, List.getElem?_cons_succ] at yc0 yc1 yc2 yc3 yc4 yc5
  have hA1 := Lib.hid fun (V : World) (h : Below W1.heap.size W1 V) => Area_any A3 A4 ca3 ca4 S l V (hA3.below h) (hB4.below h) (by omega)
  have hR1 := Lib.hid fun (V : World) (h : Below W1.heap.size W1 V) => rArea4 A B ca cb S l V (hA.below h) (hB.below h) (by omega)
  have hL1 := Lib.hid fun (V : World) (h : Below W1.heap.size W1 V) => Length_any A3 ca3 S a b V (hA3.below h)
  have hQ1 := Lib.hid fun (V : World) (h : Below W1.heap.size W1 V) => rLength4 A ca S a b V (hA.below h)
  have hSm := Lib.hid fun (V : World) (h : Below W1.heap.size W1 V) => same4 A3 A ca3 ca S V (hA3.below h) (hA.below h) (by omega)
  have hSp := Lib.hid fun (V : World) (h : Below W1.heap.size W1 V) => (by
    have h5 := Same_any A4 B ca4 cb l l V (hB4.below h) (hB.below h) (by omega) (by omega)
    rw [decide_eq_true rfl] at h5
    exact h5 : Calls Tryz.prog 15 #[.slice A4 l.length ca4, .slice B l.length cb] V fun e w' => e = .returned (.bool true) ∧ Below V.heap.size V w')
  generalize arLo S l = alo at *
  generalize arHi S l = ahi at *
  generalize arE S l true = are at *
  generalize lnLo S a b = llo at *
  generalize lnHi S a b = lhi at *
  generalize lnE S a b = lne at *
  clear hA hB hA3 hB4
  have hV0 : Below W1.heap.size W1 W1 := Below.refl _ _
  go_upto_region 5 with ((go_at_call 10); (with_reducible refine Calls.mono (hA1.out _ hV0) ?_); rintro e5 w5 ⟨rfl, hb5⟩; first | ((with_reducible apply kp_in_step (hb := hb5)); (with_reducible assumption); rintro ⟨hk, hc, hf, hzc, hzf⟩) | ((with_reducible refine kp_in_first hb5 ?_); rintro ⟨hk, hc, hf, hzc, hzf⟩))
  (have hW : Below _ _ (w5.alloc (.cells #[(Value.int .i64 (alo)), (Value.int .i64 (ahi))] 23)) := bl_alloc hb5); replace e1 := e1.below hW; replace e2 := e2.below hW; replace e7 := e7.below hW; (have hV5 := bl_alloc (o := (.cells #[(Value.int .i64 (alo)), (Value.int .i64 (ahi))] 23)) (bl_call hV0 hb5)); (have s5 := Blk.new w5 23 #[(Value.int .i64 (alo)), (Value.int .i64 (ahi))]); clear hW
  clear la ya0 ya1 ya2 ya3 ya4 ya5 lb yb0 yb1 yb2 yb3 lc yc0 yc1 yc2 yc3 yc4 yc5 hb5 hV0 hA1
  ((try clear hk hc hf hzc hzf); (try clear hk hc hf hzc hzf); (try clear hk hc hf hzc hzf); (try clear hk hc hf hzc hzf))
  generalize w5.alloc (.cells #[(Value.int .i64 (alo)), (Value.int .i64 (ahi))] 23) = W2 at *
  generalize w5.heap.size = g5 at *
  (have la := e1.lt); (have ya0 := e1.cell 0); (have ya1 := e1.cell 1); (have ya2 := e1.cell 2); (have ya3 := e1.cell 3); (have ya4 := e1.cell 4); (have ya5 := e1.cell 5); simp only [List.getElem?_toArray, List.getElem?_cons_zero, List.getElem?_cons_succ] at ya0 ya1 ya2 ya3 ya4 ya5
  go_upto_region 6 with ((go_at_call 11); (with_reducible refine Calls.mono (hR1.out _ hV5) ?_); rintro e6 w6 ⟨rfl, hb6⟩; first | ((with_reducible apply kp_in_step (hb := hb6)); (with_reducible assumption); rintro ⟨hk, hc, hf, hzc, hzf⟩) | ((with_reducible refine kp_in_first hb6 ?_); rintro ⟨hk, hc, hf, hzc, hzf⟩))
  have hW6 : Below W2.heap.size W2 (w6.alloc (.cells #[(Value.int .i64 (alo)), (Value.int .i64 (ahi))] 23)) := bl_alloc hb6
  replace s5 := s5.below hW6
  clear hW6
  (have hW : Below _ _ (w6.alloc (.cells #[(Value.int .i64 (alo)), (Value.int .i64 (ahi))] 23)) := bl_alloc hb6); replace e1 := e1.below hW; replace e2 := e2.below hW; replace e7 := e7.below hW; (have hV6 := bl_alloc (o := (.cells #[(Value.int .i64 (alo)), (Value.int .i64 (ahi))] 23)) (bl_call hV5 hb6)); (have s6 := Blk.new w6 23 #[(Value.int .i64 (alo)), (Value.int .i64 (ahi))]); clear hW
  clear la ya0 ya1 ya2 ya3 ya4 ya5 hb6 hV5 hR1
  ((try clear hk hc hf hzc hzf); (try clear hk hc hf hzc hzf); (try clear hk hc hf hzc hzf); (try clear hk hc hf hzc hzf))
  generalize w6.alloc (.cells #[(Value.int .i64 (alo)), (Value.int .i64 (ahi))] 23) = W3 at *
  generalize w6.heap.size = g6 at *
  (have lb := e2.lt); (have yb0 := e2.cell 0); (have yb1 := e2.cell 1); (have yb2 := e2.cell 2); (have yb3 := e2.cell 3); simp only [List.getElem?_toArray, List.getElem?_cons_zero, List.getElem?_cons_succ] at yb0 yb1 yb2 yb3
  (have lc := e7.lt); (have yc0 := e7.cell 0); (have yc1 := e7.cell 1); (have yc2 := e7.cell 2); (have yc3 := e7.cell 3); (have yc4 := e7.cell 4); (have yc5 := e7.cell 5); simp only [List.getElem?_toArray, List.getElem?_cons_zero, List.getElem?_cons_succ] at yc0 yc1 yc2 yc3 yc4 yc5
  go_upto_region 7 with ((go_at_call 12); (with_reducible refine Calls.mono (hL1.out _ hV6) ?_); rintro e8 w8 ⟨rfl, hb8⟩; first | ((with_reducible apply kp_in_step (hb := hb8)); (with_reducible assumption); rintro ⟨hk, hc, hf, hzc, hzf⟩) | ((with_reducible refine kp_in_first hb8 ?_); rintro ⟨hk, hc, hf, hzc, hzf⟩))
  have hW8 : Below W3.heap.size W3 (w8.alloc (.cells #[(Value.int .i64 (llo)), (Value.int .i64 (lhi))] 23)) := bl_alloc hb8
  replace s5 := s5.below hW8
  replace s6 := s6.below hW8
  clear hW8
  (have hW : Below _ _ (w8.alloc (.cells #[(Value.int .i64 (llo)), (Value.int .i64 (lhi))] 23)) := bl_alloc hb8); replace e1 := e1.below hW; replace e2 := e2.below hW; replace e7 := e7.below hW; (have hV8 := bl_alloc (o := (.cells #[(Value.int .i64 (llo)), (Value.int .i64 (lhi))] 23)) (bl_call hV6 hb8)); (have s8 := Blk.new w8 23 #[(Value.int .i64 (llo)), (Value.int .i64 (lhi))]); clear hW
  clear lb yb0 yb1 yb2 yb3 lc yc0 yc1 yc2 yc3 yc4 yc5 hb8 hV6 hL1
  ((try clear hk hc hf hzc hzf); (try clear hk hc hf hzc hzf); (try clear hk hc hf hzc hzf); (try clear hk hc hf hzc hzf))
  generalize w8.alloc (.cells #[(Value.int .i64 (llo)), (Value.int .i64 (lhi))] 23) = W5 at *
  generalize w8.heap.size = g8 at *
  (have la := e1.lt); (have ya0 := e1.cell 0); (have ya1 := e1.cell 1); (have ya2 := e1.cell 2); (have ya3 := e1.cell 3); (have ya4 := e1.cell 4); (have ya5 := e1.cell 5); simp only [List.getElem?_toArray, List.getElem?_cons_zero, List.getElem?_cons_succ] at ya0 ya1 ya2 ya3 ya4 ya5
  (have lb := e2.lt); (have yb0 := e2.cell 0); (have yb1 := e2.cell 1); (have yb2 := e2.cell 2); (have yb3 := e2.cell 3); simp only [List.getElem?_toArray, List.getElem?_cons_zero, List.getElem?_cons_succ] at yb0 yb1 yb2 yb3
  go_upto_region 8 with ((go_at_call 13); (with_reducible refine Calls.mono (hQ1.out _ hV8) ?_); rintro e9 w9 ⟨rfl, hb9⟩; first | ((with_reducible apply kp_in_step (hb := hb9)); (with_reducible assumption); rintro ⟨hk, hc, hf, hzc, hzf⟩) | ((with_reducible refine kp_in_first hb9 ?_); rintro ⟨hk, hc, hf, hzc, hzf⟩))
  have hW9 : Below W5.heap.size W5 (w9.alloc (.cells #[(Value.int .i64 (llo)), (Value.int .i64 (lhi))] 23)) := bl_alloc hb9
  replace s5 := s5.below hW9
  replace s6 := s6.below hW9
  replace s8 := s8.below hW9
  clear hW9
  (have hW : Below _ _ (w9.alloc (.cells #[(Value.int .i64 (llo)), (Value.int .i64 (lhi))] 23)) := bl_alloc hb9); replace e1 := e1.below hW; replace e2 := e2.below hW; replace e7 := e7.below hW; (have hV9 := bl_alloc (o := (.cells #[(Value.int .i64 (llo)), (Value.int .i64 (lhi))] 23)) (bl_call hV8 hb9)); (have s9 := Blk.new w9 23 #[(Value.int .i64 (llo)), (Value.int .i64 (lhi))]); clear hW
  clear la ya0 ya1 ya2 ya3 ya4 ya5 lb yb0 yb1 yb2 yb3 hb9 hV8 hQ1
  ((try clear hk hc hf hzc hzf); (try clear hk hc hf hzc hzf); (try clear hk hc hf hzc hzf); (try clear hk hc hf hzc hzf))
  generalize w9.alloc (.cells #[(Value.int .i64 (llo)), (Value.int .i64 (lhi))] 23) = W6 at *
  generalize w9.heap.size = g9 at *
  (have la := e1.lt); (have ya0 := e1.cell 0); (have ya1 := e1.cell 1); (have ya2 := e1.cell 2); (have ya3 := e1.cell 3); (have ya4 := e1.cell 4); (have ya5 := e1.cell 5); simp only [List.getElem?_toArray, List.getElem?_cons_zero, List.getElem?_cons_succ] at ya0 ya1 ya2 ya3 ya4 ya5
  (have lc := e7.lt); (have yc0 := e7.cell 0); (have yc1 := e7.cell 1); (have yc2 := e7.cell 2); (have yc3 := e7.cell 3); (have yc4 := e7.cell 4); (have yc5 := e7.cell 5); simp only [List.getElem?_toArray, List.getElem?_cons_zero, List.getElem?_cons_succ] at yc0 yc1 yc2 yc3 yc4 yc5
  (have ld := s5.lt); (have yd0 := s5.cell 0); (have yd1 := s5.cell 1); simp only [List.getElem?_toArray, List.getElem?_cons_zero, List.getElem?_cons_succ] at yd0 yd1
  (have le := s6.lt); (have ye0 := s6.cell 0); (have ye1 := s6.cell 1); simp only [List.getElem?_toArray, List.getElem?_cons_zero, List.getElem?_cons_succ] at ye0 ye1
  (have lf := s8.lt); (have yf0 := s8.cell 0); (have yf1 := s8.cell 1); simp only [List.getElem?_toArray, List.getElem?_cons_zero, List.getElem?_cons_succ] at yf0 yf1
  (have lg := s9.lt); (have yg0 := s9.cell 0); (have yg1 := s9.cell 1); simp only [List.getElem?_toArray, List.getElem?_cons_zero, List.getElem?_cons_succ] at yg0 yg1
  go_wp2_with (first | ((go_at_call 14); (with_reducible refine Calls.mono (hSm.out _ hV9) ?_); rintro e20 w20 ⟨rfl, hb20⟩; (have hV20 := bl_call hV9 hb20); first | ((with_reducible apply kp_in_step (hb := hb20)); (with_reducible assumption); rintro ⟨hk, hc, hf, hzc, hzf⟩) | ((with_reducible refine kp_in_first hb20 ?_); rintro ⟨hk, hc, hf, hzc, hzf⟩)) | ((go_at_call 15); (with_reducible refine Calls.mono (hSp.out _ hV20) ?_); rintro e21 w21 ⟨rfl, hb21⟩; (have hV21 := bl_call hV20 hb21); first | ((with_reducible apply kp_in_step (hb := hb21)); (with_reducible assumption); rintro ⟨hk, hc, hf, hzc, hzf⟩) | ((with_reducible refine kp_in_first hb21 ?_); rintro ⟨hk, hc, hf, hzc, hzf⟩)) | ((go_at_call 7); (with_reducible refine Calls.mono (works4 _) ?_); rintro e22 w22 ⟨rfl, hb22⟩; (have hV22 := bl_call hV21 hb22); first | ((with_reducible apply kp_in_step (hb := hb22)); (with_reducible assumption); rintro ⟨hk, hc, hf, hzc, hzf⟩) | ((with_reducible refine kp_in_first hb22 ?_); rintro ⟨hk, hc, hf, hzc, hzf⟩)))
  go_ret
  exact ⟨rfl, bl_call hbV hV22⟩

section
open Go.ChangeAt
set_option maxRecDepth 100000 in
theorem sheetsArea_lifted (os : Os) (started : os.Started) (H : Type) (enc : TypeId × Value → H) :
    ReturnsInHanded {} Tryz.checked os 3 .any (Rows.sheetsAreaSpec.pre6 enc Tryz.prog Tryz.f3 Rows.sheetsAreaRow.domain false) (Rows.sheetsAreaSpec.post enc Tryz.prog Tryz.f3 false true false false) := by
  refine returnsInHanded_of_change (C := Tryz.checked) own_knob started (by kernel_rfl) Tryz.func3
    (ChangeSpec.witness6 (enc := enc) (C := Tryz.checked) false ⟨#[], #[.agg #[.int .i64 0, .int .i64 0, .int .i64 0, .int .i64 0, .slice none 0 0, .int .i64 0], .slice none 0 0, .agg #[.int .i64 0, .int .i64 0, .int .i64 0, .int .i64 0]], []⟩ 8 (by kernel_rfl) (by kernel_rfl) (by kernel_rfl) (by kernel_rfl)) ?_
  intro W base args ds gs before hval0 hW hcnd _
  have hval : ∀ (j : Nat) t v, Tryz.f3.params[j]? = some t → args[j]? = some v → Value.okWide Tryz.prog W .any base t v := hval0
  have hW2 := hW
  obtain ⟨p, q, hA0, hV, rfl, hfz, hnd⟩ := hW
  have hA : DataW.TrodAll enc Tryz.prog W 0 (fun _ => true) true Tryz.f3.params.toList args.toList ds p := hA0
  rw [Tryz.params3] at hA hval
  obtain ⟨v0, v1, v2, d0, d1, d2, p0, p1, p2, rfl, rfl, rfl, h0, h1, h2⟩ := trodAll_three hA; obtain ⟨A, ca, S, rfl, hP0, hl0, hT1, hT2, hT3, hT4, hT5⟩ := open_sheet (hval 0 _ _ rfl rfl) h0; obtain ⟨B, cb, l, rfl, hP1, hl1⟩ := open_points (okWide_slice undPts (hval 1 _ _ rfl rfl)) h1; obtain ⟨xa, xb, rfl⟩ := open_two (hval 2 _ _ rfl rfl) h2
  obtain ⟨rfl, rfl⟩ := trodVars_none hV
  clear hA0 hval0
  simp only [List.append_nil, List.nil_append] at hW2
  (try simp only [List.append_nil, List.nil_append] at hA)
  refine (lawArea_any A B ca cb S l xa xb W hP0 hl0 hP1 hl1).mono fun e W2 ⟨he, hb⟩ => ?_
  subst he
  refine ⟨_, rfl, post_of_below (pa := _) (pv := []) hW2 (fun _ _ _ => trodAll_mk1 (shut_bool und_bool _)) (fun sp hs => args_stay hb (by rw [Tryz.params3]; intro t ht; simp at ht; (try rcases ht with rfl | rfl | rfl) <;> (try rcases ht with rfl | rfl) <;> (try subst ht) <;> exact ⟨by kernel_rfl, by decide +kernel⟩) (by rw [Tryz.params3]; exact hA) hs) (fun _ _ => rfl) (by simp) hb (ok_one (by kernel_rfl) rfl (okWide_bool_mk und_bool _))⟩

theorem sheetsArea_holds : Rows.SheetsAreaSaid :=
  OpenClaim.holds_of_wide 3 Tryz.f3 rfl rfl rfl rfl rfl rfl rfl ⟨rfl, rfl, rfl, rfl, rfl⟩ rfl rfl rfl rfl rfl (by kernel_rfl) Tryz.func3 (by kernel_rfl)
    (of_decide_eq_true (by kernel_rfl)) (by unfold Func.isWrapper; first | (rw [if_pos (by decide +kernel)]; kernel_rfl) | (rw [if_neg (by decide +kernel)]; exact ⟨rfl, rfl⟩))
    (fun os started H enc _ => sheetsArea_lifted os started H enc)
end
end Go.Proofs.YtegdnbceiopklaaGreat
