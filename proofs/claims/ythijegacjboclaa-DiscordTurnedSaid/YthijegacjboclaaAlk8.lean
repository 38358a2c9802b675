/- The function alike of the laws of disputes: two disputes that say the same are answered the same. -/
import Derived.Test.YthijegacjboclaaJPu8
import Derived.Test.YthijegacjboclaaLa8
import Derived.Test.YthijegacjboclaaCnW
namespace Go.Proofs.Ythijegacjboclaa
open Go.RowKit
attribute [local go_sem] After.cell After.frozen
section
variable (A B C P Q R : Option Addr) (ca cb cc pa pb pc : Nat) (D E : Dsp) (w : World) (ha : Pts w A D.cs) (hb : Ints w B D.offs) (hc : Wks w C D.wks) (hp : Pts w P E.cs) (hq : Ints w Q E.offs) (hr : Wks w R E.wks)
include ha hb hc hp hq hr
set_option maxRecDepth 100000 in
set_option maxHeartbeats 4000000 in
theorem alike8_any (k : Int) (h : Same8 D E) (hl : (arV D k).length ≤ 1000000) :
    Calls Try.prog 18 #[(Value.agg #[.slice A D.cs.length ca, .slice B D.offs.length cb, (Value.int .i64 (D.unit)), (Value.int .i64 (D.wh.full)), (Value.int .i64 (D.wh.read)), (Value.int .i64 (D.wh.slip)), (Value.int .i64 (D.wh.skew)), (Value.int .i64 (D.wh.circle)), (Value.int .i64 (D.wh.glo)), (Value.int .i64 (D.wh.ghi)), (Value.int .i64 (D.wh.wrong)), .slice C D.wks.length cc]), (Value.agg #[.slice P E.cs.length pa, .slice Q E.offs.length pb, (Value.int .i64 (E.unit)), (Value.int .i64 (E.wh.full)), (Value.int .i64 (E.wh.read)), (Value.int .i64 (E.wh.slip)), (Value.int .i64 (E.wh.skew)), (Value.int .i64 (E.wh.circle)), (Value.int .i64 (E.wh.glo)), (Value.int .i64 (E.wh.ghi)), (Value.int .i64 (E.wh.wrong)), .slice R E.wks.length pc]), (Value.int .i64 (k))] w fun e w' => e = .returned (.bool true) ∧ Below w.heap.size w w' := by
  have e0 : Blk ((w.alloc (.cells #[.slice A D.cs.length ca, .slice B D.offs.length cb, (Value.int .i64 (D.unit)), (Value.int .i64 (D.wh.full)), (Value.int .i64 (D.wh.read)), (Value.int .i64 (D.wh.slip)), (Value.int .i64 (D.wh.skew)), (Value.int .i64 (D.wh.circle)), (Value.int .i64 (D.wh.glo)), (Value.int .i64 (D.wh.ghi)), (Value.int .i64 (D.wh.wrong)), .slice C D.wks.length cc] 30)).alloc (.cells #[.slice P E.cs.length pa, .slice Q E.offs.length pb, (Value.int .i64 (E.unit)), (Value.int .i64 (E.wh.full)), (Value.int .i64 (E.wh.read)), (Value.int .i64 (E.wh.slip)), (Value.int .i64 (E.wh.skew)), (Value.int .i64 (E.wh.circle)), (Value.int .i64 (E.wh.glo)), (Value.int .i64 (E.wh.ghi)), (Value.int .i64 (E.wh.wrong)), .slice R E.wks.length pc] 30)) w.heap.size 30 #[.slice A D.cs.length ca, .slice B D.offs.length cb, (Value.int .i64 (D.unit)), (Value.int .i64 (D.wh.full)), (Value.int .i64 (D.wh.read)), (Value.int .i64 (D.wh.slip)), (Value.int .i64 (D.wh.skew)), (Value.int .i64 (D.wh.circle)), (Value.int .i64 (D.wh.glo)), (Value.int .i64 (D.wh.ghi)), (Value.int .i64 (D.wh.wrong)), .slice C D.wks.length cc] := (Blk.new _ _ _).alloc _
  have e1 : Blk ((w.alloc (.cells #[.slice A D.cs.length ca, .slice B D.offs.length cb, (Value.int .i64 (D.unit)), (Value.int .i64 (D.wh.full)), (Value.int .i64 (D.wh.read)), (Value.int .i64 (D.wh.slip)), (Value.int .i64 (D.wh.skew)), (Value.int .i64 (D.wh.circle)), (Value.int .i64 (D.wh.glo)), (Value.int .i64 (D.wh.ghi)), (Value.int .i64 (D.wh.wrong)), .slice C D.wks.length cc] 30)).alloc (.cells #[.slice P E.cs.length pa, .slice Q E.offs.length pb, (Value.int .i64 (E.unit)), (Value.int .i64 (E.wh.full)), (Value.int .i64 (E.wh.read)), (Value.int .i64 (E.wh.slip)), (Value.int .i64 (E.wh.skew)), (Value.int .i64 (E.wh.circle)), (Value.int .i64 (E.wh.glo)), (Value.int .i64 (E.wh.ghi)), (Value.int .i64 (E.wh.wrong)), .slice R E.wks.length pc] 30)) (w.heap.size + 1) 30 #[.slice P E.cs.length pa, .slice Q E.offs.length pb, (Value.int .i64 (E.unit)), (Value.int .i64 (E.wh.full)), (Value.int .i64 (E.wh.read)), (Value.int .i64 (E.wh.slip)), (Value.int .i64 (E.wh.skew)), (Value.int .i64 (E.wh.circle)), (Value.int .i64 (E.wh.glo)), (Value.int .i64 (E.wh.ghi)), (Value.int .i64 (E.wh.wrong)), .slice R E.wks.length pc] := blk_new_at (by simp)
  have hF := fun (W : World) (h : Below w.heap.size w W) => Fewest_any8 A B C ca cb cc D W (ha.below h) (hb.below h) (hc.below h)
  have hF2 := fun (W : World) (h : Below w.heap.size w W) => Fewest_any8 P Q R pa pb pc E W (hp.below h) (hq.below h) (hr.below h)
  have hA := fun (W : World) (h : Below w.heap.size w W) => Areas_any8 A B C ca cb cc D k W (ha.below h) (hb.below h) (hc.below h)
  have hA2 := fun (W : World) (h : Below w.heap.size w W) => Areas_any8 P Q R pa pb pc E k W (hp.below h) (hq.below h) (hr.below h)
  have hC := fun (W : World) (h : Below w.heap.size w W) => Corners_any8 A B C ca cb cc D W (ha.below h) (hb.below h) (hc.below h)
  have hC2 := fun (W : World) (h : Below w.heap.size w W) => Corners_any8 P Q R pa pb pc E W (hp.below h) (hq.below h) (hr.below h)
  have hW := fun (W : World) (h : Below w.heap.size w W) => Walks_any8 A B C ca cb cc D W (ha.below h) (hb.below h) (hc.below h)
  have hW2 := fun (W : World) (h : Below w.heap.size w W) => Walks_any8 P Q R pa pb pc E W (hp.below h) (hq.below h) (hr.below h)
  rw [h.fv, h.fe] at hF2
  rw [h.av k, h.ae k] at hA2
  rw [h.cv, h.ce] at hC2
  rw [h.wv, h.we] at hW2
  clear h ha hb hc hp hq hr
  generalize lsV D (fwO D) = x1 at *
  generalize lsE D (fwO D) = x2 at *
  generalize lsV D (cnO D) = x3 at *
  generalize lsE D (cnO D) = x4 at *
  generalize lsV D (wlO D) = x5 at *
  generalize lsE D (wlO D) = x6 at *
  generalize arV D k = L at *
  generalize arE D k = x7 at *
  have hS := Lib.hid fun (a b : Option Addr) (c d : Nat) (V : World) (h1 : Ints V a L) (h2 : Ints V b L) => (by
    have h := sameInts8 a b c d L L V h1 h2 hl hl
    rw [decide_eq_true rfl] at h
    exact h : Calls Try.prog 22 #[.slice a L.length c, .slice b L.length d] V fun e w' => e = .returned (.bool true) ∧ Below V.heap.size V w')
  replace hF := Lib.hid hF
  replace hF2 := Lib.hid hF2
  replace hA := Lib.hid hA
  replace hA2 := Lib.hid hA2
  replace hC := Lib.hid hC
  replace hC2 := Lib.hid hC2
  replace hW := Lib.hid hW
  replace hW2 := Lib.hid hW2
  (have la := e0.lt); (have ya0 := e0.cell 0); (have ya1 := e0.cell 1); (have ya2 := e0.cell 2); (have ya3 := e0.cell 3); (have ya4 := e0.cell 4); (have ya5 := e0.cell 5); (have ya6 := e0.cell 6); (have ya7 := e0.cell 7); (have ya8 := e0.cell 8); (have ya9 := e0.cell 9); (have ya10 := e0.cell 10); (have ya11 := e0.cell 11); simp only [List.getElem?_toArray, List.getElem?_cons_zero, List.getElem?_cons_succ] at ya0 ya1 ya2 ya3 ya4 ya5 ya6 ya7 ya8 ya9 ya10 ya11
  (have lb := e1.lt); (have yb0 := e1.cell 0); (have yb1 := e1.cell 1); (have yb2 := e1.cell 2); (have yb3 := e1.cell 3); (have yb4 := e1.cell 4); (have yb5 := e1.cell 5); (have yb6 := e1.cell 6); (have yb7 := e1.cell 7); (have yb8 := e1.cell 8); (have yb9 := e1.cell 9); (have yb10 := e1.cell 10); (have yb11 := e1.cell 11); simp only [List.getElem?_toArray, List.getElem?_cons_zero, List.getElem?_cons_succ] at yb0 yb1 yb2 yb3 yb4 yb5 yb6 yb7 yb8 yb9 yb10 yb11
  clear e0 e1 hl
  go_enter Try.func18, Try.ntmps18
  go_upto_region 5 with (first | ((go_at_call 9); (with_reducible refine Calls.mono (hF.out _ (by (repeat (first | with_reducible exact Below.refl _ _ | with_reducible apply bl_alloc | with_reducible apply bl_drew | with_reducible apply bl_after | (with_reducible refine bl_call ?_ (by assumption)))))) ?_); rintro e wn ⟨rfl, hbn⟩; first | ((with_reducible apply kp_in_step (hb := hbn)); (with_reducible assumption); rintro ⟨hk, hc, hf, hzc, hzf⟩) | ((with_reducible refine kp_in_first hbn ?_); rintro ⟨hk, hc, hf, hzc, hzf⟩)) | ((go_at_call 9); (with_reducible refine Calls.mono (hF2.out _ (by (repeat (first | with_reducible exact Below.refl _ _ | with_reducible apply bl_alloc | with_reducible apply bl_drew | with_reducible apply bl_after | (with_reducible refine bl_call ?_ (by assumption)))))) ?_); rintro e wn ⟨rfl, hbn⟩; first | ((with_reducible apply kp_in_step (hb := hbn)); (with_reducible assumption); rintro ⟨hk, hc, hf, hzc, hzf⟩) | ((with_reducible refine kp_in_first hbn ?_); rintro ⟨hk, hc, hf, hzc, hzf⟩)) | ((go_at_call 12); (with_reducible refine Calls.mono (hA.out _ (by (repeat (first | with_reducible exact Below.refl _ _ | with_reducible apply bl_alloc | with_reducible apply bl_drew | with_reducible apply bl_after | (with_reducible refine bl_call ?_ (by assumption)))))) ?_); rintro e4 w4 ⟨⟨A7, a7, rfl, hi7⟩, hb7⟩; first | ((with_reducible apply kp_in_step (hb := hb7)); (with_reducible assumption); rintro ⟨hk, hc, hf, hzc, hzf⟩) | ((with_reducible refine kp_in_first hb7 ?_); rintro ⟨hk, hc, hf, hzc, hzf⟩)) | ((go_at_call 12); (with_reducible refine Calls.mono (hA2.out _ (by (repeat (first | with_reducible exact Below.refl _ _ | with_reducible apply bl_alloc | with_reducible apply bl_drew | with_reducible apply bl_after | (with_reducible refine bl_call ?_ (by assumption)))))) ?_); rintro e5 w5 ⟨⟨A8, a8, rfl, hi8⟩, hb8⟩; (have hi9 := hi7.below hb8); first | ((with_reducible apply kp_in_step (hb := hb8)); (with_reducible assumption); rintro ⟨hk, hc, hf, hzc, hzf⟩) | ((with_reducible refine kp_in_first hb8 ?_); rintro ⟨hk, hc, hf, hzc, hzf⟩)))
  have hb5 : Below w.heap.size w w5 := by (repeat (first | with_reducible exact Below.refl _ _ | with_reducible apply bl_alloc | with_reducible apply bl_drew | with_reducible apply bl_after | (with_reducible refine bl_call ?_ (by assumption))))
  have HI := Lib.hid (And.intro hi9 hi8)
  clear hi9 hi8 hi7
  go_wp2_with (first | ((go_at_call 16); (with_reducible refine Calls.mono (hC.out _ (by (repeat (first | with_reducible exact Below.refl _ _ | with_reducible apply bl_alloc | with_reducible apply bl_drew | with_reducible apply bl_after | (with_reducible refine bl_call ?_ (by assumption)))))) ?_); rintro e wn ⟨rfl, hbn⟩; first | ((with_reducible apply kp_in_step (hb := hbn)); (with_reducible assumption); rintro ⟨hk, hc, hf, hzc, hzf⟩) | ((with_reducible refine kp_in_first hbn ?_); rintro ⟨hk, hc, hf, hzc, hzf⟩)) | ((go_at_call 16); (with_reducible refine Calls.mono (hC2.out _ (by (repeat (first | with_reducible exact Below.refl _ _ | with_reducible apply bl_alloc | with_reducible apply bl_drew | with_reducible apply bl_after | (with_reducible refine bl_call ?_ (by assumption)))))) ?_); rintro e wn ⟨rfl, hbn⟩; first | ((with_reducible apply kp_in_step (hb := hbn)); (with_reducible assumption); rintro ⟨hk, hc, hf, hzc, hzf⟩) | ((with_reducible refine kp_in_first hbn ?_); rintro ⟨hk, hc, hf, hzc, hzf⟩)) | ((go_at_call 17); (with_reducible refine Calls.mono (hW.out _ (by (repeat (first | with_reducible exact Below.refl _ _ | with_reducible apply bl_alloc | with_reducible apply bl_drew | with_reducible apply bl_after | (with_reducible refine bl_call ?_ (by assumption)))))) ?_); rintro e wn ⟨rfl, hbn⟩; first | ((with_reducible apply kp_in_step (hb := hbn)); (with_reducible assumption); rintro ⟨hk, hc, hf, hzc, hzf⟩) | ((with_reducible refine kp_in_first hbn ?_); rintro ⟨hk, hc, hf, hzc, hzf⟩)) | ((go_at_call 17); (with_reducible refine Calls.mono (hW2.out _ (by (repeat (first | with_reducible exact Below.refl _ _ | with_reducible apply bl_alloc | with_reducible apply bl_drew | with_reducible apply bl_after | (with_reducible refine bl_call ?_ (by assumption)))))) ?_); rintro e wn ⟨rfl, hbn⟩; first | ((with_reducible apply kp_in_step (hb := hbn)); (with_reducible assumption); rintro ⟨hk, hc, hf, hzc, hzf⟩) | ((with_reducible refine kp_in_first hbn ?_); rintro ⟨hk, hc, hf, hzc, hzf⟩)) | ((go_at_call 22); (with_reducible refine Calls.mono (hS.out A7 A8 a7 a8 _ (HI.out.1.below (by (repeat (first | with_reducible exact Below.refl _ _ | with_reducible apply bl_alloc | with_reducible apply bl_drew | with_reducible apply bl_after | (with_reducible refine bl_call ?_ (by assumption)))))) (HI.out.2.below (by (repeat (first | with_reducible exact Below.refl _ _ | with_reducible apply bl_alloc | with_reducible apply bl_drew | with_reducible apply bl_after | (with_reducible refine bl_call ?_ (by assumption))))))) ?_); rintro e6 w6 ⟨rfl, hb6⟩; first | ((with_reducible apply kp_in_step (hb := hb6)); (with_reducible assumption); rintro ⟨hk, hc, hf, hzc, hzf⟩) | ((with_reducible refine kp_in_first hb6 ?_); rintro ⟨hk, hc, hf, hzc, hzf⟩)))
  go_ret
  exact ⟨rfl, by (repeat (first | with_reducible exact Below.refl _ _ | with_reducible apply bl_alloc | with_reducible apply bl_drew | with_reducible apply bl_after | (with_reducible refine bl_call ?_ (by assumption))))⟩
end
end Go.Proofs.Ythijegacjboclaa
