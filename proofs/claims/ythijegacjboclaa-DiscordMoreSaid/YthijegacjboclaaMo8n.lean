/- The law DiscordMore where nothing is examined. -/
import Derived.Test.YthijegacjboclaaEx8
import Derived.Test.YthijegacjboclaaFar8
import Derived.Test.YthijegacjboclaaOpd
namespace Go.Proofs.Ythijegacjboclaa
open Go.ChangeShapes Go.WideShapes Go.RowKit
attribute [local go_sem] After.cell After.frozen

section
variable (A B C : Option Addr) (ca cb cc : Nat) (D : Dsp) (w : World) (ha : Pts w A D.cs) (hb : Ints w B D.offs) (hc : Wks w C D.wks)
include ha hb hc
set_option maxRecDepth 100000 in
set_option maxHeartbeats 4000000 in
theorem lawMore8_no (x : Wk) (c o f : Int) (h0 : rdyB D = false ∨ (rdyB D = true ∧ (c < 0 ∨ (D.cs.length : Int) ≤ c ∨ o < 0 ∨ 2 < o ∨ f < 0 ∨ 14 < f))) :
    Calls Try.prog 3 #[(Value.agg #[.slice A D.cs.length ca, .slice B D.offs.length cb, (Value.int .i64 (D.unit)), (Value.int .i64 (D.wh.full)), (Value.int .i64 (D.wh.read)), (Value.int .i64 (D.wh.slip)), (Value.int .i64 (D.wh.skew)), (Value.int .i64 (D.wh.circle)), (Value.int .i64 (D.wh.glo)), (Value.int .i64 (D.wh.ghi)), (Value.int .i64 (D.wh.wrong)), .slice C D.wks.length cc]), .agg #[(Value.int .i64 (x.sense)), (Value.int .i64 (x.side)), (Value.int .i64 (x.inside)), (Value.int .i64 (x.start)), (Value.int .i64 (x.fin)), (Value.int .i64 (c)), (Value.int .i64 (o)), (Value.int .i64 (f))]] w fun e w' => e = .returned (.bool true) ∧ Below w.heap.size w w' := by
  have e0 : Blk ((w.alloc (.cells #[.slice A D.cs.length ca, .slice B D.offs.length cb, (Value.int .i64 (D.unit)), (Value.int .i64 (D.wh.full)), (Value.int .i64 (D.wh.read)), (Value.int .i64 (D.wh.slip)), (Value.int .i64 (D.wh.skew)), (Value.int .i64 (D.wh.circle)), (Value.int .i64 (D.wh.glo)), (Value.int .i64 (D.wh.ghi)), (Value.int .i64 (D.wh.wrong)), .slice C D.wks.length cc] 30)).alloc (.cells #[(Value.int .i64 (x.sense)), (Value.int .i64 (x.side)), (Value.int .i64 (x.inside)), (Value.int .i64 (x.start)), (Value.int .i64 (x.fin)), (Value.int .i64 (c)), (Value.int .i64 (o)), (Value.int .i64 (f))] 34)) w.heap.size 30 #[.slice A D.cs.length ca, .slice B D.offs.length cb, (Value.int .i64 (D.unit)), (Value.int .i64 (D.wh.full)), (Value.int .i64 (D.wh.read)), (Value.int .i64 (D.wh.slip)), (Value.int .i64 (D.wh.skew)), (Value.int .i64 (D.wh.circle)), (Value.int .i64 (D.wh.glo)), (Value.int .i64 (D.wh.ghi)), (Value.int .i64 (D.wh.wrong)), .slice C D.wks.length cc] := (Blk.new _ _ _).alloc _
  have e1 : Blk ((w.alloc (.cells #[.slice A D.cs.length ca, .slice B D.offs.length cb, (Value.int .i64 (D.unit)), (Value.int .i64 (D.wh.full)), (Value.int .i64 (D.wh.read)), (Value.int .i64 (D.wh.slip)), (Value.int .i64 (D.wh.skew)), (Value.int .i64 (D.wh.circle)), (Value.int .i64 (D.wh.glo)), (Value.int .i64 (D.wh.ghi)), (Value.int .i64 (D.wh.wrong)), .slice C D.wks.length cc] 30)).alloc (.cells #[(Value.int .i64 (x.sense)), (Value.int .i64 (x.side)), (Value.int .i64 (x.inside)), (Value.int .i64 (x.start)), (Value.int .i64 (x.fin)), (Value.int .i64 (c)), (Value.int .i64 (o)), (Value.int .i64 (f))] 34)) (w.heap.size + 1) 34 #[(Value.int .i64 (x.sense)), (Value.int .i64 (x.side)), (Value.int .i64 (x.inside)), (Value.int .i64 (x.start)), (Value.int .i64 (x.fin)), (Value.int .i64 (c)), (Value.int .i64 (o)), (Value.int .i64 (f))] := blk_new_at (by simp)
  have hR := fun (W : World) (h : Below w.heap.size w W) => ready8_any A B C ca cb cc D W (ha.below h) (hb.below h) (hc.below h)
  (have la := e0.lt); (have ya0 := e0.cell 0); (have ya1 := e0.cell 1); (have ya2 := e0.cell 2); (have ya3 := e0.cell 3); (have ya4 := e0.cell 4); (have ya5 := e0.cell 5); (have ya6 := e0.cell 6); (have ya7 := e0.cell 7); (have ya8 := e0.cell 8); (have ya9 := e0.cell 9); (have ya10 := e0.cell 10); (have ya11 := e0.cell 11); simp only [List.getElem?_toArray, List.getElem?_cons_zero, List.getElem?_cons_succ] at ya0 ya1 ya2 ya3 ya4 ya5 ya6 ya7 ya8 ya9 ya10 ya11
  (have lb := e1.lt); (have yb0 := e1.cell 0); (have yb1 := e1.cell 1); (have yb2 := e1.cell 2); (have yb3 := e1.cell 3); (have yb4 := e1.cell 4); (have yb5 := e1.cell 5); (have yb6 := e1.cell 6); (have yb7 := e1.cell 7); simp only [List.getElem?_toArray, List.getElem?_cons_zero, List.getElem?_cons_succ] at yb0 yb1 yb2 yb3 yb4 yb5 yb6 yb7
  clear ha hb hc
  rcases h0 with hr | ⟨hr, h0⟩
  · rw [hr] at hR
    replace hR := Lib.hid hR
    go_enter Try.func3, Try.ntmps3
    go_wp2_with (first | ((go_at_call 7); (with_reducible refine Calls.mono (hR.out _ (by (repeat (first | with_reducible exact Below.refl _ _ | with_reducible apply bl_alloc | with_reducible apply bl_drew | with_reducible apply bl_after | (with_reducible refine bl_call ?_ (by assumption)))))) ?_); rintro e wn ⟨rfl, hbn⟩; first | ((with_reducible apply kp_in_step (hb := hbn)); (with_reducible assumption); rintro ⟨hk, hc, hf, hzc, hzf⟩) | ((with_reducible refine kp_in_first hbn ?_); rintro ⟨hk, hc, hf, hzc, hzf⟩)) | ((go_at_call 8); (with_reducible refine Calls.mono (works8_any _) ?_); rintro e wn ⟨rfl, hbn⟩; first | ((with_reducible apply kp_in_step (hb := hbn)); (with_reducible assumption); rintro ⟨hk, hc, hf, hzc, hzf⟩) | ((with_reducible refine kp_in_first hbn ?_); rintro ⟨hk, hc, hf, hzc, hzf⟩)))
    go_ret
    exact ⟨rfl, by (repeat (first | with_reducible exact Below.refl _ _ | with_reducible apply bl_alloc | with_reducible apply bl_drew | with_reducible apply bl_after | (with_reducible refine bl_call ?_ (by assumption))))⟩
  · rw [hr] at hR
    replace hR := Lib.hid hR
    by_cases q1 : c < 0
    · go_enter Try.func3, Try.ntmps3
      go_wp2_with (first | ((go_at_call 7); (with_reducible refine Calls.mono (hR.out _ (by (repeat (first | with_reducible exact Below.refl _ _ | with_reducible apply bl_alloc | with_reducible apply bl_drew | with_reducible apply bl_after | (with_reducible refine bl_call ?_ (by assumption)))))) ?_); rintro e wn ⟨rfl, hbn⟩; first | ((with_reducible apply kp_in_step (hb := hbn)); (with_reducible assumption); rintro ⟨hk, hc, hf, hzc, hzf⟩) | ((with_reducible refine kp_in_first hbn ?_); rintro ⟨hk, hc, hf, hzc, hzf⟩)) | ((go_at_call 8); (with_reducible refine Calls.mono (works8_any _) ?_); rintro e wn ⟨rfl, hbn⟩; first | ((with_reducible apply kp_in_step (hb := hbn)); (with_reducible assumption); rintro ⟨hk, hc, hf, hzc, hzf⟩) | ((with_reducible refine kp_in_first hbn ?_); rintro ⟨hk, hc, hf, hzc, hzf⟩)))
      go_ret
      exact ⟨rfl, by (repeat (first | with_reducible exact Below.refl _ _ | with_reducible apply bl_alloc | with_reducible apply bl_drew | with_reducible apply bl_after | (with_reducible refine bl_call ?_ (by assumption))))⟩
    by_cases q2 : (D.cs.length : Int) ≤ c
    · go_enter Try.func3, Try.ntmps3
      go_wp2_with (first | ((go_at_call 7); (with_reducible refine Calls.mono (hR.out _ (by (repeat (first | with_reducible exact Below.refl _ _ | with_reducible apply bl_alloc | with_reducible apply bl_drew | with_reducible apply bl_after | (with_reducible refine bl_call ?_ (by assumption)))))) ?_); rintro e wn ⟨rfl, hbn⟩; first | ((with_reducible apply kp_in_step (hb := hbn)); (with_reducible assumption); rintro ⟨hk, hc, hf, hzc, hzf⟩) | ((with_reducible refine kp_in_first hbn ?_); rintro ⟨hk, hc, hf, hzc, hzf⟩)) | ((go_at_call 8); (with_reducible refine Calls.mono (works8_any _) ?_); rintro e wn ⟨rfl, hbn⟩; first | ((with_reducible apply kp_in_step (hb := hbn)); (with_reducible assumption); rintro ⟨hk, hc, hf, hzc, hzf⟩) | ((with_reducible refine kp_in_first hbn ?_); rintro ⟨hk, hc, hf, hzc, hzf⟩)))
      go_ret
      exact ⟨rfl, by (repeat (first | with_reducible exact Below.refl _ _ | with_reducible apply bl_alloc | with_reducible apply bl_drew | with_reducible apply bl_after | (with_reducible refine bl_call ?_ (by assumption))))⟩
    by_cases q3 : o < 0
    · go_enter Try.func3, Try.ntmps3
      go_wp2_with (first | ((go_at_call 7); (with_reducible refine Calls.mono (hR.out _ (by (repeat (first | with_reducible exact Below.refl _ _ | with_reducible apply bl_alloc | with_reducible apply bl_drew | with_reducible apply bl_after | (with_reducible refine bl_call ?_ (by assumption)))))) ?_); rintro e wn ⟨rfl, hbn⟩; first | ((with_reducible apply kp_in_step (hb := hbn)); (with_reducible assumption); rintro ⟨hk, hc, hf, hzc, hzf⟩) | ((with_reducible refine kp_in_first hbn ?_); rintro ⟨hk, hc, hf, hzc, hzf⟩)) | ((go_at_call 8); (with_reducible refine Calls.mono (works8_any _) ?_); rintro e wn ⟨rfl, hbn⟩; first | ((with_reducible apply kp_in_step (hb := hbn)); (with_reducible assumption); rintro ⟨hk, hc, hf, hzc, hzf⟩) | ((with_reducible refine kp_in_first hbn ?_); rintro ⟨hk, hc, hf, hzc, hzf⟩)))
      go_ret
      exact ⟨rfl, by (repeat (first | with_reducible exact Below.refl _ _ | with_reducible apply bl_alloc | with_reducible apply bl_drew | with_reducible apply bl_after | (with_reducible refine bl_call ?_ (by assumption))))⟩
    by_cases q4 : 2 < o
    · go_enter Try.func3, Try.ntmps3
      go_wp2_with (first | ((go_at_call 7); (with_reducible refine Calls.mono (hR.out _ (by (repeat (first | with_reducible exact Below.refl _ _ | with_reducible apply bl_alloc | with_reducible apply bl_drew | with_reducible apply bl_after | (with_reducible refine bl_call ?_ (by assumption)))))) ?_); rintro e wn ⟨rfl, hbn⟩; first | ((with_reducible apply kp_in_step (hb := hbn)); (with_reducible assumption); rintro ⟨hk, hc, hf, hzc, hzf⟩) | ((with_reducible refine kp_in_first hbn ?_); rintro ⟨hk, hc, hf, hzc, hzf⟩)) | ((go_at_call 8); (with_reducible refine Calls.mono (works8_any _) ?_); rintro e wn ⟨rfl, hbn⟩; first | ((with_reducible apply kp_in_step (hb := hbn)); (with_reducible assumption); rintro ⟨hk, hc, hf, hzc, hzf⟩) | ((with_reducible refine kp_in_first hbn ?_); rintro ⟨hk, hc, hf, hzc, hzf⟩)))
      go_ret
      exact ⟨rfl, by (repeat (first | with_reducible exact Below.refl _ _ | with_reducible apply bl_alloc | with_reducible apply bl_drew | with_reducible apply bl_after | (with_reducible refine bl_call ?_ (by assumption))))⟩
    by_cases q5 : f < 0
    · go_enter Try.func3, Try.ntmps3
      go_wp2_with (first | ((go_at_call 7); (with_reducible refine Calls.mono (hR.out _ (by (repeat (first | with_reducible exact Below.refl _ _ | with_reducible apply bl_alloc | with_reducible apply bl_drew | with_reducible apply bl_after | (with_reducible refine bl_call ?_ (by assumption)))))) ?_); rintro e wn ⟨rfl, hbn⟩; first | ((with_reducible apply kp_in_step (hb := hbn)); (with_reducible assumption); rintro ⟨hk, hc, hf, hzc, hzf⟩) | ((with_reducible refine kp_in_first hbn ?_); rintro ⟨hk, hc, hf, hzc, hzf⟩)) | ((go_at_call 8); (with_reducible refine Calls.mono (works8_any _) ?_); rintro e wn ⟨rfl, hbn⟩; first | ((with_reducible apply kp_in_step (hb := hbn)); (with_reducible assumption); rintro ⟨hk, hc, hf, hzc, hzf⟩) | ((with_reducible refine kp_in_first hbn ?_); rintro ⟨hk, hc, hf, hzc, hzf⟩)))
      go_ret
      exact ⟨rfl, by (repeat (first | with_reducible exact Below.refl _ _ | with_reducible apply bl_alloc | with_reducible apply bl_drew | with_reducible apply bl_after | (with_reducible refine bl_call ?_ (by assumption))))⟩
    have q6 : 14 < f := by omega
    go_enter Try.func3, Try.ntmps3
    go_wp2_with (first | ((go_at_call 7); (with_reducible refine Calls.mono (hR.out _ (by (repeat (first | with_reducible exact Below.refl _ _ | with_reducible apply bl_alloc | with_reducible apply bl_drew | with_reducible apply bl_after | (with_reducible refine bl_call ?_ (by assumption)))))) ?_); rintro e wn ⟨rfl, hbn⟩; first | ((with_reducible apply kp_in_step (hb := hbn)); (with_reducible assumption); rintro ⟨hk, hc, hf, hzc, hzf⟩) | ((with_reducible refine kp_in_first hbn ?_); rintro ⟨hk, hc, hf, hzc, hzf⟩)) | ((go_at_call 8); (with_reducible refine Calls.mono (works8_any _) ?_); rintro e wn ⟨rfl, hbn⟩; first | ((with_reducible apply kp_in_step (hb := hbn)); (with_reducible assumption); rintro ⟨hk, hc, hf, hzc, hzf⟩) | ((with_reducible refine kp_in_first hbn ?_); rintro ⟨hk, hc, hf, hzc, hzf⟩)))
    go_ret
    exact ⟨rfl, by (repeat (first | with_reducible exact Below.refl _ _ | with_reducible apply bl_alloc | with_reducible apply bl_drew | with_reducible apply bl_after | (with_reducible refine bl_call ?_ (by assumption))))⟩
end
end Go.Proofs.Ythijegacjboclaa
