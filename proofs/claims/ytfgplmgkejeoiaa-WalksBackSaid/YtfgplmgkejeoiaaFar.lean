/- The functions Far and isKnown of the laws of walks. -/
import Derived.Test.YtfgplmgkejeoiaaRTurn
import Derived.Test.YtfgplmgkejeoiaaWorks5
namespace Go.Proofs.Ytfgplmgkejeoiaa
open Go.RowKit
attribute [local go_sem] After.cell After.frozen

def farB (T : Trk) (m : List Pt) : Bool := decide (40 < T.pts.length ∨ 40 < m.length ∨ (chkT T m = 0 ∧ (5 < T.pts.length ∨ 5 < m.length)))
def knownB (e : Int) : Bool := decide (e = 0 ∨ e = 3)
set_option maxRecDepth 100000 in
theorem isKnown_any (e : Int) (w : World) : Calls Try.prog 43 #[(Value.int .i64 (e))] w fun r w' => r = .returned (.bool (knownB e)) ∧ Below w.heap.size w w' := by
  unfold knownB
  by_cases h0 : e = 0
  · subst h0
    go_enter Try.func43, Try.ntmps43
    go_wp2
    go_ret
    exact ⟨by simp, by (repeat (first | with_reducible exact Below.refl _ _ | with_reducible apply bl_alloc | with_reducible apply bl_drew | with_reducible apply bl_after | (with_reducible refine bl_call ?_ (by assumption))))⟩
  · by_cases h3 : e = 3
    · subst h3
      clear h0
      go_enter Try.func43, Try.ntmps43
      go_wp2
      go_ret
      exact ⟨by simp, by (repeat (first | with_reducible exact Below.refl _ _ | with_reducible apply bl_alloc | with_reducible apply bl_drew | with_reducible apply bl_after | (with_reducible refine bl_call ?_ (by assumption))))⟩
    · have e0 : (e == 0) = false := by rw [beq_eq_false_iff_ne]; exact h0
      have e3 : (e == 3) = false := by rw [beq_eq_false_iff_ne]; exact h3
      rw [show decide (e = 0 ∨ e = 3) = false by simp [h0, h3]]
      clear h0 h3
      go_enter Try.func43, Try.ntmps43
      go_wp2
      go_ret
      exact ⟨rfl, by (repeat (first | with_reducible exact Below.refl _ _ | with_reducible apply bl_alloc | with_reducible apply bl_drew | with_reducible apply bl_after | (with_reducible refine bl_call ?_ (by assumption))))⟩
set_option maxRecDepth 100000 in
set_option maxHeartbeats 2000000 in
theorem Far_any (A B : Option Addr) (ca cb : Nat) (T : Trk) (m : List Pt) (w : World) (ha : Pts w A T.pts) (hla : T.pts.length ≤ 9223372036854775807) (hb : Pts w B m) (hlb : m.length ≤ 9223372036854775807) :
    Calls Try.prog 32 #[(Value.agg #[.slice A T.pts.length ca, (Value.int .i64 (T.closed)), (Value.int .i64 (T.lo)), (Value.int .i64 (T.hi))]), .slice B m.length cb] w fun e w' => e = .returned (.bool (farB T m)) ∧ Below w.heap.size w w' := by
  have c0 : Blk (w.alloc (.cells #[.slice A T.pts.length ca, (Value.int .i64 (T.closed)), (Value.int .i64 (T.lo)), (Value.int .i64 (T.hi))] 36)) w.heap.size 36 #[.slice A T.pts.length ca, (Value.int .i64 (T.closed)), (Value.int .i64 (T.lo)), (Value.int .i64 (T.hi))] := Blk.new _ _ _
  have y0 := c0.cell 0
  simp only [List.getElem?_toArray, List.getElem?_cons_zero] at y0
  by_cases hfar : 40 < T.pts.length ∨ 40 < m.length
  · have hf : farB T m = true := by unfold farB; rw [decide_eq_true_eq]; omega
    rw [hf]
    clear ha hb hf
    rcases hfar with hfar | hfar
    all_goals
      go_enter Try.func32, Try.ntmps32
      go_wp2
      all_goals go_ret
      all_goals exact ⟨rfl, by (repeat (first | with_reducible exact Below.refl _ _ | with_reducible apply bl_alloc | with_reducible apply bl_drew | with_reducible apply bl_after | (with_reducible refine bl_call ?_ (by assumption))))⟩
  · have hc := fun (W : World) (h : Below w.heap.size w W) => r5Check_any A B ca cb T m W (ha.below h) (by omega) (hb.below h) (by omega)
    have g1 : T.pts.length ≤ 40 := by omega
    have g2 : m.length ≤ 40 := by omega
    clear ha hb hfar
    by_cases h0 : chkT T m = 0
    · rw [h0] at hc
      replace hc := Lib.hid hc
      by_cases h5 : 5 < T.pts.length
      · have hf : farB T m = true := by unfold farB; rw [decide_eq_true_eq]; omega
        rw [hf]
        clear hf h0
        go_enter Try.func32, Try.ntmps32
        go_wp2_with ((go_at_call 24); (with_reducible refine Calls.mono (hc.out _ (by (repeat (first | with_reducible exact Below.refl _ _ | with_reducible apply bl_alloc | with_reducible apply bl_drew | with_reducible apply bl_after | (with_reducible refine bl_call ?_ (by assumption)))))) ?_); rintro e w1 ⟨rfl, hb1⟩; (have e1 := c0.below hb1); (have l1 := e1.lt); (have y1 := e1.cell 0); simp only [List.getElem?_toArray, List.getElem?_cons_zero] at y1; first | ((with_reducible apply kp_in_step (hb := hb1)); (with_reducible assumption); rintro ⟨hk, hc, hf, hzc, hzf⟩) | ((with_reducible refine kp_in_first hb1 ?_); rintro ⟨hk, hc, hf, hzc, hzf⟩))
        go_ret
        first | exact ⟨rfl, by (repeat (first | with_reducible exact Below.refl _ _ | with_reducible apply bl_alloc | with_reducible apply bl_drew | with_reducible apply bl_after | (with_reducible refine bl_call ?_ (by assumption))))⟩ | exact ⟨congrArg (fun b => Ending.returned (.bool b)) (show (decide ((5 : Int) < T.pts.length) || decide ((5 : Int) < m.length)) = true by simp; omega), by (repeat (first | with_reducible exact Below.refl _ _ | with_reducible apply bl_alloc | with_reducible apply bl_drew | with_reducible apply bl_after | (with_reducible refine bl_call ?_ (by assumption))))⟩
      · by_cases h6 : 5 < m.length
        · have hf : farB T m = true := by unfold farB; rw [decide_eq_true_eq]; omega
          rw [hf]
          clear hf h0
          go_enter Try.func32, Try.ntmps32
          go_wp2_with ((go_at_call 24); (with_reducible refine Calls.mono (hc.out _ (by (repeat (first | with_reducible exact Below.refl _ _ | with_reducible apply bl_alloc | with_reducible apply bl_drew | with_reducible apply bl_after | (with_reducible refine bl_call ?_ (by assumption)))))) ?_); rintro e w1 ⟨rfl, hb1⟩; (have e1 := c0.below hb1); (have l1 := e1.lt); (have y1 := e1.cell 0); simp only [List.getElem?_toArray, List.getElem?_cons_zero] at y1; first | ((with_reducible apply kp_in_step (hb := hb1)); (with_reducible assumption); rintro ⟨hk, hc, hf, hzc, hzf⟩) | ((with_reducible refine kp_in_first hb1 ?_); rintro ⟨hk, hc, hf, hzc, hzf⟩))
          go_ret
          first | exact ⟨rfl, by (repeat (first | with_reducible exact Below.refl _ _ | with_reducible apply bl_alloc | with_reducible apply bl_drew | with_reducible apply bl_after | (with_reducible refine bl_call ?_ (by assumption))))⟩ | exact ⟨congrArg (fun b => Ending.returned (.bool b)) (show (decide ((5 : Int) < T.pts.length) || decide ((5 : Int) < m.length)) = true by simp; omega), by (repeat (first | with_reducible exact Below.refl _ _ | with_reducible apply bl_alloc | with_reducible apply bl_drew | with_reducible apply bl_after | (with_reducible refine bl_call ?_ (by assumption))))⟩
        · have hf : farB T m = false := by unfold farB; rw [decide_eq_false_iff_not]; omega
          rw [hf]
          clear hf h0
          go_enter Try.func32, Try.ntmps32
          go_wp2_with ((go_at_call 24); (with_reducible refine Calls.mono (hc.out _ (by (repeat (first | with_reducible exact Below.refl _ _ | with_reducible apply bl_alloc | with_reducible apply bl_drew | with_reducible apply bl_after | (with_reducible refine bl_call ?_ (by assumption)))))) ?_); rintro e w1 ⟨rfl, hb1⟩; (have e1 := c0.below hb1); (have l1 := e1.lt); (have y1 := e1.cell 0); simp only [List.getElem?_toArray, List.getElem?_cons_zero] at y1; first | ((with_reducible apply kp_in_step (hb := hb1)); (with_reducible assumption); rintro ⟨hk, hc, hf, hzc, hzf⟩) | ((with_reducible refine kp_in_first hb1 ?_); rintro ⟨hk, hc, hf, hzc, hzf⟩))
          go_ret
          first | exact ⟨rfl, by (repeat (first | with_reducible exact Below.refl _ _ | with_reducible apply bl_alloc | with_reducible apply bl_drew | with_reducible apply bl_after | (with_reducible refine bl_call ?_ (by assumption))))⟩ | exact ⟨congrArg (fun b => Ending.returned (.bool b)) (show (decide ((5 : Int) < T.pts.length) || decide ((5 : Int) < m.length)) = false by simp; omega), by (repeat (first | with_reducible exact Below.refl _ _ | with_reducible apply bl_alloc | with_reducible apply bl_drew | with_reducible apply bl_after | (with_reducible refine bl_call ?_ (by assumption))))⟩
    · have hf : farB T m = false := by unfold farB; rw [decide_eq_false_iff_not]; omega
      rw [hf]
      have hn : (chkT T m == 0) = false := by rw [beq_eq_false_iff_ne]; exact h0
      replace hc := Lib.hid hc
      clear hf h0
      go_enter Try.func32, Try.ntmps32
      go_wp2_with ((go_at_call 24); (with_reducible refine Calls.mono (hc.out _ (by (repeat (first | with_reducible exact Below.refl _ _ | with_reducible apply bl_alloc | with_reducible apply bl_drew | with_reducible apply bl_after | (with_reducible refine bl_call ?_ (by assumption)))))) ?_); rintro e w1 ⟨rfl, hb1⟩; first | ((with_reducible apply kp_in_step (hb := hb1)); (with_reducible assumption); rintro ⟨hk, hc, hf, hzc, hzf⟩) | ((with_reducible refine kp_in_first hb1 ?_); rintro ⟨hk, hc, hf, hzc, hzf⟩))
      go_ret
      exact ⟨rfl, by (repeat (first | with_reducible exact Below.refl _ _ | with_reducible apply bl_alloc | with_reducible apply bl_drew | with_reducible apply bl_after | (with_reducible refine bl_call ?_ (by assumption))))⟩
end Go.Proofs.Ytfgplmgkejeoiaa
