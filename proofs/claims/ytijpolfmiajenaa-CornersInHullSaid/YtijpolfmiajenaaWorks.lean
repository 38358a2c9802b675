/- The function knurllaw02.works answers true, in any world. -/
import Derived.Test.YtijpolfmiajenaaPoints
import Derived.Test.YtijpolfmiajenaaWhere
import Derived.Test.YtijpolfmiajenaaFirst
import Derived.Test.YtijpolfmiajenaaOwn
namespace Go.Proofs.Ytijpolfmiajenaa
open Go.RowKit
attribute [local go_sem] After.cell After.frozen

def exP : List Pt := [(0, 0), (4, 0), (4, 3), (2, 1), (0, 3)]

theorem ptsAt_blk {w : World} {g : Nat} {t : TypeId} {l : List Pt} (h : Blk w g t (ptsV l).toArray) : PtsAt w g 0 l := by
  refine ⟨h.lt, fun i p hi => ?_, fun i p hi => ?_⟩
  · have := h.cell (i * 2)
    rw [List.getElem?_toArray, ptsV_x, hi] at this
    simpa using this
  · have := h.cell (i * 2 + 1)
    rw [List.getElem?_toArray, ptsV_y, hi] at this
    simpa using this
set_option maxRecDepth 100000 in
set_option maxHeartbeats 1000000 in
theorem Example_any (w : World) : Calls Try.prog 45 #[] w fun e w' => (∃ b ca, e = .returned (.slice (some ⟨b, 0, none⟩) exP.length ca) ∧ PtsAt w' b 0 exP) ∧ Below w.heap.size w w' := by
  go_enter Try.func45, Try.ntmps45
  go_wp2
  go_ret
  exact ⟨⟨w.heap.size, 5, rfl, ptsAt_blk (l := exP) (Blk.new w _ _)⟩, by (repeat (first | with_reducible exact Below.refl _ _ | with_reducible apply bl_alloc | with_reducible apply bl_drew | with_reducible apply bl_after | (with_reducible refine bl_call ?_ (by assumption))))⟩

theorem exP_ok : Ok exP := by decide
theorem exP_is : tw exP = 16 ∧ mx exP = 96 ∧ my exP = 52 ∧ pickOf exP = 2 ∧ ownOf exP = 14 ∧ whereOf exP (2, 2) = 3 := by decide

set_option maxRecDepth 100000 in
set_option maxHeartbeats 2000000 in
theorem works_any (w : World) : Calls Try.prog 15 #[] w fun e w' => e = .returned (.bool true) ∧ Below w.heap.size w w' := by
  have hx := exP_is
  have hT := Lib.hid fun (b ca : Nat) (W : World) (h : PtsAt W b 0 exP) => Twice_ok b 0 ca exP W h exP_ok
  have hF := Lib.hid fun (b ca : Nat) (W : World) (h : PtsAt W b 0 exP) => First_ok b 0 ca exP W h exP_ok
  have hP := Lib.hid fun (b ca : Nat) (W : World) (h : PtsAt W b 0 exP) => Points_ok b 0 ca exP W h exP_ok
  have hW := Lib.hid fun (b ca : Nat) (W : World) (h : PtsAt W b 0 exP) => Where_ok b 0 ca exP (2, 2) W h exP_ok (by decide)
  simp only [hx] at hT hF hP hW
  go_enter Try.func15, Try.ntmps15
  go_wp2_with (first | ((go_at_call 45); (with_reducible refine Calls.mono (Example_any _) ?_); rintro e w1 ⟨⟨b, ca, rfl, hE⟩, hb1⟩) | ((go_at_call 16); (with_reducible refine Calls.mono (hT.out _ _ _ hE) ?_); rintro e w2 ⟨rfl, hb2⟩) | ((go_at_call 34); (with_reducible refine Calls.mono (hF.out _ _ _ (hE.below hb2)) ?_); rintro e w3 ⟨rfl, hb3⟩) | ((go_at_call 17); (with_reducible refine Calls.mono (hP.out _ _ _ ((hE.below hb2).below hb3)) ?_); rintro e w4 ⟨rfl, hb4⟩) | ((go_at_call 25); (with_reducible refine Calls.mono (hW.out _ _ _ (((hE.below hb2).below hb3).below hb4)) ?_); rintro e w5 ⟨rfl, hb5⟩))
  go_ret
  exact ⟨rfl, by (repeat (first | with_reducible exact Below.refl _ _ | with_reducible apply bl_alloc | with_reducible apply bl_drew | with_reducible apply bl_after | (with_reducible refine bl_call ?_ (by assumption))))⟩
end Go.Proofs.Ytijpolfmiajenaa
