/- The reference's functions Check, Wrongs and IsTruth of sheets. -/
import Derived.Test.YtegdnbceiopklaaAl4
import Derived.Deep.DeepCutAuto
namespace Go.Proofs.Ytegdnbceiopklaa
open Go.RowKit Go.Shelf
attribute [local go_sem] After.cell After.frozen

theorem chkS_bad {S : Sht} {k : Nat} (hk : k < S.cs.length) (hb : ctlB (cat S.cs k) = false) : chkS S = 40 := by
  refine if_neg fun h => ?_
  simp only [shtB, Bool.and_eq_true, List.all_eq_true] at h
  rw [h.1.2 _ (cat_mem hk)] at hb
  cases hb
theorem chkS_no {S : Sht} (h : spnB S.xlo S.xhi = false ∨ spnB S.ylo S.yhi = false ∨ ¬ S.cs.length ≤ 8 ∨ within S.wrong 0 8 = false) : chkS S = 40 := by
  refine if_neg fun h' => ?_
  simp only [shtB, Bool.and_eq_true, decide_eq_true_eq] at h'
  rcases h with h | h | h | h <;> simp_all
theorem chkS_ok {S : Sht} (h1 : spnB S.xlo S.xhi = true) (h2 : spnB S.ylo S.yhi = true) (h3 : S.cs.length ≤ 8) (h4 : within S.wrong 0 8 = true) (h : ∀ k, k < S.cs.length → ctlB (cat S.cs k) = true) : chkS S = 0 := by
  refine if_pos ?_
  simp only [shtB, Bool.and_eq_true, List.all_eq_true, decide_eq_true_eq]
  refine ⟨⟨⟨⟨h1, h2⟩, h3⟩, fun c hc => ?_⟩, h4⟩
  obtain ⟨i, hi, rfl⟩ := List.getElem_of_mem hc
  rw [cat_eq hi]
  exact h i hi
set_option maxRecDepth 100000 in
set_option maxHeartbeats 4000000 in
theorem rCheck4 (A : Option Addr) (ca : Nat) (S : Sht) (w : World) (ha : Cts w A S.cs) :
    Calls Try.prog 29 #[(Value.agg #[(Value.int .i64 (S.xlo)), (Value.int .i64 (S.xhi)), (Value.int .i64 (S.ylo)), (Value.int .i64 (S.yhi)), .slice A S.cs.length ca, (Value.int .i64 (S.wrong))])] w fun e w' => e = .returned (Value.int .i64 (chkS S)) ∧ Below w.heap.size w w' := by
  have e0 : Blk (w.alloc (.cells #[(Value.int .i64 (S.xlo)), (Value.int .i64 (S.xhi)), (Value.int .i64 (S.ylo)), (Value.int .i64 (S.yhi)), .slice A S.cs.length ca, (Value.int .i64 (S.wrong))] 26)) w.heap.size 26 #[(Value.int .i64 (S.xlo)), (Value.int .i64 (S.xhi)), (Value.int .i64 (S.ylo)), (Value.int .i64 (S.yhi)), .slice A S.cs.length ca, (Value.int .i64 (S.wrong))] := Blk.new _ _ _
  (have la := e0.lt); (have ya0 := e0.cell 0); (have ya1 := e0.cell 1); (have ya2 := e0.cell 2); (have ya3 := e0.cell 3); (have ya4 := e0.cell 4); (have ya5 := e0.cell 5); simp only [List.getElem?_toArray, List.getElem?_cons_zero, List.getElem?_cons_succ] at ya0 ya1 ya2 ya3 ya4 ya5
  have hb0 : Below w.heap.size w (w.alloc (.cells #[(Value.int .i64 (S.xlo)), (Value.int .i64 (S.xhi)), (Value.int .i64 (S.ylo)), (Value.int .i64 (S.yhi)), .slice A S.cs.length ca, (Value.int .i64 (S.wrong))] 26)) := by (repeat (first | with_reducible exact Below.refl _ _ | with_reducible apply bl_alloc | with_reducible apply bl_drew | with_reducible apply bl_after | (with_reducible refine bl_call ?_ (by assumption))))
  cases h1 : spnB S.xlo S.xhi
  · rw [chkS_no (.inl h1)]
    clear ha
    go_enter Try.func29, Try.ntmps29
    go_wp2_with (first | ((go_at_call 70); (with_reducible refine Calls.mono (rIsSpan_any _ _ _) ?_); rintro e wn ⟨rfl, hbn⟩; first | ((with_reducible apply kp_in_step (hb := hbn)); (with_reducible assumption); rintro ⟨hk, hc, hf, hzc, hzf⟩) | ((with_reducible refine kp_in_first hbn ?_); rintro ⟨hk, hc, hf, hzc, hzf⟩)) | (go_at_call 58; with_reducible refine Calls.mono (r4Within_any _ _ _ _) ?_; rintro e w' ⟨rfl, rfl⟩) | (go_at_call 71; with_reducible refine Calls.mono (rIsWay_any _ _) ?_; rintro e w' ⟨rfl, rfl⟩))
    go_ret
    exact ⟨rfl, by (repeat (first | with_reducible exact Below.refl _ _ | with_reducible apply bl_alloc | with_reducible apply bl_drew | with_reducible apply bl_after | (with_reducible refine bl_call ?_ (by assumption))))⟩
  cases h2 : spnB S.ylo S.yhi
  · rw [chkS_no (.inr (.inl h2))]
    clear ha
    go_enter Try.func29, Try.ntmps29
    go_wp2_with (first | ((go_at_call 70); (with_reducible refine Calls.mono (rIsSpan_any _ _ _) ?_); rintro e wn ⟨rfl, hbn⟩; first | ((with_reducible apply kp_in_step (hb := hbn)); (with_reducible assumption); rintro ⟨hk, hc, hf, hzc, hzf⟩) | ((with_reducible refine kp_in_first hbn ?_); rintro ⟨hk, hc, hf, hzc, hzf⟩)) | (go_at_call 58; with_reducible refine Calls.mono (r4Within_any _ _ _ _) ?_; rintro e w' ⟨rfl, rfl⟩) | (go_at_call 71; with_reducible refine Calls.mono (rIsWay_any _ _) ?_; rintro e w' ⟨rfl, rfl⟩))
    go_ret
    exact ⟨rfl, by (repeat (first | with_reducible exact Below.refl _ _ | with_reducible apply bl_alloc | with_reducible apply bl_drew | with_reducible apply bl_after | (with_reducible refine bl_call ?_ (by assumption))))⟩
  by_cases h3 : S.cs.length ≤ 8
  rotate_left
  · rw [chkS_no (.inr (.inr (.inl h3)))]
    have h3' : 8 < S.cs.length := by omega
    clear ha h3
    go_enter Try.func29, Try.ntmps29
    go_wp2_with (first | ((go_at_call 70); (with_reducible refine Calls.mono (rIsSpan_any _ _ _) ?_); rintro e wn ⟨rfl, hbn⟩; first | ((with_reducible apply kp_in_step (hb := hbn)); (with_reducible assumption); rintro ⟨hk, hc, hf, hzc, hzf⟩) | ((with_reducible refine kp_in_first hbn ?_); rintro ⟨hk, hc, hf, hzc, hzf⟩)) | (go_at_call 58; with_reducible refine Calls.mono (r4Within_any _ _ _ _) ?_; rintro e w' ⟨rfl, rfl⟩) | (go_at_call 71; with_reducible refine Calls.mono (rIsWay_any _ _) ?_; rintro e w' ⟨rfl, rfl⟩))
    go_ret
    exact ⟨rfl, by (repeat (first | with_reducible exact Below.refl _ _ | with_reducible apply bl_alloc | with_reducible apply bl_drew | with_reducible apply bl_after | (with_reducible refine bl_call ?_ (by assumption))))⟩
  cases h4 : within S.wrong 0 8
  · rw [chkS_no (.inr (.inr (.inr h4)))]
    clear ha
    go_enter Try.func29, Try.ntmps29
    go_wp2_with (first | ((go_at_call 70); (with_reducible refine Calls.mono (rIsSpan_any _ _ _) ?_); rintro e wn ⟨rfl, hbn⟩; first | ((with_reducible apply kp_in_step (hb := hbn)); (with_reducible assumption); rintro ⟨hk, hc, hf, hzc, hzf⟩) | ((with_reducible refine kp_in_first hbn ?_); rintro ⟨hk, hc, hf, hzc, hzf⟩)) | (go_at_call 58; with_reducible refine Calls.mono (r4Within_any _ _ _ _) ?_; rintro e w' ⟨rfl, rfl⟩) | (go_at_call 71; with_reducible refine Calls.mono (rIsWay_any _ _) ?_; rintro e w' ⟨rfl, rfl⟩))
    go_ret
    exact ⟨rfl, by (repeat (first | with_reducible exact Below.refl _ _ | with_reducible apply bl_alloc | with_reducible apply bl_drew | with_reducible apply bl_after | (with_reducible refine bl_call ?_ (by assumption))))⟩
  have hok := Lib.hid fun h => chkS_ok (S := S) h1 h2 h3 h4 h
  go_enter Try.func29, Try.ntmps29
  go_wp2_with (first | ((go_at_call 70); (with_reducible refine Calls.mono (rIsSpan_any _ _ _) ?_); rintro e wn ⟨rfl, hbn⟩; first | ((with_reducible apply kp_in_step (hb := hbn)); (with_reducible assumption); rintro ⟨hk, hc, hf, hzc, hzf⟩) | ((with_reducible refine kp_in_first hbn ?_); rintro ⟨hk, hc, hf, hzc, hzf⟩)) | (go_at_call 58; with_reducible refine Calls.mono (r4Within_any _ _ _ _) ?_; rintro e w' ⟨rfl, rfl⟩) | (go_at_call 71; with_reducible refine Calls.mono (rIsWay_any _ _) ?_; rintro e w' ⟨rfl, rfl⟩))
  have eW := e0.below (show Below (w.alloc (.cells #[(Value.int .i64 (S.xlo)), (Value.int .i64 (S.xhi)), (Value.int .i64 (S.ylo)), (Value.int .i64 (S.yhi)), .slice A S.cs.length ca, (Value.int .i64 (S.wrong))] 26)).heap.size (w.alloc (.cells #[(Value.int .i64 (S.xlo)), (Value.int .i64 (S.xhi)), (Value.int .i64 (S.ylo)), (Value.int .i64 (S.yhi)), .slice A S.cs.length ca, (Value.int .i64 (S.wrong))] 26)) wn by (repeat (first | with_reducible exact Below.refl _ _ | with_reducible apply bl_alloc | with_reducible apply bl_drew | with_reducible apply bl_after | (with_reducible refine bl_call ?_ (by assumption)))))
  have hbW : Below w.heap.size w wn := bl_call hb0 (show Below (w.alloc (.cells #[(Value.int .i64 (S.xlo)), (Value.int .i64 (S.xhi)), (Value.int .i64 (S.ylo)), (Value.int .i64 (S.yhi)), .slice A S.cs.length ca, (Value.int .i64 (S.wrong))] 26)).heap.size (w.alloc (.cells #[(Value.int .i64 (S.xlo)), (Value.int .i64 (S.xhi)), (Value.int .i64 (S.ylo)), (Value.int .i64 (S.yhi)), .slice A S.cs.length ca, (Value.int .i64 (S.wrong))] 26)) wn by (repeat (first | with_reducible exact Below.refl _ _ | with_reducible apply bl_alloc | with_reducible apply bl_drew | with_reducible apply bl_after | (with_reducible refine bl_call ?_ (by assumption)))))
  have hX := ha.below hbW
  clear la ya0 ya1 ya2 ya3 ya4 ya5 e0 hb0 h1 h2 h4 ha hbn
  ((try clear hk hc hf hzc hzf); (try clear hk hc hf hzc hzf); (try clear hk hc hf hzc hzf); (try clear hk hc hf hzc hzf))
  go_loopw [3] (fun i wr => ∃ k : Nat, k ≤ S.cs.length ∧ i = (Value.int .i64 ((k : Int))) ∧ Hid (∀ j, j < k → ctlB (cat S.cs j) = true) ∧ Below wn.heap.size wn wr) (fun i _ => S.cs.length - (intOf i).toNat)
  case atStart => exact ⟨0, Nat.zero_le _, rfl, Lib.hid fun j hj => absurd hj (Nat.not_lt_zero _), Below.refl _ _⟩
  case round =>
    obtain ⟨k, kn, rfl, hall, hbr⟩ := hrel
    have e1 := eW.below hbr
    have hbR := bl_call hbW hbr
    (have la := e1.lt); (have ya0 := e1.cell 0); (have ya1 := e1.cell 1); (have ya2 := e1.cell 2); (have ya3 := e1.cell 3); (have ya4 := e1.cell 4); (have ya5 := e1.cell 5); simp only [List.getElem?_toArray, List.getElem?_cons_zero, List.getElem?_cons_succ] at ya0 ya1 ya2 ya3 ya4 ya5
    by_cases hlt : k < S.cs.length
    · obtain ⟨bc, oc, hA, pc⟩ := (hX.below hbr).at_ hlt
      obtain ⟨lc, x1, x2, x3, x4⟩ := ctl_cells pc hlt
      have hbd := fun h => chkS_bad (S := S) hlt h
      have hcb : ctlB (cat S.cs k) = (wayB (cat S.cs k).way && within (cat S.cs k).tru 1 9999 && within (cat S.cs k).read 0 9999 && within (cat S.cs k).off 0 9999) := rfl
      rw [hcb] at hbd
      have HCB := Lib.hid hcb
      subst hA
      clear pc e1 hcb
      cases q1 : wayB (cat S.cs k).way
      · have HB := Lib.hid (hbd (by rw [q1]; rfl))
        clear hbd
        go_wp2_with (first | ((go_at_call 70); (with_reducible refine Calls.mono (rIsSpan_any _ _ _) ?_); rintro e wn ⟨rfl, hbn⟩; first | ((with_reducible apply kp_in_step (hb := hbn)); (with_reducible assumption); rintro ⟨hk, hc, hf, hzc, hzf⟩) | ((with_reducible refine kp_in_first hbn ?_); rintro ⟨hk, hc, hf, hzc, hzf⟩)) | (go_at_call 58; with_reducible refine Calls.mono (r4Within_any _ _ _ _) ?_; rintro e w' ⟨rfl, rfl⟩) | (go_at_call 71; with_reducible refine Calls.mono (rIsWay_any _ _) ?_; rintro e w' ⟨rfl, rfl⟩))
        go_ret
        exact ⟨congrArg (fun n : Int => Ending.returned (Value.int .i64 (n))) HB.out.symm, by (repeat (first | with_reducible exact Below.refl _ _ | with_reducible apply bl_alloc | with_reducible apply bl_drew | with_reducible apply bl_after | (with_reducible refine bl_call ?_ (by assumption))))⟩
      cases q2 : within (cat S.cs k).tru 1 9999
      · have HB := Lib.hid (hbd (by rw [q1, q2]; rfl))
        clear hbd
        go_wp2_with (first | ((go_at_call 70); (with_reducible refine Calls.mono (rIsSpan_any _ _ _) ?_); rintro e wn ⟨rfl, hbn⟩; first | ((with_reducible apply kp_in_step (hb := hbn)); (with_reducible assumption); rintro ⟨hk, hc, hf, hzc, hzf⟩) | ((with_reducible refine kp_in_first hbn ?_); rintro ⟨hk, hc, hf, hzc, hzf⟩)) | (go_at_call 58; with_reducible refine Calls.mono (r4Within_any _ _ _ _) ?_; rintro e w' ⟨rfl, rfl⟩) | (go_at_call 71; with_reducible refine Calls.mono (rIsWay_any _ _) ?_; rintro e w' ⟨rfl, rfl⟩))
        go_ret
        exact ⟨congrArg (fun n : Int => Ending.returned (Value.int .i64 (n))) HB.out.symm, by (repeat (first | with_reducible exact Below.refl _ _ | with_reducible apply bl_alloc | with_reducible apply bl_drew | with_reducible apply bl_after | (with_reducible refine bl_call ?_ (by assumption))))⟩
      cases q3 : within (cat S.cs k).read 0 9999
      · have HB := Lib.hid (hbd (by rw [q1, q2, q3]; rfl))
        clear hbd
        go_wp2_with (first | ((go_at_call 70); (with_reducible refine Calls.mono (rIsSpan_any _ _ _) ?_); rintro e wn ⟨rfl, hbn⟩; first | ((with_reducible apply kp_in_step (hb := hbn)); (with_reducible assumption); rintro ⟨hk, hc, hf, hzc, hzf⟩) | ((with_reducible refine kp_in_first hbn ?_); rintro ⟨hk, hc, hf, hzc, hzf⟩)) | (go_at_call 58; with_reducible refine Calls.mono (r4Within_any _ _ _ _) ?_; rintro e w' ⟨rfl, rfl⟩) | (go_at_call 71; with_reducible refine Calls.mono (rIsWay_any _ _) ?_; rintro e w' ⟨rfl, rfl⟩))
        go_ret
        exact ⟨congrArg (fun n : Int => Ending.returned (Value.int .i64 (n))) HB.out.symm, by (repeat (first | with_reducible exact Below.refl _ _ | with_reducible apply bl_alloc | with_reducible apply bl_drew | with_reducible apply bl_after | (with_reducible refine bl_call ?_ (by assumption))))⟩
      cases q4 : within (cat S.cs k).off 0 9999
      · have HB := Lib.hid (hbd (by rw [q1, q2, q3, q4]; rfl))
        clear hbd
        go_wp2_with (first | ((go_at_call 70); (with_reducible refine Calls.mono (rIsSpan_any _ _ _) ?_); rintro e wn ⟨rfl, hbn⟩; first | ((with_reducible apply kp_in_step (hb := hbn)); (with_reducible assumption); rintro ⟨hk, hc, hf, hzc, hzf⟩) | ((with_reducible refine kp_in_first hbn ?_); rintro ⟨hk, hc, hf, hzc, hzf⟩)) | (go_at_call 58; with_reducible refine Calls.mono (r4Within_any _ _ _ _) ?_; rintro e w' ⟨rfl, rfl⟩) | (go_at_call 71; with_reducible refine Calls.mono (rIsWay_any _ _) ?_; rintro e w' ⟨rfl, rfl⟩))
        go_ret
        exact ⟨congrArg (fun n : Int => Ending.returned (Value.int .i64 (n))) HB.out.symm, by (repeat (first | with_reducible exact Below.refl _ _ | with_reducible apply bl_alloc | with_reducible apply bl_drew | with_reducible apply bl_after | (with_reducible refine bl_call ?_ (by assumption))))⟩
      have hcT := Lib.hid (show ctlB (cat S.cs k) = true by rw [HCB.out, q1, q2, q3, q4]; rfl)
      clear hbd
      go_wp2_with (first | ((go_at_call 70); (with_reducible refine Calls.mono (rIsSpan_any _ _ _) ?_); rintro e wn ⟨rfl, hbn⟩; first | ((with_reducible apply kp_in_step (hb := hbn)); (with_reducible assumption); rintro ⟨hk, hc, hf, hzc, hzf⟩) | ((with_reducible refine kp_in_first hbn ?_); rintro ⟨hk, hc, hf, hzc, hzf⟩)) | (go_at_call 58; with_reducible refine Calls.mono (r4Within_any _ _ _ _) ?_; rintro e w' ⟨rfl, rfl⟩) | (go_at_call 71; with_reducible refine Calls.mono (rIsWay_any _ _) ?_; rintro e w' ⟨rfl, rfl⟩))
      go_roundw
      case rel =>
        refine ⟨k + 1, by omega, by go_num, Lib.hid fun j hj => ?_, bl_alloc hbr⟩
        rcases Nat.lt_succ_iff_lt_or_eq.1 hj with h | rfl
        · exact hall.out j h
        · exact hcT.out
      case measure => simp [intOf]; omega
    · obtain rfl : k = S.cs.length := by omega
      go_wp2
      go_ret
      exact ⟨congrArg (fun n : Int => Ending.returned (Value.int .i64 (n))) (hok.out hall.out).symm, hbR⟩
theorem wrgTo_all (S : Sht) (f : Pt) : wrgTo S f S.cs.length = wrg S f := rfl
set_option maxRecDepth 100000 in
set_option maxHeartbeats 4000000 in
theorem rWrongs4 (A : Option Addr) (ca : Nat) (S : Sht) (hS : ShtOk S) (f : Pt) (hf : FacOk f) (w : World) (ha : Cts w A S.cs) :
    Calls Try.prog 59 #[(Value.agg #[(Value.int .i64 (S.xlo)), (Value.int .i64 (S.xhi)), (Value.int .i64 (S.ylo)), (Value.int .i64 (S.yhi)), .slice A S.cs.length ca, (Value.int .i64 (S.wrong))]), (Value.agg #[.int .i64 f.1, .int .i64 f.2])] w fun e w' => e = .returned (Value.int .i64 (wrg S f)) ∧ Below w.heap.size w w' := by
  have e0 : Blk ((w.alloc (.cells #[(Value.int .i64 (S.xlo)), (Value.int .i64 (S.xhi)), (Value.int .i64 (S.ylo)), (Value.int .i64 (S.yhi)), .slice A S.cs.length ca, (Value.int .i64 (S.wrong))] 26)).alloc (.cells #[(Value.int .i64 (f.1)), (Value.int .i64 (f.2))] 40)) w.heap.size 26 #[(Value.int .i64 (S.xlo)), (Value.int .i64 (S.xhi)), (Value.int .i64 (S.ylo)), (Value.int .i64 (S.yhi)), .slice A S.cs.length ca, (Value.int .i64 (S.wrong))] := (Blk.new _ _ _).alloc _
  have e1 : Blk ((w.alloc (.cells #[(Value.int .i64 (S.xlo)), (Value.int .i64 (S.xhi)), (Value.int .i64 (S.ylo)), (Value.int .i64 (S.yhi)), .slice A S.cs.length ca, (Value.int .i64 (S.wrong))] 26)).alloc (.cells #[(Value.int .i64 (f.1)), (Value.int .i64 (f.2))] 40)) (w.heap.size + 1) 40 #[(Value.int .i64 (f.1)), (Value.int .i64 (f.2))] := Blk.new_at (by simp)
  have hbW : Below w.heap.size w ((w.alloc (.cells #[(Value.int .i64 (S.xlo)), (Value.int .i64 (S.xhi)), (Value.int .i64 (S.ylo)), (Value.int .i64 (S.yhi)), .slice A S.cs.length ca, (Value.int .i64 (S.wrong))] 26)).alloc (.cells #[(Value.int .i64 (f.1)), (Value.int .i64 (f.2))] 40)) := by (repeat (first | with_reducible exact Below.refl _ _ | with_reducible apply bl_alloc | with_reducible apply bl_drew | with_reducible apply bl_after | (with_reducible refine bl_call ?_ (by assumption))))
  have hX := ha.below hbW
  have h8 := hS.len
  clear ha
  go_enter Try.func59, Try.ntmps59
  go_wp2
  generalize (w.alloc (.cells #[(Value.int .i64 (S.xlo)), (Value.int .i64 (S.xhi)), (Value.int .i64 (S.ylo)), (Value.int .i64 (S.yhi)), .slice A S.cs.length ca, (Value.int .i64 (S.wrong))] 26)).alloc (.cells #[(Value.int .i64 (f.1)), (Value.int .i64 (f.2))] 40) = W0 at *
  go_loopw [5, 6] (fun n i wr => ∃ k : Nat, k ≤ S.cs.length ∧ i = (Value.int .i64 ((k : Int))) ∧ n = (Value.int .i64 (wrgTo S f k)) ∧ Below W0.heap.size W0 wr) (fun _ i _ => S.cs.length - (intOf i).toNat)
  case atStart => exact ⟨0, Nat.zero_le _, rfl, rfl, Below.refl _ _⟩
  case round =>
    obtain ⟨k, kn, rfl, rfl, hbr⟩ := hrel
    have f0 := e0.below hbr
    have f1 := e1.below hbr
    have hbR := bl_call hbW hbr
    (have la := f0.lt); (have ya0 := f0.cell 0); (have ya1 := f0.cell 1); (have ya2 := f0.cell 2); (have ya3 := f0.cell 3); (have ya4 := f0.cell 4); (have ya5 := f0.cell 5); simp only [List.getElem?_toArray, List.getElem?_cons_zero, List.getElem?_cons_succ] at ya0 ya1 ya2 ya3 ya4 ya5
    (have lb := f1.lt); (have yb0 := f1.cell 0); (have yb1 := f1.cell 1); simp only [List.getElem?_toArray, List.getElem?_cons_zero, List.getElem?_cons_succ] at yb0 yb1
    by_cases hlt : k < S.cs.length
    · obtain ⟨bc, oc, hA, pc⟩ := (hX.below hbr).at_ hlt
      obtain ⟨lc, x1, x2, x3, x4⟩ := ctl_cells pc hlt
      have hsu := wrgTo_succ (f := f) hlt
      have hbd := wrgTo_bd S f k
      have hr := fun (W : World) => rIsRight_any f (cat S.cs k) hf (hS.all _ (cat_mem hlt)).2 W
      subst hA
      clear pc f0 f1
      cases q : rightB (cat S.cs k) f <;> rw [q] at hr hsu <;> simp only [Bool.false_eq_true, if_false, if_true, Int.add_zero] at hsu <;> replace hr := Lib.hid hr <;> replace hsu := Lib.hid hsu
      all_goals
        clear q
        go_wp2
        refine wp_region_after (by kernel_rfl) (by kernel_rfl) ?_; (repeat (go_big_quiet_step (((go_at_call 86; with_reducible exact calls_after (hr.out _)))))); refine wpQuiet_nil ?_; rintro _ ⟨z, rfl⟩; (first | ((with_reducible apply kp_in_after (z := z)); (with_reducible assumption); rintro ⟨hk, hc, hf, hzc, hzf⟩) | ((with_reducible refine kp_in_after0 z ?_); rintro ⟨hk, hc, hf, hzc, hzf⟩))
        go_wp2
        go_roundw
      all_goals first | (case rel => exact ⟨k + 1, by omega, by go_num, by rw [hsu.out], bl_after z hbr⟩) | (case measure => (simp [intOf]; omega))
    · obtain rfl : k = S.cs.length := by omega
      go_wp2
      go_ret
      exact ⟨congrArg (fun n : Int => Ending.returned (Value.int .i64 (n))) (wrgTo_all S f), hbR⟩
theorem FacOk.of_in {S : Sht} (hS : ShtOk S) {f : Pt} (h1 : within f.1 S.xlo S.xhi = true) (h2 : within f.2 S.ylo S.yhi = true) : FacOk f := by
  simp only [within, Bool.and_eq_true, decide_eq_true_eq] at h1 h2
  have := hS.x0; have := hS.x2; have := hS.y0; have := hS.y2
  exact ⟨by omega, by omega⟩
set_option maxRecDepth 100000 in
set_option maxHeartbeats 4000000 in
theorem rIsTruth4 (A : Option Addr) (ca : Nat) (S : Sht) (hS : ShtOk S) (f : Pt) (w : World) (ha : Cts w A S.cs) :
    Calls Try.prog 20 #[(Value.agg #[(Value.int .i64 (S.xlo)), (Value.int .i64 (S.xhi)), (Value.int .i64 (S.ylo)), (Value.int .i64 (S.yhi)), .slice A S.cs.length ca, (Value.int .i64 (S.wrong))]), (Value.agg #[.int .i64 f.1, .int .i64 f.2])] w fun e w' => e = .returned (.bool (truB S f)) ∧ Below w.heap.size w w' := by
  have e0 : Blk ((w.alloc (.cells #[(Value.int .i64 (S.xlo)), (Value.int .i64 (S.xhi)), (Value.int .i64 (S.ylo)), (Value.int .i64 (S.yhi)), .slice A S.cs.length ca, (Value.int .i64 (S.wrong))] 26)).alloc (.cells #[(Value.int .i64 (f.1)), (Value.int .i64 (f.2))] 40)) w.heap.size 26 #[(Value.int .i64 (S.xlo)), (Value.int .i64 (S.xhi)), (Value.int .i64 (S.ylo)), (Value.int .i64 (S.yhi)), .slice A S.cs.length ca, (Value.int .i64 (S.wrong))] := (Blk.new _ _ _).alloc _
  have e1 : Blk ((w.alloc (.cells #[(Value.int .i64 (S.xlo)), (Value.int .i64 (S.xhi)), (Value.int .i64 (S.ylo)), (Value.int .i64 (S.yhi)), .slice A S.cs.length ca, (Value.int .i64 (S.wrong))] 26)).alloc (.cells #[(Value.int .i64 (f.1)), (Value.int .i64 (f.2))] 40)) (w.heap.size + 1) 40 #[(Value.int .i64 (f.1)), (Value.int .i64 (f.2))] := Blk.new_at (by simp)
  have hbW : Below w.heap.size w ((w.alloc (.cells #[(Value.int .i64 (S.xlo)), (Value.int .i64 (S.xhi)), (Value.int .i64 (S.ylo)), (Value.int .i64 (S.yhi)), .slice A S.cs.length ca, (Value.int .i64 (S.wrong))] 26)).alloc (.cells #[(Value.int .i64 (f.1)), (Value.int .i64 (f.2))] 40)) := by (repeat (first | with_reducible exact Below.refl _ _ | with_reducible apply bl_alloc | with_reducible apply bl_drew | with_reducible apply bl_after | (with_reducible refine bl_call ?_ (by assumption))))
  have hX := ha.below hbW
  have hT : truB S f = (within f.1 S.xlo S.xhi && within f.2 S.ylo S.yhi && decide (wrg S f ≤ S.wrong)) := rfl
  clear ha
  (have la := e0.lt); (have ya0 := e0.cell 0); (have ya1 := e0.cell 1); (have ya2 := e0.cell 2); (have ya3 := e0.cell 3); (have ya4 := e0.cell 4); (have ya5 := e0.cell 5); simp only [List.getElem?_toArray, List.getElem?_cons_zero, List.getElem?_cons_succ] at ya0 ya1 ya2 ya3 ya4 ya5
  (have lb := e1.lt); (have yb0 := e1.cell 0); (have yb1 := e1.cell 1); simp only [List.getElem?_toArray, List.getElem?_cons_zero, List.getElem?_cons_succ] at yb0 yb1
  clear e0 e1
  have k1 := fun (W : World) => r4Within_any f.1 S.xlo S.xhi W
  have k2 := fun (W : World) => r4Within_any f.2 S.ylo S.yhi W
  cases h1 : within f.1 S.xlo S.xhi
  · rw [h1] at hT k1
    have HT := Lib.hid hT
    have HK1 := Lib.hid k1
    clear hT k1 k2 h1
    go_enter Try.func20, Try.ntmps20
    go_upto_region 1 with fail
    refine wp_region_after_tail 28 (by kernel_rfl) (by kernel_rfl) ?_; simp only [List.take_succ_cons, List.take_zero, List.drop_succ_cons, List.drop_zero]; (repeat (go_big_quiet_step (((go_at_call 58; with_reducible exact calls_after_same (HK1.out _)))))); refine wpQuiet_nil ?_; rintro _ ⟨z, rfl⟩; (first | ((with_reducible apply kp_in_after (z := z)); (with_reducible assumption); rintro ⟨hk, hc, hf, hzc, hzf⟩) | ((with_reducible refine kp_in_after0 z ?_); rintro ⟨hk, hc, hf, hzc, hzf⟩))
    go_wp2
    go_ret
    exact ⟨congrArg (fun n : Bool => Ending.returned (.bool n)) HT.out.symm, by (repeat (first | with_reducible exact Below.refl _ _ | with_reducible apply bl_alloc | with_reducible apply bl_drew | with_reducible apply bl_after | (with_reducible refine bl_call ?_ (by assumption))))⟩
  cases h2 : within f.2 S.ylo S.yhi
  · rw [h1, h2] at hT
    rw [h1] at k1
    rw [h2] at k2
    have HT := Lib.hid hT
    have HK1 := Lib.hid k1
    have HK2 := Lib.hid k2
    clear hT k1 k2 h1 h2
    go_enter Try.func20, Try.ntmps20
    go_upto_region 1 with fail
    refine wp_region_after_tail 28 (by kernel_rfl) (by kernel_rfl) ?_; simp only [List.take_succ_cons, List.take_zero, List.drop_succ_cons, List.drop_zero]; (repeat (go_big_quiet_step (((first | (go_at_call 58; with_reducible exact calls_after_same (HK1.out _)) | (go_at_call 58; with_reducible exact calls_after_same (HK2.out _))))))); refine wpQuiet_nil ?_; rintro _ ⟨z, rfl⟩; (first | ((with_reducible apply kp_in_after (z := z)); (with_reducible assumption); rintro ⟨hk, hc, hf, hzc, hzf⟩) | ((with_reducible refine kp_in_after0 z ?_); rintro ⟨hk, hc, hf, hzc, hzf⟩))
    go_wp2
    go_ret
    exact ⟨congrArg (fun n : Bool => Ending.returned (.bool n)) HT.out.symm, by (repeat (first | with_reducible exact Below.refl _ _ | with_reducible apply bl_alloc | with_reducible apply bl_drew | with_reducible apply bl_after | (with_reducible refine bl_call ?_ (by assumption))))⟩
  have hr := Lib.hid fun (z : After ((w.alloc (.cells #[(Value.int .i64 (S.xlo)), (Value.int .i64 (S.xhi)), (Value.int .i64 (S.ylo)), (Value.int .i64 (S.yhi)), .slice A S.cs.length ca, (Value.int .i64 (S.wrong))] 26)).alloc (.cells #[(Value.int .i64 (f.1)), (Value.int .i64 (f.2))] 40))) => rWrongs4 A ca S hS f (FacOk.of_in hS h1 h2) z.val (hX.below z.ok)
  rw [h1, h2, Bool.and_self, Bool.true_and] at hT
  rw [h1] at k1
  rw [h2] at k2
  have HT := Lib.hid hT
  have HK1 := Lib.hid k1
  have HK2 := Lib.hid k2
  clear hT k1 k2 h1 h2 hX
  go_enter Try.func20, Try.ntmps20
  go_upto_region 1 with fail
  refine wp_region_after_tail 28 (by kernel_rfl) (by kernel_rfl) ?_; simp only [List.take_succ_cons, List.take_zero, List.drop_succ_cons, List.drop_zero]; (repeat (go_big_quiet_step (((first | (go_at_call 58; with_reducible exact calls_after_same (HK1.out _)) | (go_at_call 58; with_reducible exact calls_after_same (HK2.out _)) | (go_at_call 59; with_reducible exact calls_after (hr.out _))))))); refine wpQuiet_nil ?_; rintro _ ⟨z, rfl⟩; (first | ((with_reducible apply kp_in_after (z := z)); (with_reducible assumption); rintro ⟨hk, hc, hf, hzc, hzf⟩) | ((with_reducible refine kp_in_after0 z ?_); rintro ⟨hk, hc, hf, hzc, hzf⟩))
  go_wp2
  go_ret
  exact ⟨congrArg (fun n : Bool => Ending.returned (.bool n)) HT.out.symm, by (repeat (first | with_reducible exact Below.refl _ _ | with_reducible apply bl_alloc | with_reducible apply bl_drew | with_reducible apply bl_after | (with_reducible refine bl_call ?_ (by assumption))))⟩
end Go.Proofs.Ytegdnbceiopklaa
