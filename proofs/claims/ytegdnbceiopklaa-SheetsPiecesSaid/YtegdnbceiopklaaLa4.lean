/- The functions sameInts, Far, ready, isPolygon, isKnown, abs and sane of the laws of sheets. -/
import Derived.Test.YtegdnbceiopklaaRa4
import Derived.Test.YtegdnbceiopklaaInts
import Derived.Test.YtegdnbceiopklaaOwn
import Derived.Test.YtegdnbceiopklaaRefCheck
namespace Go.Proofs.Ytegdnbceiopklaa
open Go.RowKit
attribute [local go_sem] After.cell After.frozen

theorem int_ext {l m : List Int} (h : l.length = m.length) (e : ∀ j, j < l.length → iat l j = iat m j) : l = m := by
  refine List.ext_getElem h fun i h1 h2 => ?_
  rw [iat_eq h1, iat_eq h2]
  exact e i h1
set_option maxRecDepth 100000 in
set_option maxHeartbeats 1000000 in
theorem sameInts4 (A B : Option Addr) (ca cb : Nat) (l m : List Int) (w : World) (ha : Ints w A l) (hb : Ints w B m) (hl : l.length ≤ 1000000) (_ : m.length ≤ 1000000) :
    Calls Try.prog 35 #[.slice A l.length ca, .slice B m.length cb] w fun e w' => e = .returned (.bool (decide (l = m))) ∧ Below w.heap.size w w' := by
  by_cases hlm : l.length = m.length
  · have hne : ((l.length : Int) != (m.length : Int)) = false := by rw [hlm]; simp
    have HL := Lib.hid hlm
    clear hlm
    go_enter Try.func35, Try.ntmps35
    go_wp2
    go_loopw [5] (fun i wr => ∃ k : Nat, k ≤ l.length ∧ i = (Value.int .i64 ((k : Int))) ∧ (∀ j, j < k → iat l j = iat m j) ∧ Below w.heap.size w wr) (fun i _ => l.length - (intOf i).toNat)
    case atStart => exact ⟨0, Nat.zero_le _, rfl, (fun j hj => by omega), by (repeat (first | with_reducible exact Below.refl _ _ | with_reducible apply bl_alloc | with_reducible apply bl_drew | with_reducible apply bl_after | (with_reducible refine bl_call ?_ (by assumption))))⟩
    case round =>
      obtain ⟨k, kn, rfl, HR, hbw⟩ := hrel
      replace HR := Lib.hid HR
      by_cases hlt : k < l.length
      · obtain ⟨b, o, rfl, pa⟩ := (ha.below hbw).at_ hlt
        have hlt2 : k < m.length := by have := HL.out; omega
        obtain ⟨b', o', rfl, pb⟩ := (hb.below hbw).at_ hlt2
        have x1 := pa.xi hlt
        have lb := pa.lt
        have x3 := pb.xi hlt2
        have lb2 := pb.lt
        have i1 : (k : Int) < (l.length : Int) := by omega
        have i2 : (k : Int) < (m.length : Int) := by omega
        by_cases he : iat l k = iat m k
        · have he' : (iat l k != iat m k) = false := by rw [he]; simp
          have hfin : Hid (∀ j, j < k + 1 → iat l j = iat m j) := Lib.hid fun j hj => by
            rcases Nat.lt_succ_iff_lt_or_eq.1 hj with h | h
            · exact HR.out j h
            · rw [h]; exact he
          clear he
          go_wp2
          refine wp_region_after (by kernel_rfl) (by kernel_rfl) ?_; (repeat (go_big_quiet_step ((fail)))); refine wpQuiet_nil ?_; rintro _ ⟨z, rfl⟩; (first | ((with_reducible apply kp_in_after (z := z)); (with_reducible assumption); rintro ⟨hk, hc, hf, hzc, hzf⟩) | ((with_reducible refine kp_in_after0 z ?_); rintro ⟨hk, hc, hf, hzc, hzf⟩))
          go_wp2
          go_roundw
          case rel => exact ⟨k + 1, by omega, by go_num, hfin.out, by (repeat (first | with_reducible exact Below.refl _ _ | with_reducible apply bl_alloc | with_reducible apply bl_drew | with_reducible apply bl_after | (with_reducible refine bl_call ?_ (by assumption))))⟩
          case measure => simp [intOf]; omega
        · have he' : (iat l k != iat m k) = true := by rw [bne_iff_ne]; exact he
          have hfin : Hid (decide (l = m) = false) := Lib.hid (decide_eq_false fun h => he (by rw [h]))
          clear he
          go_wp2
          refine wp_region_after (by kernel_rfl) (by kernel_rfl) ?_; (repeat (go_big_quiet_step ((fail)))); refine wpQuiet_nil ?_; rintro _ ⟨z, rfl⟩; (first | ((with_reducible apply kp_in_after (z := z)); (with_reducible assumption); rintro ⟨hk, hc, hf, hzc, hzf⟩) | ((with_reducible refine kp_in_after0 z ?_); rintro ⟨hk, hc, hf, hzc, hzf⟩))
          go_wp2
          go_ret
          refine ⟨ret_bool hfin.out.symm, by (repeat (first | with_reducible exact Below.refl _ _ | with_reducible apply bl_alloc | with_reducible apply bl_drew | with_reducible apply bl_after | (with_reducible refine bl_call ?_ (by assumption))))⟩
      · have hfin : Hid (decide (l = m) = true) := Lib.hid (decide_eq_true (int_ext HL.out fun j hj => HR.out j (by omega)))
        obtain rfl : k = l.length := by omega
        go_wp2
        go_ret
        refine ⟨ret_bool hfin.out.symm, by (repeat (first | with_reducible exact Below.refl _ _ | with_reducible apply bl_alloc | with_reducible apply bl_drew | with_reducible apply bl_after | (with_reducible refine bl_call ?_ (by assumption))))⟩
  · have hne : ((l.length : Int) != (m.length : Int)) = true := by rw [bne_iff_ne]; omega
    have hfin : Hid (decide (l = m) = false) := Lib.hid (decide_eq_false fun h => hlm (by rw [h]))
    clear hlm
    go_enter Try.func35, Try.ntmps35
    go_wp2
    go_ret
    exact ⟨ret_bool hfin.out.symm, by (repeat (first | with_reducible exact Below.refl _ _ | with_reducible apply bl_alloc | with_reducible apply bl_drew | with_reducible apply bl_after | (with_reducible refine bl_call ?_ (by assumption))))⟩

/-- Whether a law does not look at a sheet. -/
def farB (S : Sht) : Bool := decide (40 < S.cs.length) || (shtB S && decide (25 ≤ max (S.xhi - S.xlo) (S.yhi - S.ylo)))
set_option maxRecDepth 100000 in
set_option maxHeartbeats 1000000 in
theorem far4 (A : Option Addr) (ca : Nat) (S : Sht) (w : World) (ha : Cts w A S.cs) (hl : S.cs.length ≤ 9223372036854775807) :
    Calls Try.prog 11 #[(Value.agg #[(Value.int .i64 (S.xlo)), (Value.int .i64 (S.xhi)), (Value.int .i64 (S.ylo)), (Value.int .i64 (S.yhi)), .slice A S.cs.length ca, (Value.int .i64 (S.wrong))])] w fun e w' => e = .returned (.bool (farB S)) ∧ Below w.heap.size w w' := by
  have hC := fun (W : World) (h : Below w.heap.size w W) => rCheck4 A ca S W (ha.below h)
  have c1 : Blk (w.alloc (.cells #[(Value.int .i64 (S.xlo)), (Value.int .i64 (S.xhi)), (Value.int .i64 (S.ylo)), (Value.int .i64 (S.yhi)), .slice A S.cs.length ca, (Value.int .i64 (S.wrong))] 26)) w.heap.size 26 #[(Value.int .i64 (S.xlo)), (Value.int .i64 (S.xhi)), (Value.int .i64 (S.ylo)), (Value.int .i64 (S.yhi)), .slice A S.cs.length ca, (Value.int .i64 (S.wrong))] := Blk.new _ _ _
  (have la := c1.lt); (have ya0 := c1.cell 0); (have ya1 := c1.cell 1); (have ya2 := c1.cell 2); (have ya3 := c1.cell 3); (have ya4 := c1.cell 4); (have ya5 := c1.cell 5); simp only [List.getElem?_toArray, List.getElem?_cons_zero, List.getElem?_cons_succ] at ya0 ya1 ya2 ya3 ya4 ya5
  by_cases h1 : 40 < S.cs.length
  · have HF := Lib.hid (show farB S = true by rw [farB, decide_eq_true h1, Bool.true_or])
    clear ha hC
    go_enter Try.func11, Try.ntmps11
    go_wp2
    go_ret
    exact ⟨congrArg (fun n : Bool => Ending.returned (.bool n)) HF.out.symm, by (repeat (first | with_reducible exact Below.refl _ _ | with_reducible apply bl_alloc | with_reducible apply bl_drew | with_reducible apply bl_after | (with_reducible refine bl_call ?_ (by assumption))))⟩
  · by_cases h0 : shtB S = true
    · have hS := sht_ok h0
      have hE : chkS S = 0 := if_pos h0
      have HF := Lib.hid (show farB S = decide (25 ≤ max (S.xhi - S.xlo) (S.yhi - S.ylo)) by rw [farB, decide_eq_false h1, h0, Bool.false_or, Bool.true_and])
      rw [hE] at hC
      replace hC := Lib.hid hC
      have := hS.x0; have := hS.x1; have := hS.x2; have := hS.y0; have := hS.y1; have := hS.y2
      have z1 : IntKind.i64.wrap (S.xhi - S.xlo) = S.xhi - S.xlo := IntWalk.i64_in _ (by omega)
      have z2 : IntKind.i64.wrap (S.yhi - S.ylo) = S.yhi - S.ylo := IntWalk.i64_in _ (by omega)
      clear ha h0 hE
      go_enter Try.func11, Try.ntmps11
      go_wp2_with ((go_at_call 29); (with_reducible refine Calls.mono (hC.out _ (by (repeat (first | with_reducible exact Below.refl _ _ | with_reducible apply bl_alloc | with_reducible apply bl_drew | with_reducible apply bl_after | (with_reducible refine bl_call ?_ (by assumption)))))) ?_); rintro e wn ⟨rfl, hbn⟩; first | ((with_reducible apply kp_in_step (hb := hbn)); (with_reducible assumption); rintro ⟨hk, hc, hf, hzc, hzf⟩) | ((with_reducible refine kp_in_first hbn ?_); rintro ⟨hk, hc, hf, hzc, hzf⟩))
      go_ret
      exact ⟨congrArg (fun n : Bool => Ending.returned (.bool n)) HF.out.symm, by (repeat (first | with_reducible exact Below.refl _ _ | with_reducible apply bl_alloc | with_reducible apply bl_drew | with_reducible apply bl_after | (with_reducible refine bl_call ?_ (by assumption))))⟩
    · have hE : chkS S = 40 := if_neg h0
      have HF := Lib.hid (show farB S = false by rw [farB, decide_eq_false h1, show shtB S = false by simpa using h0]; rfl)
      rw [hE] at hC
      replace hC := Lib.hid hC
      clear ha h0 hE
      go_enter Try.func11, Try.ntmps11
      go_wp2_with ((go_at_call 29); (with_reducible refine Calls.mono (hC.out _ (by (repeat (first | with_reducible exact Below.refl _ _ | with_reducible apply bl_alloc | with_reducible apply bl_drew | with_reducible apply bl_after | (with_reducible refine bl_call ?_ (by assumption)))))) ?_); rintro e wn ⟨rfl, hbn⟩; first | ((with_reducible apply kp_in_step (hb := hbn)); (with_reducible assumption); rintro ⟨hk, hc, hf, hzc, hzf⟩) | ((with_reducible refine kp_in_first hbn ?_); rintro ⟨hk, hc, hf, hzc, hzf⟩))
      go_ret
      exact ⟨congrArg (fun n : Bool => Ending.returned (.bool n)) HF.out.symm, by (repeat (first | with_reducible exact Below.refl _ _ | with_reducible apply bl_alloc | with_reducible apply bl_drew | with_reducible apply bl_after | (with_reducible refine bl_call ?_ (by assumption))))⟩
def rdyB (S : Sht) : Bool := !farB S && shtB S
set_option maxRecDepth 100000 in
set_option maxHeartbeats 1000000 in
theorem ready4 (A : Option Addr) (ca : Nat) (S : Sht) (w : World) (ha : Cts w A S.cs) (hl : S.cs.length ≤ 9223372036854775807) :
    Calls Try.prog 18 #[(Value.agg #[(Value.int .i64 (S.xlo)), (Value.int .i64 (S.xhi)), (Value.int .i64 (S.ylo)), (Value.int .i64 (S.yhi)), .slice A S.cs.length ca, (Value.int .i64 (S.wrong))])] w fun e w' => e = .returned (.bool (rdyB S)) ∧ Below w.heap.size w w' := by
  have hC := fun (W : World) (h : Below w.heap.size w W) => rCheck4 A ca S W (ha.below h)
  have hF := fun (W : World) (h : Below w.heap.size w W) => far4 A ca S W (ha.below h) hl
  have c1 : Blk (w.alloc (.cells #[(Value.int .i64 (S.xlo)), (Value.int .i64 (S.xhi)), (Value.int .i64 (S.ylo)), (Value.int .i64 (S.yhi)), .slice A S.cs.length ca, (Value.int .i64 (S.wrong))] 26)) w.heap.size 26 #[(Value.int .i64 (S.xlo)), (Value.int .i64 (S.xhi)), (Value.int .i64 (S.ylo)), (Value.int .i64 (S.yhi)), .slice A S.cs.length ca, (Value.int .i64 (S.wrong))] := Blk.new _ _ _
  (have la := c1.lt); (have ya0 := c1.cell 0); (have ya1 := c1.cell 1); (have ya2 := c1.cell 2); (have ya3 := c1.cell 3); (have ya4 := c1.cell 4); (have ya5 := c1.cell 5); simp only [List.getElem?_toArray, List.getElem?_cons_zero, List.getElem?_cons_succ] at ya0 ya1 ya2 ya3 ya4 ya5
  have hR : rdyB S = (!farB S && shtB S) := rfl
  have hE : chkS S = if shtB S = true then 0 else 40 := rfl
  cases h1 : farB S <;> cases h2 : shtB S <;> rw [h1] at hF hR <;> rw [h2] at hR hE <;> simp only [Bool.false_eq_true, if_true, if_false] at hE <;> rw [hE] at hC <;> (have HR := Lib.hid hR) <;> replace hC := Lib.hid hC <;> replace hF := Lib.hid hF
  all_goals
    clear ha h1 h2 hR hE hl
    go_enter Try.func18, Try.ntmps18
    go_wp2_with (first | ((go_at_call 11); (with_reducible refine Calls.mono (hF.out _ (by (repeat (first | with_reducible exact Below.refl _ _ | with_reducible apply bl_alloc | with_reducible apply bl_drew | with_reducible apply bl_after | (with_reducible refine bl_call ?_ (by assumption)))))) ?_); rintro e wn ⟨rfl, hbn⟩; first | ((with_reducible apply kp_in_step (hb := hbn)); (with_reducible assumption); rintro ⟨hk, hc, hf, hzc, hzf⟩) | ((with_reducible refine kp_in_first hbn ?_); rintro ⟨hk, hc, hf, hzc, hzf⟩)) | ((go_at_call 29); (with_reducible refine Calls.mono (hC.out _ (by (repeat (first | with_reducible exact Below.refl _ _ | with_reducible apply bl_alloc | with_reducible apply bl_drew | with_reducible apply bl_after | (with_reducible refine bl_call ?_ (by assumption)))))) ?_); rintro e wn ⟨rfl, hbn⟩; first | ((with_reducible apply kp_in_step (hb := hbn)); (with_reducible assumption); rintro ⟨hk, hc, hf, hzc, hzf⟩) | ((with_reducible refine kp_in_first hbn ?_); rintro ⟨hk, hc, hf, hzc, hzf⟩)))
    go_ret
    exact ⟨congrArg (fun n : Bool => Ending.returned (.bool n)) HR.out.symm, by (repeat (first | with_reducible exact Below.refl _ _ | with_reducible apply bl_alloc | with_reducible apply bl_drew | with_reducible apply bl_after | (with_reducible refine bl_call ?_ (by assumption))))⟩
def polB (l : List Pt) : Bool := decide (l.length ≤ 40) && decide (chk l = 0)
theorem polB_ok {l : List Pt} : polB l = true ↔ Ok l := by
  unfold polB
  simp only [Bool.and_eq_true, decide_eq_true_eq]
  constructor
  · intro h
    by_cases hok : Ok l
    · exact hok
    · rw [chk_no hok] at h; omega
  · intro h
    have := h.1
    exact ⟨by omega, chk_ok h⟩
set_option maxRecDepth 100000 in
set_option maxHeartbeats 1000000 in
theorem isPolygon4 (A : Option Addr) (ca : Nat) (l : List Pt) (w : World) (ha : Pts w A l) (hl : l.length ≤ 9223372036854775807) :
    Calls Try.prog 19 #[.slice A l.length ca] w fun e w' => e = .returned (.bool (polB l)) ∧ Below w.heap.size w w' := by
  by_cases h1 : l.length ≤ 40
  · have hC := Lib.hid fun (W : World) (h : Below w.heap.size w W) => rCheck_any A ca l W (ha.below h) (by omega)
    have hF := fun (W : World) => Far_any A ca l.length W hl
    rw [decide_eq_false (show ¬ 40 < l.length by omega)] at hF
    replace hF := Lib.hid hF
    have HR := Lib.hid (show polB l = (chk l == 0) by rw [polB, decide_eq_true h1, Bool.true_and]; rfl)
    clear ha h1 hl
    go_enter Try.func19, Try.ntmps19
    go_wp2_with (first | (go_at_call 12; with_reducible refine Calls.mono (hF.out _) ?_; rintro e w' ⟨rfl, rfl⟩) | ((go_at_call 48); (with_reducible refine Calls.mono (hC.out _ (by (repeat (first | with_reducible exact Below.refl _ _ | with_reducible apply bl_alloc | with_reducible apply bl_drew | with_reducible apply bl_after | (with_reducible refine bl_call ?_ (by assumption)))))) ?_); rintro e wn ⟨rfl, hbn⟩; first | ((with_reducible apply kp_in_step (hb := hbn)); (with_reducible assumption); rintro ⟨hk, hc, hf, hzc, hzf⟩) | ((with_reducible refine kp_in_first hbn ?_); rintro ⟨hk, hc, hf, hzc, hzf⟩)))
    go_ret
    exact ⟨congrArg (fun n : Bool => Ending.returned (.bool n)) HR.out.symm, by (repeat (first | with_reducible exact Below.refl _ _ | with_reducible apply bl_alloc | with_reducible apply bl_drew | with_reducible apply bl_after | (with_reducible refine bl_call ?_ (by assumption))))⟩
  · have hF := fun (W : World) => Far_any A ca l.length W hl
    rw [decide_eq_true (show 40 < l.length by omega)] at hF
    replace hF := Lib.hid hF
    have HR := Lib.hid (show polB l = false by rw [polB, decide_eq_false h1, Bool.false_and])
    clear ha h1 hl
    go_enter Try.func19, Try.ntmps19
    go_wp2_with (first | (go_at_call 12; with_reducible refine Calls.mono (hF.out _) ?_; rintro e w' ⟨rfl, rfl⟩))
    go_ret
    exact ⟨congrArg (fun n : Bool => Ending.returned (.bool n)) HR.out.symm, by (repeat (first | with_reducible exact Below.refl _ _ | with_reducible apply bl_alloc | with_reducible apply bl_drew | with_reducible apply bl_after | (with_reducible refine bl_call ?_ (by assumption))))⟩
set_option maxRecDepth 100000 in
set_option maxHeartbeats 2000000 in
theorem same4 (A B : Option Addr) (ca cb : Nat) (S : Sht) (w : World) (ha : Cts w A S.cs) (hb : Cts w B S.cs) (hl : S.cs.length ≤ 1000000) :
    Calls Try.prog 36 #[(Value.agg #[(Value.int .i64 (S.xlo)), (Value.int .i64 (S.xhi)), (Value.int .i64 (S.ylo)), (Value.int .i64 (S.yhi)), .slice A S.cs.length ca, (Value.int .i64 (S.wrong))]), (Value.agg #[(Value.int .i64 (S.xlo)), (Value.int .i64 (S.xhi)), (Value.int .i64 (S.ylo)), (Value.int .i64 (S.yhi)), .slice B S.cs.length cb, (Value.int .i64 (S.wrong))])] w fun e w' => e = .returned (.bool true) ∧ Below w.heap.size w w' := by
  have c1 : Blk ((w.alloc (.cells #[(Value.int .i64 (S.xlo)), (Value.int .i64 (S.xhi)), (Value.int .i64 (S.ylo)), (Value.int .i64 (S.yhi)), .slice A S.cs.length ca, (Value.int .i64 (S.wrong))] 26)).alloc (.cells #[(Value.int .i64 (S.xlo)), (Value.int .i64 (S.xhi)), (Value.int .i64 (S.ylo)), (Value.int .i64 (S.yhi)), .slice B S.cs.length cb, (Value.int .i64 (S.wrong))] 26)) w.heap.size 26 #[(Value.int .i64 (S.xlo)), (Value.int .i64 (S.xhi)), (Value.int .i64 (S.ylo)), (Value.int .i64 (S.yhi)), .slice A S.cs.length ca, (Value.int .i64 (S.wrong))] := (Blk.new _ _ _).alloc _
  have c2 : Blk ((w.alloc (.cells #[(Value.int .i64 (S.xlo)), (Value.int .i64 (S.xhi)), (Value.int .i64 (S.ylo)), (Value.int .i64 (S.yhi)), .slice A S.cs.length ca, (Value.int .i64 (S.wrong))] 26)).alloc (.cells #[(Value.int .i64 (S.xlo)), (Value.int .i64 (S.xhi)), (Value.int .i64 (S.ylo)), (Value.int .i64 (S.yhi)), .slice B S.cs.length cb, (Value.int .i64 (S.wrong))] 26)) (w.heap.size + 1) 26 #[(Value.int .i64 (S.xlo)), (Value.int .i64 (S.xhi)), (Value.int .i64 (S.ylo)), (Value.int .i64 (S.yhi)), .slice B S.cs.length cb, (Value.int .i64 (S.wrong))] := Blk.new_at (by simp)
  have hb0 : Below w.heap.size w ((w.alloc (.cells #[(Value.int .i64 (S.xlo)), (Value.int .i64 (S.xhi)), (Value.int .i64 (S.ylo)), (Value.int .i64 (S.yhi)), .slice A S.cs.length ca, (Value.int .i64 (S.wrong))] 26)).alloc (.cells #[(Value.int .i64 (S.xlo)), (Value.int .i64 (S.xhi)), (Value.int .i64 (S.ylo)), (Value.int .i64 (S.yhi)), .slice B S.cs.length cb, (Value.int .i64 (S.wrong))] 26)) := by (repeat (first | with_reducible exact Below.refl _ _ | with_reducible apply bl_alloc | with_reducible apply bl_drew | with_reducible apply bl_after | (with_reducible refine bl_call ?_ (by assumption))))
  have hA := ha.below hb0
  have hB := hb.below hb0
  (have la := c1.lt); (have ya0 := c1.cell 0); (have ya1 := c1.cell 1); (have ya2 := c1.cell 2); (have ya3 := c1.cell 3); (have ya4 := c1.cell 4); (have ya5 := c1.cell 5); simp only [List.getElem?_toArray, List.getElem?_cons_zero, List.getElem?_cons_succ] at ya0 ya1 ya2 ya3 ya4 ya5
  (have lb := c2.lt); (have yb0 := c2.cell 0); (have yb1 := c2.cell 1); (have yb2 := c2.cell 2); (have yb3 := c2.cell 3); (have yb4 := c2.cell 4); (have yb5 := c2.cell 5); simp only [List.getElem?_toArray, List.getElem?_cons_zero, List.getElem?_cons_succ] at yb0 yb1 yb2 yb3 yb4 yb5
  clear ha hb
  go_enter Try.func36, Try.ntmps36
  go_wp2
  clear la ya0 ya1 ya2 ya3 ya4 ya5 lb yb0 yb1 yb2 yb3 yb4 yb5
  generalize (w.alloc (.cells #[(Value.int .i64 (S.xlo)), (Value.int .i64 (S.xhi)), (Value.int .i64 (S.ylo)), (Value.int .i64 (S.yhi)), .slice A S.cs.length ca, (Value.int .i64 (S.wrong))] 26)).alloc (.cells #[(Value.int .i64 (S.xlo)), (Value.int .i64 (S.xhi)), (Value.int .i64 (S.ylo)), (Value.int .i64 (S.yhi)), .slice B S.cs.length cb, (Value.int .i64 (S.wrong))] 26) = W0 at *
  go_loopw [5] (fun i wr => ∃ k : Nat, k ≤ S.cs.length ∧ i = (Value.int .i64 ((k : Int))) ∧ Below W0.heap.size W0 wr) (fun i _ => S.cs.length - (intOf i).toNat)
  case atStart => exact ⟨0, Nat.zero_le _, rfl, Below.refl _ _⟩
  case round =>
    obtain ⟨k, kn, rfl, hbr⟩ := hrel
    have hbR := bl_call hb0 hbr
    have d1 := c1.below hbr
    have d2 := c2.below hbr
    (have la := d1.lt); (have ya0 := d1.cell 0); (have ya1 := d1.cell 1); (have ya2 := d1.cell 2); (have ya3 := d1.cell 3); (have ya4 := d1.cell 4); (have ya5 := d1.cell 5); simp only [List.getElem?_toArray, List.getElem?_cons_zero, List.getElem?_cons_succ] at ya0 ya1 ya2 ya3 ya4 ya5
    (have lb := d2.lt); (have yb0 := d2.cell 0); (have yb1 := d2.cell 1); (have yb2 := d2.cell 2); (have yb3 := d2.cell 3); (have yb4 := d2.cell 4); (have yb5 := d2.cell 5); simp only [List.getElem?_toArray, List.getElem?_cons_zero, List.getElem?_cons_succ] at yb0 yb1 yb2 yb3 yb4 yb5
    by_cases hlt : k < S.cs.length
    · obtain ⟨bc, oc, hA', pc⟩ := (hA.below hbr).at_ hlt
      obtain ⟨lc, x1, x2, x3, x4⟩ := ctl_cells pc hlt
      obtain ⟨bd, od, hB', pd⟩ := (hB.below hbr).at_ hlt
      obtain ⟨ld, v1, v2, v3, v4⟩ := ctl_cells pd hlt
      subst hA'; subst hB'
      clear pc pd d1 d2
      go_wp2
      refine wp_region_after (by kernel_rfl) (by kernel_rfl) ?_; (repeat (go_big_quiet_step ((fail)))); refine wpQuiet_nil ?_; rintro _ ⟨z, rfl⟩; (first | ((with_reducible apply kp_in_after (z := z)); (with_reducible assumption); rintro ⟨hk, hc, hf, hzc, hzf⟩) | ((with_reducible refine kp_in_after0 z ?_); rintro ⟨hk, hc, hf, hzc, hzf⟩))
      go_wp2
      go_roundw
      case rel => exact ⟨k + 1, by omega, by go_num, bl_after z hbr⟩
      case measure => simp [intOf]; omega
    · obtain rfl : k = S.cs.length := by omega
      go_wp2
      go_ret
      exact ⟨rfl, hbR⟩
end Go.Proofs.Ytegdnbceiopklaa
