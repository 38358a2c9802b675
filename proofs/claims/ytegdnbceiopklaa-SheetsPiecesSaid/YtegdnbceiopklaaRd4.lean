/- The reference's functions Truths, Many, Known, Alike and Strange of sheets. -/
import Derived.Test.YtegdnbceiopklaaRc4
import Derived.Test.YtegdnbceiopklaaSt4
namespace Go.Proofs.Ytegdnbceiopklaa
open Go.RowKit Go.Shelf
attribute [local go_sem] After.cell After.frozen

def knwN (a b : Int) : Int := if a = b then 1 else if a = 0 then 2 else 3
theorem knw_eq (p : Pt → Bool) (l : List Pt) : knw p l = knwN ((cnt p l : Nat) : Int) (l.length : Int) := by
  unfold knw knwN
  by_cases h1 : cnt p l = l.length
  · rw [if_pos h1, if_pos (show ((cnt p l : Nat) : Int) = (l.length : Int) by rw [h1])]
  · rw [if_neg h1, if_neg (show ¬ ((cnt p l : Nat) : Int) = (l.length : Int) by omega)]
    by_cases h2 : cnt p l = 0
    · rw [if_pos h2, if_pos (show ((cnt p l : Nat) : Int) = 0 by rw [h2]; rfl)]
    · rw [if_neg h2, if_neg (show ¬ ((cnt p l : Nat) : Int) = 0 by omega)]
set_option maxHeartbeats 1000000 in
theorem rKnownN (a b : Int) (w : World) :
    Calls Try.prog 57 #[(Value.int .i64 (a)), (Value.int .i64 (b))] w fun e w' => e = .returned (Value.int .i64 (knwN a b)) ∧ w = w' := by
  have HN := Lib.hid (show knwN a b = if a = b then 1 else if a = 0 then 2 else 3 from rfl)
  go_enter Try.func57, Try.ntmps57
  go_wp2
  all_goals (go_ret; refine ⟨?_, rfl⟩; apply ret_int; rw [HN.out]; simp only [beq_iff_eq, beq_eq_false_iff_ne] at *; (repeat' split) <;> first | rfl | (exfalso; omega))
theorem knL_ok {S : Sht} {er : Int} {is : Bool} (h : knE S er is = 0) : knL S er is = trs S := if_pos h
theorem knL_no {S : Sht} {er : Int} {is : Bool} (h : knE S er is ≠ 0) : knL S er is = [] := if_neg h
/-- What known answers if nothing is wrong. -/
theorem rKn_ok (A : Option Addr) (ca : Nat) (S : Sht) (er : Int) (is : Bool) (w : World) (ha : Cts w A S.cs) (h : knE S er is = 0) :
    Calls Try.prog 55 #[(Value.agg #[(Value.int .i64 (S.xlo)), (Value.int .i64 (S.xhi)), (Value.int .i64 (S.ylo)), (Value.int .i64 (S.yhi)), .slice A S.cs.length ca, (Value.int .i64 (S.wrong))]), (Value.int .i64 (er)), .bool is] w fun e w' => (∃ A' ca', e = .returned (.tuple #[.slice A' (trs S).length ca', (Value.int .i64 (0))]) ∧ Prs w' A' (trs S)) ∧ Below w.heap.size w w' := by
  have := rKnown4 A ca S er is w ha
  rwa [knL_ok h, h] at this
theorem rKn_no (A : Option Addr) (ca : Nat) (S : Sht) (er : Int) (is : Bool) (w : World) (ha : Cts w A S.cs) (h : knE S er is ≠ 0) :
    Calls Try.prog 55 #[(Value.agg #[(Value.int .i64 (S.xlo)), (Value.int .i64 (S.xhi)), (Value.int .i64 (S.ylo)), (Value.int .i64 (S.yhi)), .slice A S.cs.length ca, (Value.int .i64 (S.wrong))]), (Value.int .i64 (er)), .bool is] w fun e w' => (∃ A' ca', e = .returned (.tuple #[.slice A' 0 ca', (Value.int .i64 (knE S er is))])) ∧ Below w.heap.size w w' := by
  have := rKnown4 A ca S er is w ha
  rw [knL_no h] at this
  exact this.mono fun e w' ⟨⟨A', ca', h1, _⟩, h2⟩ => ⟨⟨A', ca', h1⟩, h2⟩
set_option maxRecDepth 100000 in
set_option maxHeartbeats 2000000 in
theorem rTruths4 (A : Option Addr) (ca : Nat) (S : Sht) (w : World) (ha : Cts w A S.cs) :
    Calls Try.prog 46 #[(Value.agg #[(Value.int .i64 (S.xlo)), (Value.int .i64 (S.xhi)), (Value.int .i64 (S.ylo)), (Value.int .i64 (S.yhi)), .slice A S.cs.length ca, (Value.int .i64 (S.wrong))])] w fun e w' => e = .returned (Value.int .i64 (opS S true)) ∧ Below w.heap.size w w' := by
  (have hok := fun (W : World) (h : Below w.heap.size w W) => rKn_ok A ca S 0 true W (ha.below h)); (have hno := fun (W : World) (h : Below w.heap.size w W) => rKn_no A ca S 0 true W (ha.below h)); rw [knE_zero] at hok hno; (have c1 : Blk (w.alloc (.cells #[(Value.int .i64 (S.xlo)), (Value.int .i64 (S.xhi)), (Value.int .i64 (S.ylo)), (Value.int .i64 (S.yhi)), .slice A S.cs.length ca, (Value.int .i64 (S.wrong))] 26)) w.heap.size 26 #[(Value.int .i64 (S.xlo)), (Value.int .i64 (S.xhi)), (Value.int .i64 (S.ylo)), (Value.int .i64 (S.yhi)), .slice A S.cs.length ca, (Value.int .i64 (S.wrong))] := Blk.new _ _ _); (have hb0 : Below w.heap.size w (w.alloc (.cells #[(Value.int .i64 (S.xlo)), (Value.int .i64 (S.xhi)), (Value.int .i64 (S.ylo)), (Value.int .i64 (S.yhi)), .slice A S.cs.length ca, (Value.int .i64 (S.wrong))] 26)) := by (repeat (first | with_reducible exact Below.refl _ _ | with_reducible apply bl_alloc | with_reducible apply bl_drew | with_reducible apply bl_after | (with_reducible refine bl_call ?_ (by assumption))))); (have la := c1.lt); (have ya0 := c1.cell 0); (have ya1 := c1.cell 1); (have ya2 := c1.cell 2); (have ya3 := c1.cell 3); (have ya4 := c1.cell 4); (have ya5 := c1.cell 5); simp only [List.getElem?_toArray, List.getElem?_cons_zero, List.getElem?_cons_succ] at ya0 ya1 ya2 ya3 ya4 ya5
  by_cases h : opS S true = 0
  · have HK := Lib.hid fun W h1 => hok W h1 h
    rw [h]
    clear h hok hno
    go_enter Try.func46, Try.ntmps46
    go_wp2_with ((go_at_call 55); (with_reducible refine Calls.mono (HK.out _ (by (repeat (first | with_reducible exact Below.refl _ _ | with_reducible apply bl_alloc | with_reducible apply bl_drew | with_reducible apply bl_after | (with_reducible refine bl_call ?_ (by assumption)))))) ?_); rintro e1 w1 ⟨⟨A1, ca1, rfl, hI⟩, hb1⟩; first | ((with_reducible apply kp_in_step (hb := hb1)); (with_reducible assumption); rintro ⟨hk, hc, hf, hzc, hzf⟩) | ((with_reducible refine kp_in_first hb1 ?_); rintro ⟨hk, hc, hf, hzc, hzf⟩))
    go_ret
    exact ⟨rfl, by (repeat (first | with_reducible exact Below.refl _ _ | with_reducible apply bl_alloc | with_reducible apply bl_drew | with_reducible apply bl_after | (with_reducible refine bl_call ?_ (by assumption))))⟩
  · have HK := Lib.hid fun W h1 => hno W h1 h
    clear h hok hno
    go_enter Try.func46, Try.ntmps46
    go_wp2_with ((go_at_call 55); (with_reducible refine Calls.mono (HK.out _ (by (repeat (first | with_reducible exact Below.refl _ _ | with_reducible apply bl_alloc | with_reducible apply bl_drew | with_reducible apply bl_after | (with_reducible refine bl_call ?_ (by assumption)))))) ?_); rintro e1 w1 ⟨⟨A1, ca1, rfl⟩, hb1⟩; first | ((with_reducible apply kp_in_step (hb := hb1)); (with_reducible assumption); rintro ⟨hk, hc, hf, hzc, hzf⟩) | ((with_reducible refine kp_in_first hb1 ?_); rintro ⟨hk, hc, hf, hzc, hzf⟩))
    go_ret
    exact ⟨rfl, by (repeat (first | with_reducible exact Below.refl _ _ | with_reducible apply bl_alloc | with_reducible apply bl_drew | with_reducible apply bl_after | (with_reducible refine bl_call ?_ (by assumption))))⟩
/-- How many truths there are. -/
def mnN (S : Sht) : Int := if opS S true = 0 then ((trs S).length : Int) else 0
set_option maxRecDepth 100000 in
set_option maxHeartbeats 2000000 in
theorem rMany4 (A : Option Addr) (ca : Nat) (S : Sht) (w : World) (ha : Cts w A S.cs) :
    Calls Try.prog 32 #[(Value.agg #[(Value.int .i64 (S.xlo)), (Value.int .i64 (S.xhi)), (Value.int .i64 (S.ylo)), (Value.int .i64 (S.yhi)), .slice A S.cs.length ca, (Value.int .i64 (S.wrong))])] w fun e w' => e = .returned (.tuple #[(Value.int .i64 (mnN S)), (Value.int .i64 (opS S true))]) ∧ Below w.heap.size w w' := by
  (have hok := fun (W : World) (h : Below w.heap.size w W) => rKn_ok A ca S 0 true W (ha.below h)); (have hno := fun (W : World) (h : Below w.heap.size w W) => rKn_no A ca S 0 true W (ha.below h)); rw [knE_zero] at hok hno; (have c1 : Blk (w.alloc (.cells #[(Value.int .i64 (S.xlo)), (Value.int .i64 (S.xhi)), (Value.int .i64 (S.ylo)), (Value.int .i64 (S.yhi)), .slice A S.cs.length ca, (Value.int .i64 (S.wrong))] 26)) w.heap.size 26 #[(Value.int .i64 (S.xlo)), (Value.int .i64 (S.xhi)), (Value.int .i64 (S.ylo)), (Value.int .i64 (S.yhi)), .slice A S.cs.length ca, (Value.int .i64 (S.wrong))] := Blk.new _ _ _); (have hb0 : Below w.heap.size w (w.alloc (.cells #[(Value.int .i64 (S.xlo)), (Value.int .i64 (S.xhi)), (Value.int .i64 (S.ylo)), (Value.int .i64 (S.yhi)), .slice A S.cs.length ca, (Value.int .i64 (S.wrong))] 26)) := by (repeat (first | with_reducible exact Below.refl _ _ | with_reducible apply bl_alloc | with_reducible apply bl_drew | with_reducible apply bl_after | (with_reducible refine bl_call ?_ (by assumption))))); (have la := c1.lt); (have ya0 := c1.cell 0); (have ya1 := c1.cell 1); (have ya2 := c1.cell 2); (have ya3 := c1.cell 3); (have ya4 := c1.cell 4); (have ya5 := c1.cell 5); simp only [List.getElem?_toArray, List.getElem?_cons_zero, List.getElem?_cons_succ] at ya0 ya1 ya2 ya3 ya4 ya5
  by_cases h : opS S true = 0
  · have HK := Lib.hid fun W h1 => hok W h1 h
    rw [mnN, if_pos h, h]
    clear h hok hno
    go_enter Try.func32, Try.ntmps32
    go_wp2_with ((go_at_call 55); (with_reducible refine Calls.mono (HK.out _ (by (repeat (first | with_reducible exact Below.refl _ _ | with_reducible apply bl_alloc | with_reducible apply bl_drew | with_reducible apply bl_after | (with_reducible refine bl_call ?_ (by assumption)))))) ?_); rintro e1 w1 ⟨⟨A1, ca1, rfl, hI⟩, hb1⟩; first | ((with_reducible apply kp_in_step (hb := hb1)); (with_reducible assumption); rintro ⟨hk, hc, hf, hzc, hzf⟩) | ((with_reducible refine kp_in_first hb1 ?_); rintro ⟨hk, hc, hf, hzc, hzf⟩))
    go_ret2
    exact ⟨rfl, by (repeat (first | with_reducible exact Below.refl _ _ | with_reducible apply bl_alloc | with_reducible apply bl_drew | with_reducible apply bl_after | (with_reducible refine bl_call ?_ (by assumption))))⟩
  · have HK := Lib.hid fun W h1 => hno W h1 h
    rw [mnN, if_neg h]
    clear h hok hno
    go_enter Try.func32, Try.ntmps32
    go_wp2_with ((go_at_call 55); (with_reducible refine Calls.mono (HK.out _ (by (repeat (first | with_reducible exact Below.refl _ _ | with_reducible apply bl_alloc | with_reducible apply bl_drew | with_reducible apply bl_after | (with_reducible refine bl_call ?_ (by assumption)))))) ?_); rintro e1 w1 ⟨⟨A1, ca1, rfl⟩, hb1⟩; first | ((with_reducible apply kp_in_step (hb := hb1)); (with_reducible assumption); rintro ⟨hk, hc, hf, hzc, hzf⟩) | ((with_reducible refine kp_in_first hb1 ?_); rintro ⟨hk, hc, hf, hzc, hzf⟩))
    go_ret2
    exact ⟨rfl, by (repeat (first | with_reducible exact Below.refl _ _ | with_reducible apply bl_alloc | with_reducible apply bl_drew | with_reducible apply bl_after | (with_reducible refine bl_call ?_ (by assumption))))⟩
set_option maxRecDepth 100000 in
set_option maxHeartbeats 2000000 in
theorem rAlike4 (A : Option Addr) (ca : Nat) (S : Sht) (w : World) (ha : Cts w A S.cs) :
    Calls Try.prog 42 #[(Value.agg #[(Value.int .i64 (S.xlo)), (Value.int .i64 (S.xhi)), (Value.int .i64 (S.ylo)), (Value.int .i64 (S.yhi)), .slice A S.cs.length ca, (Value.int .i64 (S.wrong))])] w fun e w' => e = .returned (.tuple #[(Value.int .i64 (alV S)), (Value.int .i64 (opS S true))]) ∧ Below w.heap.size w w' := by
  (have hok := fun (W : World) (h : Below w.heap.size w W) => rKn_ok A ca S 0 true W (ha.below h)); (have hno := fun (W : World) (h : Below w.heap.size w W) => rKn_no A ca S 0 true W (ha.below h)); rw [knE_zero] at hok hno; (have c1 : Blk (w.alloc (.cells #[(Value.int .i64 (S.xlo)), (Value.int .i64 (S.xhi)), (Value.int .i64 (S.ylo)), (Value.int .i64 (S.yhi)), .slice A S.cs.length ca, (Value.int .i64 (S.wrong))] 26)) w.heap.size 26 #[(Value.int .i64 (S.xlo)), (Value.int .i64 (S.xhi)), (Value.int .i64 (S.ylo)), (Value.int .i64 (S.yhi)), .slice A S.cs.length ca, (Value.int .i64 (S.wrong))] := Blk.new _ _ _); (have hb0 : Below w.heap.size w (w.alloc (.cells #[(Value.int .i64 (S.xlo)), (Value.int .i64 (S.xhi)), (Value.int .i64 (S.ylo)), (Value.int .i64 (S.yhi)), .slice A S.cs.length ca, (Value.int .i64 (S.wrong))] 26)) := by (repeat (first | with_reducible exact Below.refl _ _ | with_reducible apply bl_alloc | with_reducible apply bl_drew | with_reducible apply bl_after | (with_reducible refine bl_call ?_ (by assumption))))); (have la := c1.lt); (have ya0 := c1.cell 0); (have ya1 := c1.cell 1); (have ya2 := c1.cell 2); (have ya3 := c1.cell 3); (have ya4 := c1.cell 4); (have ya5 := c1.cell 5); simp only [List.getElem?_toArray, List.getElem?_cons_zero, List.getElem?_cons_succ] at ya0 ya1 ya2 ya3 ya4 ya5
  by_cases h : opS S true = 0
  · have HK := Lib.hid fun W h1 => hok W h1 h
    have hS := sht_ok (opS_zero h).1
    have HV := Lib.hid (show alV S = knwN ((cnt alB (trs S) : Nat) : Int) ((trs S).length : Int) by rw [alV, if_pos h, knw_eq])
    have hlen := trs_bd hS
    rw [h]
    clear h hok hno
    have hkn := Lib.hid rKnownN
    go_enter Try.func42, Try.ntmps42
    go_wp2_with ((go_at_call 55); (with_reducible refine Calls.mono (HK.out _ (by (repeat (first | with_reducible exact Below.refl _ _ | with_reducible apply bl_alloc | with_reducible apply bl_drew | with_reducible apply bl_after | (with_reducible refine bl_call ?_ (by assumption)))))) ?_); rintro e1 w1 ⟨⟨A1, ca1, rfl, hI⟩, hb1⟩; first | ((with_reducible apply kp_in_step (hb := hb1)); (with_reducible assumption); rintro ⟨hk, hc, hf, hzc, hzf⟩) | ((with_reducible refine kp_in_first hb1 ?_); rintro ⟨hk, hc, hf, hzc, hzf⟩))
    have hbW := bl_call hb0 hb1
    clear la ya0 ya1 ya2 ya3 ya4 ya5 hb0 hb1 HK ha c1
    ((try clear hk hc hf hzc hzf); (try clear hk hc hf hzc hzf); (try clear hk hc hf hzc hzf); (try clear hk hc hf hzc hzf))
    go_loopw [6, 7] (fun n i wr => ∃ k : Nat, k ≤ (trs S).length ∧ i = (Value.int .i64 ((k : Int))) ∧ n = (Value.int .i64 (((cntTo alB (trs S) k : Nat) : Int))) ∧ Below w1.heap.size w1 wr) (fun _ i _ => (trs S).length - (intOf i).toNat)
    case atStart => exact ⟨0, Nat.zero_le _, rfl, rfl, Below.refl _ _⟩
    case round =>
      obtain ⟨k, kn, rfl, rfl, hbr⟩ := hrel
      have hbR := bl_call hbW hbr
      by_cases hlt : k < (trs S).length
      · obtain ⟨bc, oc, rfl, pc⟩ := (hI.below hbr).at_ hlt
        obtain ⟨lc, x1, x2⟩ := prs_cells pc hlt
        have hsu := cntTo_succ (p := alB) (pat_get hlt)
        have hcl := cntTo_le alB (trs S) k
        have hal : alB (pat (trs S) k) = ((pat (trs S) k).1 == (pat (trs S) k).2) := rfl
        rw [hal] at hsu
        clear pc hal
        cases h2 : (pat (trs S) k).1 == (pat (trs S) k).2 <;> rw [h2] at hsu <;> simp only [Bool.false_eq_true, if_false, if_true, Nat.add_zero] at hsu <;> replace hsu := Lib.hid hsu
        all_goals
          go_wp2
          refine wp_region_after (by kernel_rfl) (by kernel_rfl) ?_; (repeat (go_big_quiet_step ((fail)))); refine wpQuiet_nil ?_; rintro _ ⟨z, rfl⟩; (first | ((with_reducible apply kp_in_after (z := z)); (with_reducible assumption); rintro ⟨hk, hc, hf, hzc, hzf⟩) | ((with_reducible refine kp_in_after0 z ?_); rintro ⟨hk, hc, hf, hzc, hzf⟩))
          go_wp2
          go_roundw
        all_goals first | (case rel => exact ⟨k + 1, by omega, by go_num, by rw [hsu.out]; first | done | rfl, bl_after z hbr⟩) | (case measure => (simp [intOf]; omega))
      · obtain rfl : k = (trs S).length := by omega
        rw [cntTo_all]
        go_wp2_with (go_at_call 57; with_reducible refine Calls.mono (hkn.out _ _ _) ?_; rintro e w' ⟨rfl, rfl⟩)
        go_ret2
        exact ⟨congrArg (fun n : Int => Ending.returned (.tuple #[(Value.int .i64 (n)), (Value.int .i64 (0))])) HV.out.symm, hbR⟩
  · have HK := Lib.hid fun W h1 => hno W h1 h
    rw [alV, if_neg h]
    have h1 : (opS S true != 0) = true := by rw [bne_iff_ne]; exact h
    clear h hok hno
    go_enter Try.func42, Try.ntmps42
    go_wp2_with ((go_at_call 55); (with_reducible refine Calls.mono (HK.out _ (by (repeat (first | with_reducible exact Below.refl _ _ | with_reducible apply bl_alloc | with_reducible apply bl_drew | with_reducible apply bl_after | (with_reducible refine bl_call ?_ (by assumption)))))) ?_); rintro e1 w1 ⟨⟨A1, ca1, rfl⟩, hb1⟩; first | ((with_reducible apply kp_in_step (hb := hb1)); (with_reducible assumption); rintro ⟨hk, hc, hf, hzc, hzf⟩) | ((with_reducible refine kp_in_first hb1 ?_); rintro ⟨hk, hc, hf, hzc, hzf⟩))
    go_ret2
    exact ⟨rfl, by (repeat (first | with_reducible exact Below.refl _ _ | with_reducible apply bl_alloc | with_reducible apply bl_drew | with_reducible apply bl_after | (with_reducible refine bl_call ?_ (by assumption))))⟩
end Go.Proofs.Ytegdnbceiopklaa
