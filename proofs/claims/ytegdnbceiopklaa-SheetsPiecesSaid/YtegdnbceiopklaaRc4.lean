/- The reference's functions known, Truths, Many and Known of sheets. -/
import Derived.Test.YtegdnbceiopklaaRb4
namespace Go.Proofs.Ytegdnbceiopklaa
open Go.RowKit Go.Shelf
attribute [local go_sem] After.cell After.frozen

/-- The truths among the first k factors. -/
def trTo (S : Sht) (k : Nat) : List Pt := ((prs S).take k).filter fun f => decide (wrg S f ≤ S.wrong)
theorem trTo_all (S : Sht) : trTo S (prs S).length = trs S := by rw [trTo, List.take_length]; rfl
theorem trTo_succ {S : Sht} {k : Nat} {x : Pt} (h : (prs S)[k]? = some x) : trTo S (k + 1) = trTo S k ++ (if truB S x = true then [x] else []) := by
  have hm := List.mem_of_getElem? h
  rw [mem_prs] at hm
  have ht : truB S x = decide (wrg S x ≤ S.wrong) := by simp [truB, within, hm]
  unfold trTo
  rw [List.take_add_one, h, List.filter_append, Option.toList_some, List.filter_cons, ht]
  cases decide (wrg S x ≤ S.wrong) <;> simp
theorem trTo_len (S : Sht) (k : Nat) : (trTo S k).length ≤ (prs S).length := by
  unfold trTo
  exact Nat.le_trans (List.length_filter_le _ _) (List.length_take_le' _ _)
/-- The error of a sheet and what is asked, and the truths if there is none. -/
def knE (S : Sht) (e : Int) (is : Bool) : Int := if shtB S = true then (if e = 0 then opS S is else e) else 40
def knL (S : Sht) (e : Int) (is : Bool) : List Pt := if knE S e is = 0 then trs S else []
theorem knE_zero (S : Sht) (is : Bool) : knE S 0 is = opS S is := by
  unfold knE opS
  split <;> simp
set_option maxRecDepth 100000 in
set_option maxHeartbeats 4000000 in
theorem rKnown4 (A : Option Addr) (ca : Nat) (S : Sht) (er : Int) (is : Bool) (w : World) (ha : Cts w A S.cs) :
    Calls Try.prog 55 #[(Value.agg #[(Value.int .i64 (S.xlo)), (Value.int .i64 (S.xhi)), (Value.int .i64 (S.ylo)), (Value.int .i64 (S.yhi)), .slice A S.cs.length ca, (Value.int .i64 (S.wrong))]), (Value.int .i64 (er)), .bool is] w fun e w' => (∃ A' ca', e = .returned (.tuple #[.slice A' (knL S er is).length ca', (Value.int .i64 (knE S er is))]) ∧ Prs w' A' (knL S er is)) ∧ Below w.heap.size w w' := by
  have hC := fun (W : World) (h : Below w.heap.size w W) => rCheck4 A ca S W (ha.below h)
  have c1 : Blk (w.alloc (.cells #[(Value.int .i64 (S.xlo)), (Value.int .i64 (S.xhi)), (Value.int .i64 (S.ylo)), (Value.int .i64 (S.yhi)), .slice A S.cs.length ca, (Value.int .i64 (S.wrong))] 26)) w.heap.size 26 #[(Value.int .i64 (S.xlo)), (Value.int .i64 (S.xhi)), (Value.int .i64 (S.ylo)), (Value.int .i64 (S.yhi)), .slice A S.cs.length ca, (Value.int .i64 (S.wrong))] := Blk.new _ _ _
  have hb0 : Below w.heap.size w (w.alloc (.cells #[(Value.int .i64 (S.xlo)), (Value.int .i64 (S.xhi)), (Value.int .i64 (S.ylo)), (Value.int .i64 (S.yhi)), .slice A S.cs.length ca, (Value.int .i64 (S.wrong))] 26)) := by (repeat (first | with_reducible exact Below.refl _ _ | with_reducible apply bl_alloc | with_reducible apply bl_drew | with_reducible apply bl_after | (with_reducible refine bl_call ?_ (by assumption))))
  by_cases h0 : shtB S = true
  rotate_left
  · have hE : chkS S = 40 := if_neg h0
    have hE2 : knE S er is = 40 := if_neg h0
    have hE3 : knL S er is = [] := if_neg (by rw [hE2]; decide)
    rw [hE2, hE3]
    rw [hE] at hC
    replace hC := Lib.hid hC
    clear hE hE2 hE3 h0
    (have la := c1.lt); (have ya0 := c1.cell 0); (have ya1 := c1.cell 1); (have ya2 := c1.cell 2); (have ya3 := c1.cell 3); (have ya4 := c1.cell 4); (have ya5 := c1.cell 5); simp only [List.getElem?_toArray, List.getElem?_cons_zero, List.getElem?_cons_succ] at ya0 ya1 ya2 ya3 ya4 ya5
    go_enter Try.func55, Try.ntmps55
    go_wp2_with ((go_at_call 29); (with_reducible refine Calls.mono (hC.out _ (by (repeat (first | with_reducible exact Below.refl _ _ | with_reducible apply bl_alloc | with_reducible apply bl_drew | with_reducible apply bl_after | (with_reducible refine bl_call ?_ (by assumption)))))) ?_); rintro e1 w1 ⟨rfl, hb1⟩; first | ((with_reducible apply kp_in_step (hb := hb1)); (with_reducible assumption); rintro ⟨hk, hc, hf, hzc, hzf⟩) | ((with_reducible refine kp_in_first hb1 ?_); rintro ⟨hk, hc, hf, hzc, hzf⟩))
    go_ret2
    exact ⟨⟨none, 0, rfl, .inl rfl⟩, by (repeat (first | with_reducible exact Below.refl _ _ | with_reducible apply bl_alloc | with_reducible apply bl_drew | with_reducible apply bl_after | (with_reducible refine bl_call ?_ (by assumption))))⟩
  have hE : chkS S = 0 := if_pos h0
  rw [hE] at hC
  replace hC := Lib.hid hC
  by_cases h1 : er = 0
  rotate_left
  · have hE2 : knE S er is = er := by rw [knE, if_pos h0, if_neg h1]
    have hE3 : knL S er is = [] := if_neg (by rw [hE2]; exact h1)
    rw [hE2, hE3]
    have h1' : (er != 0) = true := by rw [bne_iff_ne]; exact h1
    clear hE hE2 hE3 h0 h1
    (have la := c1.lt); (have ya0 := c1.cell 0); (have ya1 := c1.cell 1); (have ya2 := c1.cell 2); (have ya3 := c1.cell 3); (have ya4 := c1.cell 4); (have ya5 := c1.cell 5); simp only [List.getElem?_toArray, List.getElem?_cons_zero, List.getElem?_cons_succ] at ya0 ya1 ya2 ya3 ya4 ya5
    go_enter Try.func55, Try.ntmps55
    go_wp2_with ((go_at_call 29); (with_reducible refine Calls.mono (hC.out _ (by (repeat (first | with_reducible exact Below.refl _ _ | with_reducible apply bl_alloc | with_reducible apply bl_drew | with_reducible apply bl_after | (with_reducible refine bl_call ?_ (by assumption)))))) ?_); rintro e1 w1 ⟨rfl, hb1⟩; first | ((with_reducible apply kp_in_step (hb := hb1)); (with_reducible assumption); rintro ⟨hk, hc, hf, hzc, hzf⟩) | ((with_reducible refine kp_in_first hb1 ?_); rintro ⟨hk, hc, hf, hzc, hzf⟩))
    go_ret2
    exact ⟨⟨none, 0, rfl, .inl rfl⟩, by (repeat (first | with_reducible exact Below.refl _ _ | with_reducible apply bl_alloc | with_reducible apply bl_drew | with_reducible apply bl_after | (with_reducible refine bl_call ?_ (by assumption))))⟩
  subst h1
  cases is
  · have hE2 : knE S 0 false = 1 := by rw [knE_zero, opS, if_pos h0]; rfl
    have hE3 : knL S 0 false = [] := if_neg (by rw [hE2]; decide)
    rw [hE2, hE3]
    clear hE hE2 hE3 h0
    (have la := c1.lt); (have ya0 := c1.cell 0); (have ya1 := c1.cell 1); (have ya2 := c1.cell 2); (have ya3 := c1.cell 3); (have ya4 := c1.cell 4); (have ya5 := c1.cell 5); simp only [List.getElem?_toArray, List.getElem?_cons_zero, List.getElem?_cons_succ] at ya0 ya1 ya2 ya3 ya4 ya5
    go_enter Try.func55, Try.ntmps55
    go_wp2_with ((go_at_call 29); (with_reducible refine Calls.mono (hC.out _ (by (repeat (first | with_reducible exact Below.refl _ _ | with_reducible apply bl_alloc | with_reducible apply bl_drew | with_reducible apply bl_after | (with_reducible refine bl_call ?_ (by assumption)))))) ?_); rintro e1 w1 ⟨rfl, hb1⟩; first | ((with_reducible apply kp_in_step (hb := hb1)); (with_reducible assumption); rintro ⟨hk, hc, hf, hzc, hzf⟩) | ((with_reducible refine kp_in_first hb1 ?_); rintro ⟨hk, hc, hf, hzc, hzf⟩))
    go_ret2
    exact ⟨⟨none, 0, rfl, .inl rfl⟩, by (repeat (first | with_reducible exact Below.refl _ _ | with_reducible apply bl_alloc | with_reducible apply bl_drew | with_reducible apply bl_after | (with_reducible refine bl_call ?_ (by assumption))))⟩
  have hS := sht_ok h0
  have hPr := Lib.hid fun (W : World) => rPairs4 A ca S hS W
  have HE := Lib.hid (show knE S 0 true = if trs S = [] then 3 else 0 by rw [knE_zero, opS, if_pos h0]; rfl)
  obtain ⟨i0, hi, hz0, hz1, hz2⟩ := info_parts infoPair
  clear h0 hE
  (have la := c1.lt); (have ya0 := c1.cell 0); (have ya1 := c1.cell 1); (have ya2 := c1.cell 2); (have ya3 := c1.cell 3); (have ya4 := c1.cell 4); (have ya5 := c1.cell 5); simp only [List.getElem?_toArray, List.getElem?_cons_zero, List.getElem?_cons_succ] at ya0 ya1 ya2 ya3 ya4 ya5
  go_enter Try.func55, Try.ntmps55
  go_wp2_with (first | ((go_at_call 29); (with_reducible refine Calls.mono (hC.out _ (by (repeat (first | with_reducible exact Below.refl _ _ | with_reducible apply bl_alloc | with_reducible apply bl_drew | with_reducible apply bl_after | (with_reducible refine bl_call ?_ (by assumption)))))) ?_); rintro e1 w1 ⟨rfl, hb1⟩; first | ((with_reducible apply kp_in_step (hb := hb1)); (with_reducible assumption); rintro ⟨hk, hc, hf, hzc, hzf⟩) | ((with_reducible refine kp_in_first hb1 ?_); rintro ⟨hk, hc, hf, hzc, hzf⟩)) | ((go_at_call 73); (with_reducible refine Calls.mono (hPr.out _) ?_); rintro e w2 ⟨⟨A', ca', rfl, hI⟩, hb2⟩; first | ((with_reducible apply kp_in_step (hb := hb2)); (with_reducible assumption); rintro ⟨hk, hc, hf, hzc, hzf⟩) | ((with_reducible refine kp_in_first hb2 ?_); rintro ⟨hk, hc, hf, hzc, hzf⟩)))
  have e2 := (c1.below hb1).below hb2
  have hbW := bl_call (bl_call hb0 hb1) hb2
  have hX := ha.below hbW
  clear la ya0 ya1 ya2 ya3 ya4 ya5 c1 hb0 hb1 hb2 hC hPr ha
  ((try clear hk hc hf hzc hzf); (try clear hk hc hf hzc hzf); (try clear hk hc hf hzc hzf); (try clear hk hc hf hzc hzf))
  have hlen : (prs S).length ≤ 40401 := by rw [prs_len]; exact (nXY_le hS).2.2
  go_loopw [9, 11] (fun v i wr => ∃ k : Nat, k ≤ (prs S).length ∧ i = (Value.int .i64 ((k : Int))) ∧ Hid (RowQ wr w2.heap.size v (trTo S k)) ∧ Below w2.heap.size w2 wr) (fun _ i _ => (prs S).length - (intOf i).toNat)
  case atStart => exact ⟨0, Nat.zero_le _, rfl, Lib.hid (rowR_nil _ _), Below.refl _ _⟩
  case round =>
    obtain ⟨k, kn, rfl, hO, hbr⟩ := hrel
    have e3 := e2.below hbr
    have hbR := bl_call hbW hbr
    (have la := e3.lt); (have ya0 := e3.cell 0); (have ya1 := e3.cell 1); (have ya2 := e3.cell 2); (have ya3 := e3.cell 3); (have ya4 := e3.cell 4); (have ya5 := e3.cell 5); simp only [List.getElem?_toArray, List.getElem?_cons_zero, List.getElem?_cons_succ] at ya0 ya1 ya2 ya3 ya4 ya5
    by_cases hlt : k < (prs S).length
    · obtain ⟨bc, oc, hA, pc⟩ := (hI.below hbr).at_ hlt
      obtain ⟨lc, x1, x2⟩ := prs_cells pc hlt
      have hx := pat_get hlt
      have hsu := trTo_succ hx
      have hsl := trTo_len S k
      have hr := fun (z : After wr) => rIsTruth4 A ca S hS (pat (prs S) k) z.val ((hX.below hbr).below z.ok)
      subst hA
      clear pc e3 hx
      cases h2 : truB S (pat (prs S) k)
      · rw [h2] at hr hsu
        rw [if_neg (by decide), List.append_nil] at hsu
        replace hr := Lib.hid hr
        replace hsu := Lib.hid hsu
        clear h2
        go_wp2
        refine wp_region_after (by kernel_rfl) (by kernel_rfl) ?_; (repeat (go_big_quiet_step (((go_at_call 20; with_reducible exact calls_after (hr.out _)))))); refine wpQuiet_nil ?_; rintro _ ⟨z, rfl⟩; (first | ((with_reducible apply kp_in_after (z := z)); (with_reducible assumption); rintro ⟨hk, hc, hf, hzc, hzf⟩) | ((with_reducible refine kp_in_after0 z ?_); rintro ⟨hk, hc, hf, hzc, hzf⟩))
        have hO2 := Lib.hid (hO.out.below z.ok)
        go_wp2
        go_roundw
        case rel => exact ⟨k + 1, by omega, by go_num, Lib.hid (by rw [hsu.out]; exact hO2.out), bl_after z hbr⟩
        case measure => simp [intOf]; omega
      · rw [h2] at hr hsu
        rw [if_pos rfl] at hsu
        replace hr := Lib.hid hr
        replace hsu := Lib.hid hsu
        clear h2
        go_wp2
        refine wp_region_after (by kernel_rfl) (by kernel_rfl) ?_; (repeat (go_big_quiet_step (((go_at_call 20; with_reducible exact calls_after (hr.out _)))))); refine wpQuiet_nil ?_; rintro _ ⟨z, rfl⟩; (first | ((with_reducible apply kp_in_after (z := z)); (with_reducible assumption); rintro ⟨hk, hc, hf, hzc, hzf⟩) | ((with_reducible refine kp_in_after0 z ?_); rintro ⟨hk, hc, hf, hzc, hzf⟩))
        have hO2 := Lib.hid (hO.out.below z.ok)
        have hbz := bl_after z hbr
        go_wp2_with (at_builtin; refine wpList_append_own _ rfl (.tmp 36) (.tmp 41) 91 rfl w2.heap.size 40 i0 _ 2 16 undPairs hi hz0 hz1 hz2 rfl (by decide) _ _ _ rfl (World.ownsRow.alloc hO2.out _) ⟨z.val.heap.size, 0, none⟩ 1 1 [(Value.int .i64 ((pat (prs S) k).1)), (Value.int .i64 ((pat (prs S) k).2))] rfl rfl (cell2_new _ _ _ _) (two_int _ _) (by unfold maxLen; omega) (by omega) (by have := hbz.size; simp; omega) ?_)
        intro v' w9 hown hgrow _
        have hb9 : Below w2.heap.size w2 w9 := bl_grown (bl_alloc hbz) (World.ownsRow.alloc hO2.out _) hgrow
        have HV := Lib.hid (RowR.snoc (enc := pairE) (a := pat (prs S) k) hown rfl)
        clear hown hgrow
        go_wp2
        go_roundw
        case rel => exact ⟨k + 1, by omega, by go_num, Lib.hid (by rw [hsu.out]; exact HV.out), hb9⟩
        case measure => simp [intOf]; omega
    · obtain rfl : k = (prs S).length := by omega
      have hO2 := hO.out
      rw [trTo_all] at hO2
      obtain ⟨A2, ca2, rfl, hI2⟩ := hO2.parts2
      clear hO hO2
      by_cases h3 : trs S = []
      · have hE2 : knE S 0 true = 3 := by rw [HE.out, if_pos h3]
        have hE3 : knL S 0 true = [] := if_neg (by rw [hE2]; decide)
        have HF := Lib.hid (And.intro hE2 hE3)
        have hz : (trs S).length = 0 := by rw [h3]; rfl
        clear hE2 hE3 h3
        go_wp2
        go_ret2
        exact ⟨⟨none, 0, by rw [HF.out.1, HF.out.2]; rfl, by rw [HF.out.2]; exact .inl rfl⟩, hbR⟩
      · have hE2 : knE S 0 true = 0 := by rw [HE.out, if_neg h3]
        have hE3 : knL S 0 true = trs S := if_pos hE2
        have HF := Lib.hid (And.intro hE2 hE3)
        have hz : ¬ (trs S).length = 0 := fun h => h3 (List.eq_nil_of_length_eq_zero h)
        clear hE2 hE3 h3
        go_wp2
        go_ret2
        exact ⟨⟨A2, ca2, by rw [HF.out.1, HF.out.2]; rfl, by rw [HF.out.2]; exact hI2⟩, hbR⟩
end Go.Proofs.Ytegdnbceiopklaa
