/- The reference's functions Strange and Factors of sheets. -/
import Derived.Test.YtegdnbceiopklaaRd4
import Derived.Test.YtegdnbceiopklaaFc4
import Derived.Test.YtegdnbceiopklaaJQsk
namespace Go.Proofs.Ytegdnbceiopklaa
open Go.RowKit Go.Shelf
attribute [local go_sem] After.cell After.frozen

theorem knw_two {p : Pt → Bool} {l : List Pt} (h : l ≠ []) : (knw p l == 2) = (cnt p l == 0) := by
  have hl : l.length ≠ 0 := fun h' => h (List.eq_nil_of_length_eq_zero h')
  unfold knw
  by_cases h1 : cnt p l = l.length
  · rw [if_pos h1, h1]
    simp [hl, h]
  · rw [if_neg h1]
    by_cases h2 : cnt p l = 0
    · rw [if_pos h2, h2]; rfl
    · rw [if_neg h2]
      simp [h2]
set_option maxRecDepth 100000 in
set_option maxHeartbeats 4000000 in
theorem rStrange4 (A : Option Addr) (ca : Nat) (S : Sht) (w : World) (ha : Cts w A S.cs) :
    Calls Try.prog 44 #[(Value.agg #[(Value.int .i64 (S.xlo)), (Value.int .i64 (S.xhi)), (Value.int .i64 (S.ylo)), (Value.int .i64 (S.yhi)), .slice A S.cs.length ca, (Value.int .i64 (S.wrong))])] w fun e w' => (∃ A' ca', e = .returned (.tuple #[.slice A' (strV S).length ca', (Value.int .i64 (opS S true))]) ∧ Ints w' A' (strV S)) ∧ Below w.heap.size w w' := by
  (have hok := fun (W : World) (h : Below w.heap.size w W) => rKn_ok A ca S 0 true W (ha.below h)); (have hno := fun (W : World) (h : Below w.heap.size w W) => rKn_no A ca S 0 true W (ha.below h)); rw [knE_zero] at hok hno; (have c1 : Blk (w.alloc (.cells #[(Value.int .i64 (S.xlo)), (Value.int .i64 (S.xhi)), (Value.int .i64 (S.ylo)), (Value.int .i64 (S.yhi)), .slice A S.cs.length ca, (Value.int .i64 (S.wrong))] 26)) w.heap.size 26 #[(Value.int .i64 (S.xlo)), (Value.int .i64 (S.xhi)), (Value.int .i64 (S.ylo)), (Value.int .i64 (S.yhi)), .slice A S.cs.length ca, (Value.int .i64 (S.wrong))] := Blk.new _ _ _); (have hb0 : Below w.heap.size w (w.alloc (.cells #[(Value.int .i64 (S.xlo)), (Value.int .i64 (S.xhi)), (Value.int .i64 (S.ylo)), (Value.int .i64 (S.yhi)), .slice A S.cs.length ca, (Value.int .i64 (S.wrong))] 26)) := by (repeat (first | with_reducible exact Below.refl _ _ | with_reducible apply bl_alloc | with_reducible apply bl_drew | with_reducible apply bl_after | (with_reducible refine bl_call ?_ (by assumption))))); (have la := c1.lt); (have ya0 := c1.cell 0); (have ya1 := c1.cell 1); (have ya2 := c1.cell 2); (have ya3 := c1.cell 3); (have ya4 := c1.cell 4); (have ya5 := c1.cell 5); simp only [List.getElem?_toArray, List.getElem?_cons_zero, List.getElem?_cons_succ] at ya0 ya1 ya2 ya3 ya4 ya5
  by_cases h : opS S true = 0
  · have HK := Lib.hid fun W h1 => hok W h1 h
    have hS := sht_ok (opS_zero h).1
    have hne := (opS_zero h).2.2
    have HV : strV S = strTo S S.cs.length := if_pos h
    have hlen := trs_bd hS
    have h8 := hS.len
    rw [h, HV]
    clear h hok hno HV
    obtain ⟨i0, hi, hz0, hz1, hz2⟩ := info_parts infoInt
    go_enter Try.func44, Try.ntmps44
    go_wp2_with ((go_at_call 55); (with_reducible refine Calls.mono (HK.out _ (by (repeat (first | with_reducible exact Below.refl _ _ | with_reducible apply bl_alloc | with_reducible apply bl_drew | with_reducible apply bl_after | (with_reducible refine bl_call ?_ (by assumption)))))) ?_); rintro e1 w1 ⟨⟨A1, ca1, rfl, hI⟩, hb1⟩; first | ((with_reducible apply kp_in_step (hb := hb1)); (with_reducible assumption); rintro ⟨hk, hc, hf, hzc, hzf⟩) | ((with_reducible refine kp_in_first hb1 ?_); rintro ⟨hk, hc, hf, hzc, hzf⟩))
    have e1 := c1.below hb1
    have hbW := bl_call hb0 hb1
    have hX := ha.below hbW
    clear la ya0 ya1 ya2 ya3 ya4 ya5 hb0 hb1 HK ha c1
    ((try clear hk hc hf hzc hzf); (try clear hk hc hf hzc hzf); (try clear hk hc hf hzc hzf); (try clear hk hc hf hzc hzf))
    go_loopw [6, 7] (fun v i wr => ∃ k : Nat, k ≤ S.cs.length ∧ i = (Value.int .i64 ((k : Int))) ∧ Hid (RowI wr w1.heap.size v (strTo S k)) ∧ Below w1.heap.size w1 wr) (fun _ i _ => S.cs.length - (intOf i).toNat)
    case atStart => exact ⟨0, Nat.zero_le _, rfl, Lib.hid (rowI_nil _ _), Below.refl _ _⟩
    case round =>
      obtain ⟨k, kn, rfl, hO, hbr⟩ := hrel
      have e2 := e1.below hbr
      (have la := e2.lt); (have ya0 := e2.cell 0); (have ya1 := e2.cell 1); (have ya2 := e2.cell 2); (have ya3 := e2.cell 3); (have ya4 := e2.cell 4); (have ya5 := e2.cell 5); simp only [List.getElem?_toArray, List.getElem?_cons_zero, List.getElem?_cons_succ] at ya0 ya1 ya2 ya3 ya4 ya5
      by_cases hlt : k < S.cs.length
      · have hc : CtlOk (cat S.cs k) := (hS.all _ (cat_mem hlt)).2
        have hst := strTo_succ S k
        rw [knw_two hne] at hst
        have hsl := strTo_len S k
        clear e2 hne
        go_wp2
        go_loopw [8, 9] (fun n i wr2 => ∃ j : Nat, j ≤ (trs S).length ∧ i = (Value.int .i64 ((j : Int))) ∧ n = (Value.int .i64 (((cntTo (rightB (cat S.cs k)) (trs S) j : Nat) : Int))) ∧ Below wr.heap.size wr wr2) (fun _ i _ => (trs S).length - (intOf i).toNat)
        case atStart => exact ⟨0, Nat.zero_le _, rfl, rfl, Below.refl _ _⟩
        case round =>
          obtain ⟨j, jn, rfl, rfl, hbs⟩ := hrel
          rename World => wi
          have hbi : Below w1.heap.size w1 wi := bl_call hbr hbs
          have e3 := e1.below hbi
          clear la ya0 ya1 ya2 ya3 ya4 ya5
          (have lb := e3.lt); (have yb0 := e3.cell 0); (have yb1 := e3.cell 1); (have yb2 := e3.cell 2); (have yb3 := e3.cell 3); (have yb4 := e3.cell 4); (have yb5 := e3.cell 5); simp only [List.getElem?_toArray, List.getElem?_cons_zero, List.getElem?_cons_succ] at yb0 yb1 yb2 yb3 yb4 yb5
          by_cases hlj : j < (trs S).length
          · obtain ⟨bp, op, rfl, pp⟩ := (hI.below hbi).at_ hlj
            obtain ⟨lp, y1, y2⟩ := prs_cells pp hlj
            obtain ⟨bc, oc, hA, pc⟩ := (hX.below hbi).at_ hlt
            obtain ⟨lc, x1, x2, x3, x4⟩ := ctl_cells pc hlt
            have hx := pat_get hlj
            have hsu := cntTo_succ (p := rightB (cat S.cs k)) hx
            have hcl := cntTo_le (rightB (cat S.cs k)) (trs S) j
            have hr := fun (W : World) => rIsRight_any (pat (trs S) j) (cat S.cs k) (trs_ok hS (List.mem_of_getElem? hx)) hc W
            subst hA
            clear pp pc e3 hx hst
            cases h2 : rightB (cat S.cs k) (pat (trs S) j) <;> rw [h2] at hr hsu <;> simp only [Bool.false_eq_true, if_false, if_true, Nat.add_zero] at hsu <;> replace hsu := Lib.hid hsu <;> replace hr := Lib.hid hr
            all_goals
              clear h2
              go_wp2
              refine wp_region_after (by kernel_rfl) (by kernel_rfl) ?_; (repeat (go_big_quiet_step (((go_at_call 86; with_reducible exact calls_after (hr.out _)))))); refine wpQuiet_nil ?_; rintro _ ⟨z, rfl⟩; (first | ((with_reducible apply kp_in_after (z := z)); (with_reducible assumption); rintro ⟨hk, hc, hf, hzc, hzf⟩) | ((with_reducible refine kp_in_after0 z ?_); rintro ⟨hk, hc, hf, hzc, hzf⟩))
              go_wp2
              go_roundw
            all_goals first | (case rel => exact ⟨j + 1, by omega, by go_num, by rw [hsu.out]; first | done | rfl, bl_after z hbs⟩) | (case measure => (simp [intOf]; omega))
          · obtain rfl : j = (trs S).length := by omega
            rw [cntTo_all]
            have hO2 := Lib.hid (hO.out.below hbs)
            clear e3
            by_cases h2 : (cnt (rightB (cat S.cs k)) (trs S) == 0) = true
            · rw [if_pos h2] at hst
              have hst2 := Lib.hid hst
              have h0 : cnt (rightB (cat S.cs k)) (trs S) = 0 := by simpa using h2
              rw [h0]
              clear hst h2 h0
              go_wp2_with (at_builtin; refine wpList_append_own _ rfl (.tmp 45) (.tmp 47) 55 rfl w1.heap.size 3 i0 _ 1 8 undInts hi hz0 hz1 hz2 rfl (by decide) _ _ _ rfl (World.ownsRow.alloc hO2.out _) ⟨wi.heap.size, 0, none⟩ 1 1 [(Value.int .i64 ((k : Int)))] rfl rfl (cell_one_new _ _ _) (one_int _) (by unfold maxLen; omega) (by omega) (by have := hbi.size; simp; omega) ?_)
              intro v' w9 hown hgrow _
              have hb9 : Below w1.heap.size w1 w9 := bl_grown (bl_alloc hbi) (World.ownsRow.alloc hO2.out _) hgrow
              have HV := Lib.hid (RowI.snoc hown rfl)
              clear hown hgrow
              go_wp2
              go_roundw
              case rel => exact ⟨k + 1, by omega, by go_num, Lib.hid (by rw [hst2.out]; exact HV.out), hb9⟩
              case measure => simp [intOf]; omega
            · rw [if_neg h2, List.append_nil] at hst
              have hst2 := Lib.hid hst
              have h0 : ¬ cnt (rightB (cat S.cs k)) (trs S) = 0 := by simpa using h2
              clear hst h2
              go_wp2
              go_roundw
              case rel => exact ⟨k + 1, by omega, by go_num, Lib.hid (by rw [hst2.out]; exact hO2.out), hbi⟩
              case measure => simp [intOf]; omega
      · obtain rfl : k = S.cs.length := by omega
        obtain ⟨A', ca', rfl, hI⟩ := hO.out.parts
        have hbR := bl_call hbW hbr
        clear hO
        go_wp2
        go_ret2
        exact ⟨⟨A', ca', rfl, hI⟩, hbR⟩
  · have HK := Lib.hid fun W h1 => hno W h1 h
    have HV : strV S = [] := if_neg h
    rw [HV]
    have h1 : (opS S true != 0) = true := by rw [bne_iff_ne]; exact h
    clear h hok hno HV
    go_enter Try.func44, Try.ntmps44
    go_wp2_with ((go_at_call 55); (with_reducible refine Calls.mono (HK.out _ (by (repeat (first | with_reducible exact Below.refl _ _ | with_reducible apply bl_alloc | with_reducible apply bl_drew | with_reducible apply bl_after | (with_reducible refine bl_call ?_ (by assumption)))))) ?_); rintro e1 w1 ⟨⟨A1, ca1, rfl⟩, hb1⟩; first | ((with_reducible apply kp_in_step (hb := hb1)); (with_reducible assumption); rintro ⟨hk, hc, hf, hzc, hzf⟩) | ((with_reducible refine kp_in_first hb1 ?_); rintro ⟨hk, hc, hf, hzc, hzf⟩))
    go_ret2
    exact ⟨⟨none, 0, rfl, .inl rfl⟩, by (repeat (first | with_reducible exact Below.refl _ _ | with_reducible apply bl_alloc | with_reducible apply bl_drew | with_reducible apply bl_after | (with_reducible refine bl_call ?_ (by assumption))))⟩
/-- The numbers from 900 on, k of them, that are in a list. -/
def rfTo (l : List Int) (k : Nat) : List Int := ((List.range k).filter fun i : Nat => decide (900 + (i : Int) ∈ l)).map fun i : Nat => 900 + (i : Int)
theorem rfTo_succ (l : List Int) (k : Nat) : rfTo l (k + 1) = rfTo l k ++ (if 900 + (k : Int) ∈ l then [900 + (k : Int)] else []) := by
  unfold rfTo
  rw [List.range_succ, List.filter_append, List.map_append, List.filter_cons]
  by_cases h : 900 + (k : Int) ∈ l <;> simp [h]
theorem rfTo_len (l : List Int) (k : Nat) : (rfTo l k).length ≤ k := by
  unfold rfTo
  rw [List.length_map]
  have := List.length_filter_le (fun i : Nat => decide (900 + (i : Int) ∈ l)) (List.range k)
  rwa [List.length_range] at this
theorem rfTo_lt (l : List Int) (k : Nat) : (rfTo l k).Pairwise fun x y => x < y := by
  unfold rfTo
  rw [List.pairwise_map]
  exact ((List.pairwise_lt_range (n := k)).filter _).imp fun h => by omega
theorem mem_rfTo {l : List Int} {x : Int} (hl : ∀ x ∈ l, 900 ≤ x ∧ x ≤ 1100) : x ∈ rfTo l 201 ↔ x ∈ l := by
  unfold rfTo
  rw [List.mem_map]
  constructor
  · rintro ⟨i, hi, rfl⟩
    simpa using (List.mem_filter.1 hi).2
  · intro h
    have := hl x h
    refine ⟨(x - 900).toNat, List.mem_filter.2 ⟨List.mem_range.2 (by omega), ?_⟩, by omega⟩
    rw [decide_eq_true_eq, show 900 + ((x - 900).toNat : Int) = x by omega]
    exact h
theorem srt_eq {l : List Int} (hl : ∀ x ∈ l, 900 ≤ x ∧ x ≤ 1100) : srt l = rfTo l 201 := by
  have h1 := rfTo_lt l 201
  have h2 : (ddp l).Perm (rfTo l 201) := (List.perm_ext_iff_of_nodup (nodup_ddp l) (h1.imp fun h => by omega)).2 fun x => by rw [mem_ddp, mem_rfTo hl]
  have h3 : (rfTo l 201).mergeSort (fun x y => decide (x ≤ y)) = rfTo l 201 := List.mergeSort_of_pairwise (h1.imp fun h => by simp; omega)
  unfold srt
  rw [← h3]
  exact mergeSort_of_perm_i h2
theorem fcTo_bd {S : Sht} (hS : ShtOk S) (way : Int) (k : Nat) : ∀ x ∈ fcTo S way k, 900 ≤ x ∧ x ≤ 1100 := by
  intro x hx
  obtain ⟨f, hf, rfl⟩ := List.mem_map.1 hx
  exact fac_bd (trs_ok hS (List.mem_of_mem_take hf)) way
theorem fcS_eq {S : Sht} (hS : ShtOk S) (way : Int) : fcS S way = rfTo ((trs S).map fun f => fac f way) 201 := by
  have h := srt_eq (fcTo_bd hS way (trs S).length)
  unfold fcS
  rw [h]
  unfold fcTo
  rw [List.take_length]
end Go.Proofs.Ytegdnbceiopklaa
