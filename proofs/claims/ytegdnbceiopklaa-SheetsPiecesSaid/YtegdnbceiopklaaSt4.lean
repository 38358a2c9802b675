/- The functions Alike and Strange of sheets. -/
import Derived.Test.YtegdnbceiopklaaKn4
import Derived.Test.YtegdnbceiopklaaRowI
import Derived.Deep.DeepCutAuto
namespace Go.Proofs.Ytegdnbceiopklaa
open Go.RowKit Go.Shelf
attribute [local go_sem] After.cell After.frozen

theorem OpenR.ok {A : Option Addr} {ca : Nat} {S : Sht} {is : Bool} {w w' : World} {p : Option Addr} (h : OpenR A ca S is w w' p) (h0 : opS S is = 0) : ∃ g, p = some ⟨g, 0, none⟩ ∧ ShKeep g A ca S w' := by
  rcases h with ⟨_, g, e, hk, _⟩ | ⟨h, _⟩
  · exact ⟨g, e, hk⟩
  · exact absurd h0 h
theorem trs_ok {S : Sht} (hS : ShtOk S) {f : Pt} (hf : f ∈ trs S) : FacOk f := by
  have h := (List.mem_filter.1 hf).1
  rw [mem_prs] at h
  have := hS.x0; have := hS.x2; have := hS.y0; have := hS.y2
  exact ⟨by omega, by omega⟩
def alB (f : Pt) : Bool := f.1 == f.2
set_option maxHeartbeats 1000000 in
theorem alike1_any (f : Pt) (w : World) :
    Calls Try.prog 63 #[(Value.agg #[.int .i64 f.1, .int .i64 f.2])] w fun e w' => e = .returned (.bool (alB f)) ∧ Below w.heap.size w w' := by
  go_enter Try.func63, Try.ntmps63
  go_wp2
  go_ret
  exact ⟨rfl, by (repeat (first | with_reducible exact Below.refl _ _ | with_reducible apply bl_alloc | with_reducible apply bl_drew | with_reducible apply bl_after | (with_reducible refine bl_call ?_ (by assumption))))⟩
set_option maxHeartbeats 1000000 in
theorem strange1_any (f : Pt) (c : Ctl) (hf : FacOk f) (hc : CtlOk c) (g : Nat) (w : World) (hB : Blk w g 67 #[(Value.int .i64 (c.way)), (Value.int .i64 (c.tru)), (Value.int .i64 (c.read)), (Value.int .i64 (c.off))]) :
    Calls Try.prog 84 #[(Value.agg #[.int .i64 f.1, .int .i64 f.2]), .pointer (some ⟨g, 0, none⟩)] w fun e w' => e = .returned (.bool (rightB c f)) ∧ Below w.heap.size w w' := by
  have hi := Lib.hid fun (V : World) => isRight_any f c hf hc V
  (have la := hB.lt); (have ya0 := hB.cell 0); (have ya1 := hB.cell 1); (have ya2 := hB.cell 2); (have ya3 := hB.cell 3); simp only [List.getElem?_toArray, List.getElem?_cons_zero, List.getElem?_cons_succ] at ya0 ya1 ya2 ya3
  clear hB hf hc
  go_enter Try.func84, Try.ntmps84
  go_wp2_with ((go_at_call 85); (with_reducible refine Calls.mono (hi.out _) ?_); rintro e wn ⟨rfl, hbn⟩; first | ((with_reducible apply kp_in_step (hb := hbn)); (with_reducible assumption); rintro ⟨hk, hc, hf, hzc, hzf⟩) | ((with_reducible refine kp_in_first hbn ?_); rintro ⟨hk, hc, hf, hzc, hzf⟩))
  go_ret
  exact ⟨rfl, by (repeat (first | with_reducible exact Below.refl _ _ | with_reducible apply bl_alloc | with_reducible apply bl_drew | with_reducible apply bl_after | (with_reducible refine bl_call ?_ (by assumption))))⟩
def alV (S : Sht) : Int := if opS S true = 0 then knw alB (trs S) else 0
set_option maxRecDepth 100000 in
set_option maxHeartbeats 2000000 in
theorem Alike_any (A : Option Addr) (ca : Nat) (S : Sht) (w : World) (ha : Cts w A S.cs) :
    Calls Try.prog 24 #[(Value.agg #[(Value.int .i64 (S.xlo)), (Value.int .i64 (S.xhi)), (Value.int .i64 (S.ylo)), (Value.int .i64 (S.yhi)), .slice A S.cs.length ca, (Value.int .i64 (S.wrong))])] w fun e w' => e = .returned (.tuple #[(Value.int .i64 (alV S)), (Value.int .i64 (opS S true))]) ∧ Below w.heap.size w w' := by
  have HOP := Lib.hid fun (W : World) (h : Below w.heap.size w W) => open_any4 A ca S true W (ha.below h)
  have c1 : Blk (w.alloc (.cells #[(Value.int .i64 (S.xlo)), (Value.int .i64 (S.xhi)), (Value.int .i64 (S.ylo)), (Value.int .i64 (S.yhi)), .slice A S.cs.length ca, (Value.int .i64 (S.wrong))] 26)) w.heap.size 26 #[(Value.int .i64 (S.xlo)), (Value.int .i64 (S.xhi)), (Value.int .i64 (S.ylo)), (Value.int .i64 (S.yhi)), .slice A S.cs.length ca, (Value.int .i64 (S.wrong))] := Blk.new _ _ _
  (have la := c1.lt); (have ya0 := c1.cell 0); (have ya1 := c1.cell 1); (have ya2 := c1.cell 2); (have ya3 := c1.cell 3); (have ya4 := c1.cell 4); (have ya5 := c1.cell 5); simp only [List.getElem?_toArray, List.getElem?_cons_zero, List.getElem?_cons_succ] at ya0 ya1 ya2 ya3 ya4 ya5
  by_cases h0 : opS S true = 0
  · have hS := sht_ok (opS_zero h0).1
    have hE : alV S = knw alB (trs S) := if_pos h0
    rw [hE]
    clear hE
    have h0' := Lib.hid h0
    rw [h0] at HOP ⊢
    clear h0
    go_enter Try.func24, Try.ntmps24
    go_upto_region 4 with ((go_at_call 51); (with_reducible refine Calls.mono (HOP.out _ (by (repeat (first | with_reducible exact Below.refl _ _ | with_reducible apply bl_alloc | with_reducible apply bl_drew | with_reducible apply bl_after | (with_reducible refine bl_call ?_ (by assumption)))))) ?_); rintro e w1 ⟨⟨p, rfl, hO⟩, hb1⟩; first | ((with_reducible apply kp_in_step (hb := hb1)); (with_reducible assumption); rintro ⟨hk, hc, hf, hzc, hzf⟩) | ((with_reducible refine kp_in_first hb1 ?_); rintro ⟨hk, hc, hf, hzc, hzf⟩))
    obtain ⟨g, rfl, hK⟩ := hO.ok h0'.out
    have hk4 := Lib.hid (known_any4 g A ca S hS 63 #[] alB w1 hK (enters_of Try.func63 (by kernel_rfl) rfl) (fun f _ W _ => alike1_any f W))
    clear hO hK
    go_wp2_with ((go_at_call 53); (with_reducible refine Calls.mono (hk4.out) ?_); rintro e w2 ⟨rfl, hb2⟩)
    go_ret2
    exact ⟨rfl, by (repeat (first | with_reducible exact Below.refl _ _ | with_reducible apply bl_alloc | with_reducible apply bl_drew | with_reducible apply bl_after | (with_reducible refine bl_call ?_ (by assumption))))⟩
  · have hE : alV S = 0 := if_neg h0
    rw [hE]
    clear hE
    have h1 : (opS S true != 0) = true := by rw [bne_iff_ne]; exact h0
    clear h0
    go_enter Try.func24, Try.ntmps24
    go_wp2_with ((go_at_call 51); (with_reducible refine Calls.mono (HOP.out _ (by (repeat (first | with_reducible exact Below.refl _ _ | with_reducible apply bl_alloc | with_reducible apply bl_drew | with_reducible apply bl_after | (with_reducible refine bl_call ?_ (by assumption)))))) ?_); rintro e w1 ⟨⟨p, rfl, hO⟩, hb1⟩; first | ((with_reducible apply kp_in_step (hb := hb1)); (with_reducible assumption); rintro ⟨hk, hc, hf, hzc, hzf⟩) | ((with_reducible refine kp_in_first hb1 ?_); rintro ⟨hk, hc, hf, hzc, hzf⟩))
    go_ret2
    exact ⟨rfl, by (repeat (first | with_reducible exact Below.refl _ _ | with_reducible apply bl_alloc | with_reducible apply bl_drew | with_reducible apply bl_after | (with_reducible refine bl_call ?_ (by assumption))))⟩
/-- The controls among the first k that are right in no truth. -/
def strTo (S : Sht) (k : Nat) : List Int := ((List.range k).filter fun i => knw (rightB (cat S.cs i)) (trs S) == 2).map fun i : Nat => (i : Int)
theorem strTo_succ (S : Sht) (k : Nat) : strTo S (k + 1) = strTo S k ++ (if knw (rightB (cat S.cs k)) (trs S) == 2 then [(k : Int)] else []) := by
  unfold strTo
  rw [List.range_succ, List.filter_append, List.map_append, List.filter_cons]
  cases knw (rightB (cat S.cs k)) (trs S) == 2 <;> simp
theorem strTo_len (S : Sht) (k : Nat) : (strTo S k).length ≤ k := by
  unfold strTo
  rw [List.length_map]
  have := List.length_filter_le (fun i => knw (rightB (cat S.cs i)) (trs S) == 2) (List.range k)
  rwa [List.length_range] at this
def strV (S : Sht) : List Int := if opS S true = 0 then strTo S S.cs.length else []
set_option maxRecDepth 100000 in
set_option maxHeartbeats 4000000 in
theorem Strange_any (A : Option Addr) (ca : Nat) (S : Sht) (w : World) (ha : Cts w A S.cs) :
    Calls Try.prog 43 #[(Value.agg #[(Value.int .i64 (S.xlo)), (Value.int .i64 (S.xhi)), (Value.int .i64 (S.ylo)), (Value.int .i64 (S.yhi)), .slice A S.cs.length ca, (Value.int .i64 (S.wrong))])] w fun e w' => (∃ A' ca', e = .returned (.tuple #[.slice A' (strV S).length ca', (Value.int .i64 (opS S true))]) ∧ Ints w' A' (strV S)) ∧ Below w.heap.size w w' := by
  have HOP := Lib.hid fun (W : World) (h : Below w.heap.size w W) => open_any4 A ca S true W (ha.below h)
  have c1 : Blk (w.alloc (.cells #[(Value.int .i64 (S.xlo)), (Value.int .i64 (S.xhi)), (Value.int .i64 (S.ylo)), (Value.int .i64 (S.yhi)), .slice A S.cs.length ca, (Value.int .i64 (S.wrong))] 26)) w.heap.size 26 #[(Value.int .i64 (S.xlo)), (Value.int .i64 (S.xhi)), (Value.int .i64 (S.ylo)), (Value.int .i64 (S.yhi)), .slice A S.cs.length ca, (Value.int .i64 (S.wrong))] := Blk.new _ _ _
  (have la := c1.lt); (have ya0 := c1.cell 0); (have ya1 := c1.cell 1); (have ya2 := c1.cell 2); (have ya3 := c1.cell 3); (have ya4 := c1.cell 4); (have ya5 := c1.cell 5); simp only [List.getElem?_toArray, List.getElem?_cons_zero, List.getElem?_cons_succ] at ya0 ya1 ya2 ya3 ya4 ya5
  by_cases h0 : opS S true = 0
  · have hS := sht_ok (opS_zero h0).1
    have hE : strV S = strTo S S.cs.length := if_pos h0
    rw [hE]
    clear hE
    have h0' := Lib.hid h0
    have h8 := hS.len
    rw [h0] at HOP ⊢
    clear h0
    obtain ⟨i0, hi, hz0, hz1, hz2⟩ := info_parts infoInt
    go_enter Try.func43, Try.ntmps43
    go_upto_region 4 with ((go_at_call 51); (with_reducible refine Calls.mono (HOP.out _ (by (repeat (first | with_reducible exact Below.refl _ _ | with_reducible apply bl_alloc | with_reducible apply bl_drew | with_reducible apply bl_after | (with_reducible refine bl_call ?_ (by assumption)))))) ?_); rintro e w1 ⟨⟨p, rfl, hO⟩, hb1⟩; first | ((with_reducible apply kp_in_step (hb := hb1)); (with_reducible assumption); rintro ⟨hk, hc, hf, hzc, hzf⟩) | ((with_reducible refine kp_in_first hb1 ?_); rintro ⟨hk, hc, hf, hzc, hzf⟩))
    obtain ⟨g, rfl, hK⟩ := hO.ok h0'.out
    have hbw1 : Below w.heap.size w w1 := by (repeat (first | with_reducible exact Below.refl _ _ | with_reducible apply bl_alloc | with_reducible apply bl_drew | with_reducible apply bl_after | (with_reducible refine bl_call ?_ (by assumption))))
    clear hO HOP
    go_wp2
    ((try clear hk hc hf hzc hzf); (try clear hk hc hf hzc hzf); (try clear hk hc hf hzc hzf); (try clear hk hc hf hzc hzf))
    go_loopw [6, 20] (fun v i wr => ∃ k : Nat, k ≤ S.cs.length ∧ i = (Value.int .i64 ((k : Int))) ∧ Hid (RowI wr w1.heap.size v (strTo S k)) ∧ Below w1.heap.size w1 wr) (fun _ i _ => S.cs.length - (intOf i).toNat)
    case atStart => exact ⟨0, Nat.zero_le _, rfl, Lib.hid (rowI_nil _ _), Below.refl _ _⟩
    case round =>
      obtain ⟨k, kn, rfl, hO, hbr⟩ := hrel
      by_cases hlt : k < S.cs.length
      · obtain ⟨bc, oc, hA, pc⟩ := (hK.cts.below hbr).at_ hlt
        obtain ⟨lc, x1, x2, x3, x4⟩ := ctl_cells pc hlt
        have hc : CtlOk (cat S.cs k) := (hS.all _ (cat_mem hlt)).2
        have e8 := Blk.new wr 67 #[(Value.int .i64 ((cat S.cs k).way)), (Value.int .i64 ((cat S.cs k).tru)), (Value.int .i64 ((cat S.cs k).read)), (Value.int .i64 ((cat S.cs k).off))]
        have hb8 : Below w1.heap.size w1 (wr.alloc (.cells #[(Value.int .i64 ((cat S.cs k).way)), (Value.int .i64 ((cat S.cs k).tru)), (Value.int .i64 ((cat S.cs k).read)), (Value.int .i64 ((cat S.cs k).off))] 67)) := bl_alloc hbr
        have hkn := Lib.hid (known_any4 g A ca S hS 84 #[.pointer (some ⟨wr.heap.size, 0, none⟩)] (rightB (cat S.cs k)) _ (hK.below hb8) (enters_of Try.func84 (by kernel_rfl) rfl) (fun f hf W hb => strange1_any f (cat S.cs k) (trs_ok hS hf) hc wr.heap.size W (e8.below hb)))
        have hsu := strTo_succ S k
        have hsl := strTo_len S k
        subst hA
        clear pc e8 hc
        by_cases h2 : (knw (rightB (cat S.cs k)) (trs S) == 2) = true
        · rw [if_pos h2] at hsu
          replace hsu := Lib.hid hsu
          have hO2 := Lib.hid (hO.out.below (bl_alloc (o := .cells #[(Value.int .i64 ((cat S.cs k).way)), (Value.int .i64 ((cat S.cs k).tru)), (Value.int .i64 ((cat S.cs k).read)), (Value.int .i64 ((cat S.cs k).off))] 67) (Below.refl _ _)))
          go_wp2_with (first | ((go_at_call 53); (with_reducible refine Calls.mono (hkn.out) ?_); rintro e w2 ⟨rfl, hb2⟩; (have hO3 := Lib.hid (hO2.out.below hb2)); (have hb12 := bl_call hb8 hb2)) | (at_builtin; refine wpList_append_own _ rfl (.tmp 29) (.tmp 31) 55 rfl w1.heap.size 3 i0 _ 1 8 undInts hi hz0 hz1 hz2 rfl (by decide) _ _ _ rfl (World.ownsRow.alloc hO3.out _) ⟨w2.heap.size, 0, none⟩ 1 1 [(Value.int .i64 ((k : Int)))] rfl rfl (cell_one_new _ _ _) (one_int _) (by unfold maxLen; omega) (by omega) (by have := hb12.size; simp; omega) ?_))
          intro v' w9 hown hgrow _
          have hb9 : Below w1.heap.size w1 w9 := bl_grown (bl_alloc hb12) (World.ownsRow.alloc hO3.out _) hgrow
          have HV := Lib.hid (RowI.snoc hown rfl)
          clear hown hgrow
          go_wp2
          go_roundw
          case rel => exact ⟨k + 1, by omega, by go_num, Lib.hid (by rw [hsu.out]; exact HV.out), hb9⟩
          case measure => simp [intOf]; omega
        · have h3 : (knw (rightB (cat S.cs k)) (trs S) == 2) = false := by simpa using h2
          rw [if_neg h2, List.append_nil] at hsu
          replace hsu := Lib.hid hsu
          clear h2
          have hO2 := Lib.hid (hO.out.below (bl_alloc (o := .cells #[(Value.int .i64 ((cat S.cs k).way)), (Value.int .i64 ((cat S.cs k).tru)), (Value.int .i64 ((cat S.cs k).read)), (Value.int .i64 ((cat S.cs k).off))] 67) (Below.refl _ _)))
          go_wp2_with ((go_at_call 53); (with_reducible refine Calls.mono (hkn.out) ?_); rintro e w2 ⟨rfl, hb2⟩; (have hO3 := Lib.hid (hO2.out.below hb2)); (have hb12 := bl_call hb8 hb2))
          go_roundw
          case rel => exact ⟨k + 1, by omega, by go_num, Lib.hid (by rw [hsu.out]; exact hO3.out), hb12⟩
          case measure => simp [intOf]; omega
      · obtain rfl : k = S.cs.length := by omega
        obtain ⟨A', ca', rfl, hI⟩ := hO.out.parts
        clear hO
        go_wp2
        go_ret2
        exact ⟨⟨A', ca', rfl, hI⟩, bl_call hbw1 hbr⟩
  · have hE : strV S = [] := if_neg h0
    rw [hE]
    clear hE
    have h1 : (opS S true != 0) = true := by rw [bne_iff_ne]; exact h0
    clear h0
    go_enter Try.func43, Try.ntmps43
    go_wp2_with ((go_at_call 51); (with_reducible refine Calls.mono (HOP.out _ (by (repeat (first | with_reducible exact Below.refl _ _ | with_reducible apply bl_alloc | with_reducible apply bl_drew | with_reducible apply bl_after | (with_reducible refine bl_call ?_ (by assumption)))))) ?_); rintro e w1 ⟨⟨p, rfl, hO⟩, hb1⟩; first | ((with_reducible apply kp_in_step (hb := hb1)); (with_reducible assumption); rintro ⟨hk, hc, hf, hzc, hzf⟩) | ((with_reducible refine kp_in_first hb1 ?_); rintro ⟨hk, hc, hf, hzc, hzf⟩))
    go_ret2
    exact ⟨⟨none, 0, rfl, .inl rfl⟩, by (repeat (first | with_reducible exact Below.refl _ _ | with_reducible apply bl_alloc | with_reducible apply bl_drew | with_reducible apply bl_after | (with_reducible refine bl_call ?_ (by assumption))))⟩
end Go.Proofs.Ytegdnbceiopklaa
