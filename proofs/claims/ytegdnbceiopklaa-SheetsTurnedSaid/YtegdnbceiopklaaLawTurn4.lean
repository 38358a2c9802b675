/- The law SheetsTurned answers true for any sheet, polygon and two points. -/
import Derived.Test.YtegdnbceiopklaaWk4
import Derived.Test.YtegdnbceiopklaaTw4
import Derived.Test.YtegdnbceiopklaaOpt
import Derived.Test.YtegdnbceiopklaaRows
namespace Go.Proofs.Ytegdnbceiopklaa
open Go.ChangeShapes Go.WideShapes Go.RowKit
attribute [local go_sem] After.cell After.frozen

set_option maxRecDepth 100000 in
set_option maxHeartbeats 4000000 in
theorem lawTurn_no (A B : Option Addr) (ca cb : Nat) (S : Sht) (l : List Pt) (a b : Pt) (w : World) (ha : Cts w A S.cs) (hla : S.cs.length ≤ 9223372036854775807) (hb : Pts w B l) (hlb : l.length ≤ 9223372036854775807)
    (x1 x2 : Bool) (h1 : rdyB S = x1) (h2 : polB l = x2) (hx : x1 = false ∨ (x1 = true ∧ x2 = false)) :
    Calls Try.prog 9 #[(Value.agg #[(Value.int .i64 (S.xlo)), (Value.int .i64 (S.xhi)), (Value.int .i64 (S.ylo)), (Value.int .i64 (S.yhi)), .slice A S.cs.length ca, (Value.int .i64 (S.wrong))]), .slice B l.length cb, .agg #[(Value.int .i64 (a.1)), (Value.int .i64 (a.2)), (Value.int .i64 (b.1)), (Value.int .i64 (b.2))]] w fun e w' => e = .returned (.bool true) ∧ Below w.heap.size w w' := by
  have hR := fun (W : World) (h : Below w.heap.size w W) => ready4 A ca S W (ha.below h) hla
  have hP := fun (W : World) (h : Below w.heap.size w W) => isPolygon4 B cb l W (hb.below h) hlb
  have c1 : Blk ((w.alloc (.cells #[(Value.int .i64 (S.xlo)), (Value.int .i64 (S.xhi)), (Value.int .i64 (S.ylo)), (Value.int .i64 (S.yhi)), .slice A S.cs.length ca, (Value.int .i64 (S.wrong))] 26)).alloc (.cells #[(Value.int .i64 (a.1)), (Value.int .i64 (a.2)), (Value.int .i64 (b.1)), (Value.int .i64 (b.2))] 61)) w.heap.size 26 #[(Value.int .i64 (S.xlo)), (Value.int .i64 (S.xhi)), (Value.int .i64 (S.ylo)), (Value.int .i64 (S.yhi)), .slice A S.cs.length ca, (Value.int .i64 (S.wrong))] := (Blk.new _ _ _).alloc _
  (have la := c1.lt); (have ya0 := c1.cell 0); (have ya1 := c1.cell 1); (have ya2 := c1.cell 2); (have ya3 := c1.cell 3); (have ya4 := c1.cell 4); (have ya5 := c1.cell 5); simp only [List.getElem?_toArray, List.getElem?_cons_zero, List.getElem?_cons_succ] at ya0 ya1 ya2 ya3 ya4 ya5
  rw [h1] at hR
  rw [h2] at hP
  replace hR := Lib.hid hR
  replace hP := Lib.hid hP
  clear ha hb hla hlb c1 h1 h2
  rcases hx with rfl | ⟨rfl, rfl⟩
  all_goals
    go_enter Try.func9, Try.ntmps9
    go_wp2_with (first | ((go_at_call 18); (with_reducible refine Calls.mono (hR.out _ (by (repeat (first | with_reducible exact Below.refl _ _ | with_reducible apply bl_alloc | with_reducible apply bl_drew | with_reducible apply bl_after | (with_reducible refine bl_call ?_ (by assumption)))))) ?_); rintro e wn ⟨rfl, hbn⟩; first | ((with_reducible apply kp_in_step (hb := hbn)); (with_reducible assumption); rintro ⟨hk, hc, hf, hzc, hzf⟩) | ((with_reducible refine kp_in_first hbn ?_); rintro ⟨hk, hc, hf, hzc, hzf⟩)) | ((go_at_call 19); (with_reducible refine Calls.mono (hP.out _ (by (repeat (first | with_reducible exact Below.refl _ _ | with_reducible apply bl_alloc | with_reducible apply bl_drew | with_reducible apply bl_after | (with_reducible refine bl_call ?_ (by assumption)))))) ?_); rintro e wn ⟨rfl, hbn⟩; first | ((with_reducible apply kp_in_step (hb := hbn)); (with_reducible assumption); rintro ⟨hk, hc, hf, hzc, hzf⟩) | ((with_reducible refine kp_in_first hbn ?_); rintro ⟨hk, hc, hf, hzc, hzf⟩)) | ((go_at_call 13); (with_reducible refine Calls.mono (works4 _) ?_); rintro e w9 ⟨rfl, hb9⟩; first | ((with_reducible apply kp_in_step (hb := hb9)); (with_reducible assumption); rintro ⟨hk, hc, hf, hzc, hzf⟩) | ((with_reducible refine kp_in_first hb9 ?_); rintro ⟨hk, hc, hf, hzc, hzf⟩)))
    go_ret
    exact ⟨rfl, by (repeat (first | with_reducible exact Below.refl _ _ | with_reducible apply bl_alloc | with_reducible apply bl_drew | with_reducible apply bl_after | (with_reducible refine bl_call ?_ (by assumption))))⟩
set_option maxRecDepth 100000 in
set_option maxHeartbeats 8000000 in
theorem lawTurn_ok (A B : Option Addr) (ca cb : Nat) (S : Sht) (l : List Pt) (a b : Pt) (w : World) (ha : Cts w A S.cs) (hla : S.cs.length ≤ 9223372036854775807) (hb : Pts w B l) (hlb : l.length ≤ 9223372036854775807)
    (h1 : rdyB S = true) (h2 : polB l = true) :
    Calls Try.prog 9 #[(Value.agg #[(Value.int .i64 (S.xlo)), (Value.int .i64 (S.xhi)), (Value.int .i64 (S.ylo)), (Value.int .i64 (S.yhi)), .slice A S.cs.length ca, (Value.int .i64 (S.wrong))]), .slice B l.length cb, .agg #[(Value.int .i64 (a.1)), (Value.int .i64 (a.2)), (Value.int .i64 (b.1)), (Value.int .i64 (b.2))]] w fun e w' => e = .returned (.bool true) ∧ Below w.heap.size w w' := by
  have h0 : shtB S = true := by simp only [rdyB, Bool.and_eq_true] at h1; exact h1.2
  have hS := sht_ok h0
  have hok := polB_ok.1 h2
  have h8 := hS.len
  have hR := fun (W : World) (h : Below w.heap.size w W) => ready4 A ca S W (ha.below h) hla
  have hP := fun (W : World) (h : Below w.heap.size w W) => isPolygon4 B cb l W (hb.below h) hlb
  rw [h1] at hR
  rw [h2] at hP
  replace hR := Lib.hid hR
  replace hP := Lib.hid hP
  have hCp := Lib.hid fun (W : World) (h : Below w.heap.size w W) => rCopy4 A ca S W (ha.below h) (by omega)
  have HH := Lib.hid (And.intro h0 (And.intro hS hok))
  have c1 : Blk ((w.alloc (.cells #[(Value.int .i64 (S.xlo)), (Value.int .i64 (S.xhi)), (Value.int .i64 (S.ylo)), (Value.int .i64 (S.yhi)), .slice A S.cs.length ca, (Value.int .i64 (S.wrong))] 26)).alloc (.cells #[(Value.int .i64 (a.1)), (Value.int .i64 (a.2)), (Value.int .i64 (b.1)), (Value.int .i64 (b.2))] 61)) w.heap.size 26 #[(Value.int .i64 (S.xlo)), (Value.int .i64 (S.xhi)), (Value.int .i64 (S.ylo)), (Value.int .i64 (S.yhi)), .slice A S.cs.length ca, (Value.int .i64 (S.wrong))] := (Blk.new _ _ _).alloc _
  have c2 : Blk ((w.alloc (.cells #[(Value.int .i64 (S.xlo)), (Value.int .i64 (S.xhi)), (Value.int .i64 (S.ylo)), (Value.int .i64 (S.yhi)), .slice A S.cs.length ca, (Value.int .i64 (S.wrong))] 26)).alloc (.cells #[(Value.int .i64 (a.1)), (Value.int .i64 (a.2)), (Value.int .i64 (b.1)), (Value.int .i64 (b.2))] 61)) (w.heap.size + 1) 61 #[(Value.int .i64 (a.1)), (Value.int .i64 (a.2)), (Value.int .i64 (b.1)), (Value.int .i64 (b.2))] := Blk.new_at (by simp)
  have hb0 : Below w.heap.size w ((w.alloc (.cells #[(Value.int .i64 (S.xlo)), (Value.int .i64 (S.xhi)), (Value.int .i64 (S.ylo)), (Value.int .i64 (S.yhi)), .slice A S.cs.length ca, (Value.int .i64 (S.wrong))] 26)).alloc (.cells #[(Value.int .i64 (a.1)), (Value.int .i64 (a.2)), (Value.int .i64 (b.1)), (Value.int .i64 (b.2))] 61)) := by (repeat (first | with_reducible exact Below.refl _ _ | with_reducible apply bl_alloc | with_reducible apply bl_drew | with_reducible apply bl_after | (with_reducible refine bl_call ?_ (by assumption))))
  (have la := c1.lt); (have ya0 := c1.cell 0); (have ya1 := c1.cell 1); (have ya2 := c1.cell 2); (have ya3 := c1.cell 3); (have ya4 := c1.cell 4); (have ya5 := c1.cell 5); simp only [List.getElem?_toArray, List.getElem?_cons_zero, List.getElem?_cons_succ] at ya0 ya1 ya2 ya3 ya4 ya5
  (have lb := c2.lt); (have yb0 := c2.cell 0); (have yb1 := c2.cell 1); (have yb2 := c2.cell 2); (have yb3 := c2.cell 3); simp only [List.getElem?_toArray, List.getElem?_cons_zero, List.getElem?_cons_succ] at yb0 yb1 yb2 yb3
  clear h0 h1 h2 hla hlb hS hok
  go_enter Try.func9, Try.ntmps9
  go_upto_region 4 with (first | (first | ((go_at_call 18); (with_reducible refine Calls.mono (hR.out _ (by (repeat (first | with_reducible exact Below.refl _ _ | with_reducible apply bl_alloc | with_reducible apply bl_drew | with_reducible apply bl_after | (with_reducible refine bl_call ?_ (by assumption)))))) ?_); rintro e wn ⟨rfl, hbn⟩; first | ((with_reducible apply kp_in_step (hb := hbn)); (with_reducible assumption); rintro ⟨hk, hc, hf, hzc, hzf⟩) | ((with_reducible refine kp_in_first hbn ?_); rintro ⟨hk, hc, hf, hzc, hzf⟩)) | ((go_at_call 19); (with_reducible refine Calls.mono (hP.out _ (by (repeat (first | with_reducible exact Below.refl _ _ | with_reducible apply bl_alloc | with_reducible apply bl_drew | with_reducible apply bl_after | (with_reducible refine bl_call ?_ (by assumption)))))) ?_); rintro e wn ⟨rfl, hbn⟩; first | ((with_reducible apply kp_in_step (hb := hbn)); (with_reducible assumption); rintro ⟨hk, hc, hf, hzc, hzf⟩) | ((with_reducible refine kp_in_first hbn ?_); rintro ⟨hk, hc, hf, hzc, hzf⟩)) | ((go_at_call 13); (with_reducible refine Calls.mono (works4 _) ?_); rintro e w9 ⟨rfl, hb9⟩; first | ((with_reducible apply kp_in_step (hb := hb9)); (with_reducible assumption); rintro ⟨hk, hc, hf, hzc, hzf⟩) | ((with_reducible refine kp_in_first hb9 ?_); rintro ⟨hk, hc, hf, hzc, hzf⟩))) | ((go_at_call 15); (with_reducible refine Calls.mono (hCp.out _ (by (repeat (first | with_reducible exact Below.refl _ _ | with_reducible apply bl_alloc | with_reducible apply bl_drew | with_reducible apply bl_after | (with_reducible refine bl_call ?_ (by assumption)))))) ?_); rintro e3 w3 ⟨⟨A3, ca3, rfl, hC3⟩, hb3⟩; first | ((with_reducible apply kp_in_step (hb := hb3)); (with_reducible assumption); rintro ⟨hk, hc, hf, hzc, hzf⟩) | ((with_reducible refine kp_in_first hb3 ?_); rintro ⟨hk, hc, hf, hzc, hzf⟩)))
  have hW3 : Below (((w.alloc (.cells #[(Value.int .i64 (S.xlo)), (Value.int .i64 (S.xhi)), (Value.int .i64 (S.ylo)), (Value.int .i64 (S.yhi)), .slice A S.cs.length ca, (Value.int .i64 (S.wrong))] 26)).alloc (.cells #[(Value.int .i64 (a.1)), (Value.int .i64 (a.2)), (Value.int .i64 (b.1)), (Value.int .i64 (b.2))] 61))).heap.size ((w.alloc (.cells #[(Value.int .i64 (S.xlo)), (Value.int .i64 (S.xhi)), (Value.int .i64 (S.ylo)), (Value.int .i64 (S.yhi)), .slice A S.cs.length ca, (Value.int .i64 (S.wrong))] 26)).alloc (.cells #[(Value.int .i64 (a.1)), (Value.int .i64 (a.2)), (Value.int .i64 (b.1)), (Value.int .i64 (b.2))] 61)) w3 := by (repeat (first | with_reducible exact Below.refl _ _ | with_reducible apply bl_alloc | with_reducible apply bl_drew | with_reducible apply bl_after | (with_reducible refine bl_call ?_ (by assumption))))
  have e1 := c1.below hW3
  have e2 := c2.below hW3
  have hbV := bl_call hb0 hW3
  have hW0 : Hid (Below (((w.alloc (.cells #[(Value.int .i64 (S.xlo)), (Value.int .i64 (S.xhi)), (Value.int .i64 (S.ylo)), (Value.int .i64 (S.yhi)), .slice A S.cs.length ca, (Value.int .i64 (S.wrong))] 26)).alloc (.cells #[(Value.int .i64 (a.1)), (Value.int .i64 (a.2)), (Value.int .i64 (b.1)), (Value.int .i64 (b.2))] 61))).heap.size ((w.alloc (.cells #[(Value.int .i64 (S.xlo)), (Value.int .i64 (S.xhi)), (Value.int .i64 (S.ylo)), (Value.int .i64 (S.yhi)), .slice A S.cs.length ca, (Value.int .i64 (S.wrong))] 26)).alloc (.cells #[(Value.int .i64 (a.1)), (Value.int .i64 (a.2)), (Value.int .i64 (b.1)), (Value.int .i64 (b.2))] 61)) wn) := Lib.hid (by (repeat (first | with_reducible exact Below.refl _ _ | with_reducible apply bl_alloc | with_reducible apply bl_drew | with_reducible apply bl_after | (with_reducible refine bl_call ?_ (by assumption)))))
  have hW3n := Lib.hid hb3
  clear la ya0 ya1 ya2 ya3 ya4 ya5 lb yb0 yb1 yb2 yb3 c1 c2 hW3 hbn hb3 hR hP hCp
  ((try clear hk hc hf hzc hzf); (try clear hk hc hf hzc hzf); (try clear hk hc hf hzc hzf); (try clear hk hc hf hzc hzf))
  (have la := e1.lt); (have ya0 := e1.cell 0); (have ya1 := e1.cell 1); (have ya2 := e1.cell 2); (have ya3 := e1.cell 3); (have ya4 := e1.cell 4); (have ya5 := e1.cell 5); simp only [List.getElem?_toArray, List.getElem?_cons_zero, List.getElem?_cons_succ] at ya0 ya1 ya2 ya3 ya4 ya5
  refine wp_region_CN (fun w' => ∃ z : After w3, w' = z.val) (by kernel_rfl) ?_
  have hd0 : Below w3.heap.size w3 (w3.alloc (.cells #[(Value.int .i64 (S.xlo)), (Value.int .i64 (S.xhi)), (Value.int .i64 (S.ylo)), (Value.int .i64 (S.yhi)), .slice A3 S.cs.length ca3, (Value.int .i64 (S.wrong))] 26)).drew := by (repeat (first | with_reducible exact Below.refl _ _ | with_reducible apply bl_alloc | with_reducible apply bl_drew | with_reducible apply bl_after | (with_reducible refine bl_call ?_ (by assumption))))
  refine wpAnyC_take (i := 0) (v := ?v0u) rfl (by kernel_rfl) (by kernel_rfl) (by kernel_rfl) ?q0u rfl ?y0u ?r0u; (case q0u => exact fun _ _ _ h => h); (case y0u => ((rintro _ ⟨z, rfl⟩); (go_simp); (try with_reducible rfl))); simp only [Act.put, List.getElem_toArray, List.getElem_cons_succ, List.getElem_cons_zero, List.setIfInBounds_toArray, List.set_cons_succ, List.set_cons_zero]
  refine wpAnyC_take (i := 1) (v := ?v1u) rfl (by kernel_rfl) (by kernel_rfl) (by kernel_rfl) ?q1u rfl ?y1u ?r1u; (case q1u => exact fun _ _ _ h => h); (case y1u => ((rintro _ ⟨z, rfl⟩); (go_simp); (try with_reducible rfl))); simp only [Act.put, List.getElem_toArray, List.getElem_cons_succ, List.getElem_cons_zero, List.setIfInBounds_toArray, List.set_cons_succ, List.set_cons_zero]
  refine wpAnyC_take (i := 2) (v := ?v2u) rfl (by kernel_rfl) (by kernel_rfl) (by kernel_rfl) ?q2u rfl ?y2u ?r2u; (case q2u => exact fun _ _ _ h => h); (case y2u => ((rintro _ ⟨z, rfl⟩); (go_simp); (try with_reducible rfl))); simp only [Act.put, List.getElem_toArray, List.getElem_cons_succ, List.getElem_cons_zero, List.setIfInBounds_toArray, List.set_cons_succ, List.set_cons_zero]
  refine wpAnyC_take (i := 3) (v := ?v3u) rfl (by kernel_rfl) (by kernel_rfl) (by kernel_rfl) ?q3u rfl ?y3u ?r3u; (case q3u => exact fun _ _ _ h => h); (case y3u => ((rintro _ ⟨z, rfl⟩); (go_simp); (try with_reducible rfl))); simp only [Act.put, List.getElem_toArray, List.getElem_cons_succ, List.getElem_cons_zero, List.setIfInBounds_toArray, List.set_cons_succ, List.set_cons_zero]
  refine wpAnyC_take (i := 4) (v := ?v4u) rfl (by kernel_rfl) (by kernel_rfl) (by kernel_rfl) ?q4u rfl ?y4u ?r4u; (case q4u => exact fun _ _ _ h => h); (case y4u => ((rintro _ ⟨z, rfl⟩); (go_simp); (try with_reducible rfl))); simp only [Act.put, List.getElem_toArray, List.getElem_cons_succ, List.getElem_cons_zero, List.setIfInBounds_toArray, List.set_cons_succ, List.set_cons_zero]
  refine wpAnyC_one (i := 5) (by kernel_rfl) rfl ⟨⟨_, hd0⟩, rfl⟩ rfl (fun K hK => ?_)
  (go_simp; refine hK _ _ ?_; clear hK K)
  have hd1 : Below w3.heap.size w3 (w3.alloc (.cells #[(Value.int .i64 (S.ylo)), (Value.int .i64 (S.yhi)), (Value.int .i64 (S.ylo)), (Value.int .i64 (S.yhi)), .slice A3 S.cs.length ca3, (Value.int .i64 (S.wrong))] 26)).drew := by (repeat (first | with_reducible exact Below.refl _ _ | with_reducible apply bl_alloc | with_reducible apply bl_drew | with_reducible apply bl_after | (with_reducible refine bl_call ?_ (by assumption))))
  refine wpAnyC_take (i := 6) (v := ?v6u) rfl (by kernel_rfl) (by kernel_rfl) (by kernel_rfl) ?q6u rfl ?y6u ?r6u; (case q6u => exact fun _ _ _ h => h); (case y6u => ((rintro _ ⟨z, rfl⟩); (go_simp); (try with_reducible rfl))); simp only [Act.put, List.getElem_toArray, List.getElem_cons_succ, List.getElem_cons_zero, List.setIfInBounds_toArray, List.set_cons_succ, List.set_cons_zero]
  refine wpAnyC_one (i := 7) (by kernel_rfl) rfl ⟨⟨_, hd1⟩, rfl⟩ rfl (fun K hK => ?_)
  (go_simp; refine hK _ _ ?_; clear hK K)
  have hd2 : Below w3.heap.size w3 (w3.alloc (.cells #[(Value.int .i64 (S.ylo)), (Value.int .i64 (S.yhi)), (Value.int .i64 (S.xlo)), (Value.int .i64 (S.xhi)), .slice A3 S.cs.length ca3, (Value.int .i64 (S.wrong))] 26)).drew := by (repeat (first | with_reducible exact Below.refl _ _ | with_reducible apply bl_alloc | with_reducible apply bl_drew | with_reducible apply bl_after | (with_reducible refine bl_call ?_ (by assumption))))
  refine wpAnyC_doneN (by kernel_rfl) ⟨⟨_, hd2⟩, rfl⟩ ?_ _
  have hbX := bl_call hbV hd2
  have x1 := e1.below hd2
  have x2 := e2.below hd2
  have x7 : Blk (w3.alloc (.cells #[(Value.int .i64 (S.ylo)), (Value.int .i64 (S.yhi)), (Value.int .i64 (S.xlo)), (Value.int .i64 (S.xhi)), .slice A3 S.cs.length ca3, (Value.int .i64 (S.wrong))] 26)).drew w3.heap.size 26 #[(Value.int .i64 (S.ylo)), (Value.int .i64 (S.yhi)), (Value.int .i64 (S.xlo)), (Value.int .i64 (S.xhi)), .slice A3 S.cs.length ca3, (Value.int .i64 (S.wrong))] := Blk.new _ _ _
  have hwn : w.heap.size + 2 ≤ wn.heap.size := by
    have h := hW0.out.size
    simpa using h
  have hA3 := fun (k : Nat) (h : (Value.slice A3 S.cs.length ca3).ownBlock = some k) => hC3.lt k h
  have hX3 : (w3.alloc (.cells #[(Value.int .i64 (S.ylo)), (Value.int .i64 (S.yhi)), (Value.int .i64 (S.xlo)), (Value.int .i64 (S.xhi)), .slice A3 S.cs.length ca3, (Value.int .i64 (S.wrong))] 26)).drew.ownsRow wn.heap.size 67 4 (.slice A3 S.cs.length ca3) S.cs.length (recV ctlE (swTo S.cs 0)) := by
    rw [swTo_zero]
    exact hC3.below hd2
  have hgX : wn.heap.size ≤ w3.heap.size := by have := hW3n.out.size; omega
  clear la ya0 ya1 ya2 ya3 ya4 ya5 e1 e2 hbV hd0 hd1 hd2 hb0 hC3
  generalize (w3.alloc (.cells #[(Value.int .i64 (S.ylo)), (Value.int .i64 (S.yhi)), (Value.int .i64 (S.xlo)), (Value.int .i64 (S.xhi)), .slice A3 S.cs.length ca3, (Value.int .i64 (S.wrong))] 26)).drew = X at *
  generalize w3.heap.size = g7 at *
  generalize wn.heap.size = n0 at *
  have HA := Lib.hid (And.intro ha (And.intro hb (And.intro hwn (And.intro hA3 hgX))))
  clear ha hb hwn hA3 hgX
  have hS := Lib.hid HH.out.2.1
  go_wp2
  go_loopw [8] (fun i wr => ∃ k : Nat, k ≤ S.cs.length ∧ i = (Value.int .i64 ((k : Int))) ∧ Below w.heap.size w wr ∧ Blk wr w.heap.size 26 #[(Value.int .i64 (S.xlo)), (Value.int .i64 (S.xhi)), (Value.int .i64 (S.ylo)), (Value.int .i64 (S.yhi)), .slice A S.cs.length ca, (Value.int .i64 (S.wrong))] ∧ Blk wr (w.heap.size + 1) 61 #[(Value.int .i64 (a.1)), (Value.int .i64 (a.2)), (Value.int .i64 (b.1)), (Value.int .i64 (b.2))] ∧ Blk wr g7 26 #[(Value.int .i64 (S.ylo)), (Value.int .i64 (S.yhi)), (Value.int .i64 (S.xlo)), (Value.int .i64 (S.xhi)), .slice A3 S.cs.length ca3, (Value.int .i64 (S.wrong))] ∧ wr.ownsRow n0 67 4 (.slice A3 S.cs.length ca3) S.cs.length (recV ctlE (swTo S.cs k))) (fun i _ => S.cs.length - (intOf i).toNat)
  case atStart => exact ⟨0, Nat.zero_le _, rfl, hbX, x1, x2, x7, hX3⟩
  case round =>
    obtain ⟨k, kn, rfl, hbw, y1, y2, y7, hR⟩ := hrel
    clear x1 x2 x7 hX3 hbX
    by_cases hlt : k < S.cs.length
    · obtain ⟨ha, hb, hwn, hA3, hgX⟩ := HA.out
      obtain ⟨b0, o0, rfl, p0⟩ := ha.at_ hlt
      obtain ⟨l0, z0, -, -, -⟩ := ctl_cells (p0.below hbw) hlt
      obtain ⟨b3, o3, rfl, p3⟩ := (row_cts hR).at_ (k := k) (by rw [swTo_len]; exact hlt)
      obtain ⟨g3, c3, e3⟩ := hR.form (by omega)
      obtain ⟨rfl, rfl⟩ : b3 = g3 ∧ o3 = 0 := by
        have e4 := e3.1
        simp only [Value.slice.injEq, Option.some.injEq, Addr.mk.injEq, and_true] at e4
        exact e4.1
      clear e3
      obtain ⟨l3, z3, -, -, -⟩ := ctl_cells p3 (k := k) (by rw [swTo_len]; exact hlt)
      rw [Nat.zero_add] at z3
      have f3 := hR.frozenAt (k * 4)
      have hA : n0 ≤ b3 ∧ b3 < g7 := hA3 b3 rfl
      have HR := Lib.hid hR
      have HW := Lib.hid (hS.out.all _ (cat_mem hlt)).1
      have zW : IntKind.i64.wrap (3 - (cat S.cs k).way) = 3 - (cat S.cs k).way := IntWalk.i64_in _ (by have := HW.out; omega)
      have K1 := Lib.hid (And.intro y1 (And.intro y2 (And.intro y7 (And.intro hbw hwn))))
      have j1 : (k : Int) < (S.cs.length : Int) := by omega
      (have la := y1.lt); (have ya0 := y1.cell 0); (have ya1 := y1.cell 1); (have ya2 := y1.cell 2); (have ya3 := y1.cell 3); (have ya4 := y1.cell 4); (have ya5 := y1.cell 5); simp only [List.getElem?_toArray, List.getElem?_cons_zero, List.getElem?_cons_succ] at ya0 ya1 ya2 ya3 ya4 ya5
      (have lc := y7.lt); (have yc0 := y7.cell 0); (have yc1 := y7.cell 1); (have yc2 := y7.cell 2); (have yc3 := y7.cell 3); (have yc4 := y7.cell 4); (have yc5 := y7.cell 5); simp only [List.getElem?_toArray, List.getElem?_cons_zero, List.getElem?_cons_succ] at yc0 yc1 yc2 yc3 yc4 yc5
      have fa4 := y1.frozen 4
      have fc4 := y7.frozen 4
      clear hA3 ha hb p0 p3 hR y1 y2 y7 hbw
      go_wp2
      refine wp_region_after_tail 10 (by kernel_rfl) (by kernel_rfl) ?_; simp only [List.take_succ_cons, List.take_zero, List.drop_succ_cons, List.drop_zero]; (repeat (go_big_quiet_step ((fail)))); refine wpQuiet_nil ?_; rintro _ ⟨z, rfl⟩; (first | ((with_reducible apply kp_in_after (z := z)); (with_reducible assumption); rintro ⟨hk, hc, hf, hzc, hzf⟩) | ((with_reducible refine kp_in_after0 z ?_); rintro ⟨hk, hc, hf, hzc, hzf⟩))
      go_wp2
      have hz := z.ok
      obtain ⟨y1, y2, y7, hbw, hwn⟩ := K1.out
      have hR3 := row_sw hlt (own_below HR.out hz)
      have m0 : w.heap.size ≠ b3 := by omega
      have m1 : w.heap.size + 1 ≠ b3 := by omega
      have m7 : g7 ≠ b3 := by omega
      have d1 := (y1.below hz).far (p := ⟨b3, k * 4, none⟩) m0 (Value.int .i64 (3 - (cat S.cs k).way))
      have d2 := (y2.below hz).far (p := ⟨b3, k * 4, none⟩) m1 (Value.int .i64 (3 - (cat S.cs k).way))
      have d7 := (y7.below hz).far (p := ⟨b3, k * 4, none⟩) m7 (Value.int .i64 (3 - (cat S.cs k).way))
      have hbz : Below w.heap.size w (z.val.setCell ⟨b3, k * 4, none⟩ (Value.int .i64 (3 - (cat S.cs k).way))) := bl_setc (bl_call hbw hz) (by omega)
      clear hz y1 y2 y7 hbw K1 HR
      go_roundw
      case rel => exact ⟨k + 1, by omega, by go_num, hbz, d1, d2, d7, hR3⟩
      case measure => simp [intOf]; omega
    · obtain rfl : k = S.cs.length := by omega
      obtain ⟨ha, hb, hwn, hA3, hgX⟩ := HA.out
      obtain ⟨h0, hSS, hok⟩ := HH.out
      rw [swTo_all] at hR
      have hcA := ha.below hbw
      have hpB := hb.below hbw
      have hc3 : Cts wr A3 (tuS S).cs := row_cts hR
      have hlT : (tuS S).cs.length = S.cs.length := List.length_map _
      have hlM : (l.map swp).length = l.length := List.length_map _
      have hl10 := hok.1
      have hw1 : wayB 1 = true := rfl
      have hw2 : wayB 2 = true := rfl
      have hF1 := fun (V : World) (h : Below wr.heap.size wr V) => Factors_any A ca S 1 V (hcA.below h)
      rw [hw1] at hF1
      have hF2 : ∀ V : World, Below wr.heap.size wr V → Calls Try.prog 33 #[(.agg #[(Value.int .i64 (S.ylo)), (Value.int .i64 (S.yhi)), (Value.int .i64 (S.xlo)), (Value.int .i64 (S.xhi)), .slice A3 S.cs.length ca3, (Value.int .i64 (S.wrong))]), (Value.int .i64 (2))] V fun e w' => (∃ A' ca', e = .returned (.tuple #[.slice A' (fcV S 1).length ca', (Value.int .i64 (opS S true))]) ∧ Ints w' A' (fcV S 1)) ∧ Below V.heap.size V w' := fun V h => by
        have h5 := Factors_any A3 ca3 (tuS S) 2 V (hc3.below h)
        rw [hlT, fc_swp h0, op_swp h0, hw2] at h5
        exact h5
      have hAr := fun (V : World) (h : Below wr.heap.size wr V) => Area_any A B ca cb S l V (hcA.below h) (hpB.below h) (by omega)
      have hAr2 : ∀ (V : World) (A9 : Option Addr) (c9 : Nat), Pts V A9 (l.map swp) → Below wr.heap.size wr V → Calls Try.prog 23 #[(.agg #[(Value.int .i64 (S.ylo)), (Value.int .i64 (S.yhi)), (Value.int .i64 (S.xlo)), (Value.int .i64 (S.xhi)), .slice A3 S.cs.length ca3, (Value.int .i64 (S.wrong))]), .slice A9 l.length c9] V fun e w' => e = .returned (.tuple #[.agg #[(Value.int .i64 (arLo S l)), (Value.int .i64 (arHi S l))], (Value.int .i64 (arE S l true))]) ∧ Below V.heap.size V w' := fun V A9 c9 hp h => by
        have h5 := Area_any A3 A9 ca3 c9 (tuS S) (l.map swp) V (hc3.below h) hp (by omega)
        rw [hlT, hlM, arlo_swp h0 hok, arhi_swp h0 hok, are_swp h0 hok] at h5
        exact h5
      have hLn := fun (V : World) (h : Below wr.heap.size wr V) => Length_any A ca S a b V (hcA.below h)
      have hLn2 : ∀ V : World, Below wr.heap.size wr V → Calls Try.prog 39 #[(.agg #[(Value.int .i64 (S.ylo)), (Value.int .i64 (S.yhi)), (Value.int .i64 (S.xlo)), (Value.int .i64 (S.xhi)), .slice A3 S.cs.length ca3, (Value.int .i64 (S.wrong))]), .agg #[(Value.int .i64 (a.2)), (Value.int .i64 (a.1))], .agg #[(Value.int .i64 (b.2)), (Value.int .i64 (b.1))]] V fun e w' => e = .returned (.tuple #[.agg #[(Value.int .i64 (lnLo S a b)), (Value.int .i64 (lnHi S a b))], (Value.int .i64 (lnE S a b))]) ∧ Below V.heap.size V w' := fun V h => by
        have h5 := Length_any A3 ca3 (tuS S) (swp a) (swp b) V (hc3.below h)
        rw [hlT, lnlo_swp h0, lnhi_swp h0, lne_swp h0] at h5
        exact h5
      have hMn := fun (V : World) (h : Below wr.heap.size wr V) => Many_any4 A ca S V (hcA.below h)
      have hMn2 : ∀ V : World, Below wr.heap.size wr V → Calls Try.prog 22 #[(.agg #[(Value.int .i64 (S.ylo)), (Value.int .i64 (S.yhi)), (Value.int .i64 (S.xlo)), (Value.int .i64 (S.xhi)), .slice A3 S.cs.length ca3, (Value.int .i64 (S.wrong))])] V fun e w' => e = .returned (.tuple #[(Value.int .i64 (mnS S)), (Value.int .i64 (opS S true))]) ∧ Below V.heap.size V w' := fun V h => by
        have h5 := Many_any4 A3 ca3 (tuS S) V (hc3.below h)
        rw [hlT, mn_swp h0, op_swp h0] at h5
        exact h5
      have hSt := fun (V : World) (h : Below wr.heap.size wr V) => Strange_any A ca S V (hcA.below h)
      have hSt2 : ∀ V : World, Below wr.heap.size wr V → Calls Try.prog 43 #[(.agg #[(Value.int .i64 (S.ylo)), (Value.int .i64 (S.yhi)), (Value.int .i64 (S.xlo)), (Value.int .i64 (S.xhi)), .slice A3 S.cs.length ca3, (Value.int .i64 (S.wrong))])] V fun e w' => (∃ A' ca', e = .returned (.tuple #[.slice A' (strV S).length ca', (Value.int .i64 (opS S true))]) ∧ Ints w' A' (strV S)) ∧ Below V.heap.size V w' := fun V h => by
        have h5 := Strange_any A3 ca3 (tuS S) V (hc3.below h)
        rw [hlT, str_swp h0, op_swp h0] at h5
        exact h5
      have hTp := fun (V : World) (h : Below wr.heap.size wr V) => turned4 B cb l V (hpB.below h) (by omega)
      have hTy : Calls Try.prog 45 #[.slice (some ⟨wr.heap.size, 0, none⟩) 2 2] (wr.alloc (.cells #[(Value.int .i64 (a.1)), (Value.int .i64 (a.2)), (Value.int .i64 (b.1)), (Value.int .i64 (b.2))] 42)) fun e w' => (∃ A' ca', e = .returned (.slice A' 2 ca') ∧ Pts w' A' [swp a, swp b]) ∧ Below (wr.alloc (.cells #[(Value.int .i64 (a.1)), (Value.int .i64 (a.2)), (Value.int .i64 (b.1)), (Value.int .i64 (b.2))] 42)).heap.size (wr.alloc (.cells #[(Value.int .i64 (a.1)), (Value.int .i64 (a.2)), (Value.int .i64 (b.1)), (Value.int .i64 (b.2))] 42)) w' :=
        turned4 (some ⟨wr.heap.size, 0, none⟩) 2 [a, b] _ (.inr ⟨_, _, rfl, ptsAt_own (B := 0) (ca := 2) (n := 2) ⟨rfl, .inr ⟨_, _, #[(Value.int .i64 (a.1)), (Value.int .i64 (a.2)), (Value.int .i64 (b.1)), (Value.int .i64 (b.2))], rfl, Nat.zero_le _, heap_alloc_new wr _, Nat.le_refl _, by decide, rfl, rfl⟩⟩⟩) (by simp)
      have hsl : (strV S).length ≤ 8 := by
        unfold strV
        split
        · exact Nat.le_trans (strTo_len S _) h8
        · simp
      have hfl : (fcV S 1).length ≤ 300 := by
        unfold fcV
        split
        · rw [fcS_eq hSS]; exact Nat.le_trans (rfTo_len _ _) (by decide)
        · simp
      have hSi := Lib.hid fun (F : List Int) (hF : F.length ≤ 300) (A' B' : Option Addr) (ca' cb' : Nat) (V : World) (h1 : Ints V A' F) (h2 : Ints V B' F) => (by
        have h := sameInts4 A' B' ca' cb' F F V h1 h2 (by omega) (by omega)
        rw [decide_eq_true rfl] at h
        exact h : Calls Try.prog 35 #[.slice A' F.length ca', .slice B' F.length cb'] V fun e w' => e = .returned (.bool true) ∧ Below V.heap.size V w')
      have hsz : w.heap.size + 2 ≤ wr.heap.size := by have := y2.lt; omega
      generalize fcV S 1 = F at *
      generalize opS S true = er at *
      generalize arLo S l = alo at *
      generalize arHi S l = ahi at *
      generalize arE S l true = are at *
      generalize lnLo S a b = llo at *
      generalize lnHi S a b = lhi at *
      generalize lnE S a b = lne at *
      generalize mnS S = mn at *
      generalize strV S = sv at *
      replace hF1 := Lib.hid hF1
      replace hF2 := Lib.hid hF2
      replace hAr := Lib.hid hAr
      replace hAr2 := Lib.hid hAr2
      replace hLn := Lib.hid hLn
      replace hLn2 := Lib.hid hLn2
      replace hMn := Lib.hid hMn
      replace hMn2 := Lib.hid hMn2
      replace hSt := Lib.hid hSt
      replace hSt2 := Lib.hid hSt2
      replace hTp := Lib.hid hTp
      replace hTy := Lib.hid hTy
      (have la := y1.lt); (have ya0 := y1.cell 0); (have ya1 := y1.cell 1); (have ya2 := y1.cell 2); (have ya3 := y1.cell 3); (have ya4 := y1.cell 4); (have ya5 := y1.cell 5); simp only [List.getElem?_toArray, List.getElem?_cons_zero, List.getElem?_cons_succ] at ya0 ya1 ya2 ya3 ya4 ya5
      (have lb := y2.lt); (have yb0 := y2.cell 0); (have yb1 := y2.cell 1); (have yb2 := y2.cell 2); (have yb3 := y2.cell 3); simp only [List.getElem?_toArray, List.getElem?_cons_zero, List.getElem?_cons_succ] at yb0 yb1 yb2 yb3
      (have lc := y7.lt); (have yc0 := y7.cell 0); (have yc1 := y7.cell 1); (have yc2 := y7.cell 2); (have yc3 := y7.cell 3); (have yc4 := y7.cell 4); (have yc5 := y7.cell 5); simp only [List.getElem?_toArray, List.getElem?_cons_zero, List.getElem?_cons_succ] at yc0 yc1 yc2 yc3 yc4 yc5
      clear ha hb hwn hA3 hgX h0 hSS hok hcA hpB hc3 hlT hlM hR hw1 hw2
      clear HA HH hS hW3n
      go_upto_region 10 with ((go_at_call 45); (with_reducible refine Calls.mono hTy.out ?_); rintro e1 w1 ⟨⟨A9, c9, rfl, hP9⟩, hb1⟩; first | ((with_reducible apply kp_in_step (hb := hb1)); (with_reducible assumption); rintro ⟨hk, hc, hf, hzc, hzf⟩) | ((with_reducible refine kp_in_first hb1 ?_); rintro ⟨hk, hc, hf, hzc, hzf⟩))
      have hV1 : Below wr.heap.size wr w1 := by (repeat (first | with_reducible exact Below.refl _ _ | with_reducible apply bl_alloc | with_reducible apply bl_drew | with_reducible apply bl_after | (with_reducible refine bl_call ?_ (by assumption))))
      have v1 := y1.below hV1
      have v2 := y2.below hV1
      have v7 := y7.below hV1
      clear la ya0 ya1 ya2 ya3 ya4 ya5 lb yb0 yb1 yb2 yb3 lc yc0 yc1 yc2 yc3 yc4 yc5 y1 y2 y7 hTy
      ((try clear hk hc hf hzc hzf); (try clear hk hc hf hzc hzf); (try clear hk hc hf hzc hzf); (try clear hk hc hf hzc hzf))
      (have la := v1.lt); (have ya0 := v1.cell 0); (have ya1 := v1.cell 1); (have ya2 := v1.cell 2); (have ya3 := v1.cell 3); (have ya4 := v1.cell 4); (have ya5 := v1.cell 5); simp only [List.getElem?_toArray, List.getElem?_cons_zero, List.getElem?_cons_succ] at ya0 ya1 ya2 ya3 ya4 ya5
      (have lc := v7.lt); (have yc0 := v7.cell 0); (have yc1 := v7.cell 1); (have yc2 := v7.cell 2); (have yc3 := v7.cell 3); (have yc4 := v7.cell 4); (have yc5 := v7.cell 5); simp only [List.getElem?_toArray, List.getElem?_cons_zero, List.getElem?_cons_succ] at yc0 yc1 yc2 yc3 yc4 yc5
      go_upto_region 13 with (first | ((go_at_call 33); (with_reducible refine Calls.mono (hF1.out _ hV1) ?_); rintro e2 w2 ⟨⟨A2, c2, rfl, hI2⟩, hb2⟩; (have hV2 := bl_call hV1 hb2); first | ((with_reducible apply kp_in_step (hb := hb2)); (with_reducible assumption); rintro ⟨hk, hc, hf, hzc, hzf⟩) | ((with_reducible refine kp_in_first hb2 ?_); rintro ⟨hk, hc, hf, hzc, hzf⟩)) | ((go_at_call 33); (with_reducible refine Calls.mono (hF2.out _ hV2) ?_); rintro e4 w4 ⟨⟨A4, c4, rfl, hI4⟩, hb4⟩; (have hV4 := bl_call hV2 hb4); (have hI24 := hI2.below hb4); first | ((with_reducible apply kp_in_step (hb := hb4)); (with_reducible assumption); rintro ⟨hk, hc, hf, hzc, hzf⟩) | ((with_reducible refine kp_in_first hb4 ?_); rintro ⟨hk, hc, hf, hzc, hzf⟩)) | ((go_at_call 23); (with_reducible refine Calls.mono (hAr.out _ hV4) ?_); rintro e5 w5 ⟨rfl, hb5⟩; (have hV5 := bl_alloc (o := (.cells #[(Value.int .i64 (alo)), (Value.int .i64 (ahi))] 23)) (bl_call hV4 hb5)); first | ((with_reducible apply kp_in_step (hb := hb5)); (with_reducible assumption); rintro ⟨hk, hc, hf, hzc, hzf⟩) | ((with_reducible refine kp_in_first hb5 ?_); rintro ⟨hk, hc, hf, hzc, hzf⟩)))
      have hW5 : Below w1.heap.size w1 (w5.alloc (.cells #[(Value.int .i64 (alo)), (Value.int .i64 (ahi))] 23)) := bl_alloc (bl_call (bl_call hb2 hb4) hb5)
      have hN5 : wr.heap.size ≤ w5.heap.size := by have := hV1.size; have := hb2.size; have := hb4.size; have := hb5.size; omega
      have hJ2 := (hI24.below hb5).alloc (.cells #[(Value.int .i64 (alo)), (Value.int .i64 (ahi))] 23)
      have hJ4 := (hI4.below hb5).alloc (.cells #[(Value.int .i64 (alo)), (Value.int .i64 (ahi))] 23)
      have hP5 := hP9.below hW5
      have s5 := Blk.new w5 23 #[(Value.int .i64 (alo)), (Value.int .i64 (ahi))]
      replace v1 := v1.below hW5
      replace v2 := v2.below hW5
      replace v7 := v7.below hW5
      clear la ya0 ya1 ya2 ya3 ya4 ya5 lc yc0 yc1 yc2 yc3 yc4 yc5 hb2 hb4 hb5 hI2 hI24 hI4 hV2 hV4 hP9 hV1 hW5
      ((try clear hk hc hf hzc hzf); (try clear hk hc hf hzc hzf); (try clear hk hc hf hzc hzf); (try clear hk hc hf hzc hzf))
      generalize w5.alloc (.cells #[(Value.int .i64 (alo)), (Value.int .i64 (ahi))] 23) = w6 at *
      generalize w5.heap.size = g5 at *
      (have lc := v7.lt); (have yc0 := v7.cell 0); (have yc1 := v7.cell 1); (have yc2 := v7.cell 2); (have yc3 := v7.cell 3); (have yc4 := v7.cell 4); (have yc5 := v7.cell 5); simp only [List.getElem?_toArray, List.getElem?_cons_zero, List.getElem?_cons_succ] at yc0 yc1 yc2 yc3 yc4 yc5
      go_cut [16, 17] (fun s16 s17 wx => ∃ g6 : Nat, s16 = .pointer (some ⟨g6, 0, none⟩) ∧ s17 = (Value.int .i64 (are)) ∧ Blk wx g6 23 #[(Value.int .i64 (alo)), (Value.int .i64 (ahi))] ∧ Below w6.heap.size w6 wx)
      case first =>
        refine wp_region_CN (fun w' => ∃ z : After w6, w' = z.val) (by kernel_rfl) ?_
        have hd0 : Below w6.heap.size w6 w6.drew := bl_drew (Below.refl _ _)
        refine wpAnyC_take (i := 0) (v := ?v0q) rfl (by kernel_rfl) (by kernel_rfl) (by kernel_rfl) ?q0q rfl ?y0q ?r0q; (case q0q => exact fun _ _ _ h => h); (case y0q => ((rintro _ ⟨z, rfl⟩); (go_simp); (try with_reducible rfl))); simp only [Act.put, List.getElem_toArray, List.getElem_cons_succ, List.getElem_cons_zero, List.setIfInBounds_toArray, List.set_cons_succ, List.set_cons_zero]
        refine wpAnyC_take (i := 1) (v := ?v1q) rfl (by kernel_rfl) (by kernel_rfl) (by kernel_rfl) ?q1q rfl ?y1q ?r1q; (case q1q => exact fun _ _ _ h => h); (case y1q => ((rintro _ ⟨z, rfl⟩); (go_simp); (try with_reducible rfl))); simp only [Act.put, List.getElem_toArray, List.getElem_cons_succ, List.getElem_cons_zero, List.setIfInBounds_toArray, List.set_cons_succ, List.set_cons_zero]
        refine wpAnyC_two (i := 2) (j := 7) (by kernel_rfl) rfl rfl ⟨⟨_, hd0⟩, rfl⟩ rfl rfl (fun K hK => ?_) (fun K hK => ?_)
        · go_simp
          go_at_call 45
          (with_reducible refine Calls.mono (hTp.out _ (bl_drew hV5)) ?_)
          rintro e7 w7 ⟨⟨A7, c7, rfl, hP7⟩, hb7⟩
          refine hK _ _ ?_
          clear hK K
          have hd1 := hd0.trans (hb7.mono hd0.size)
          have hV7 := bl_call (bl_drew hV5) hb7
          clear hb7
          refine wpAnyC_two (i := 3) (j := 7) (by kernel_rfl) rfl rfl ⟨⟨_, hd1⟩, rfl⟩ rfl rfl (fun K hK => ?_) (fun K hK => ?_)
          · (go_simp; (go_at_call 23); (with_reducible refine Calls.mono (hAr2.out _ _ _ hP7 hV7) ?_); rintro e8 w8 ⟨rfl, hb8⟩; refine hK _ _ ?_; clear hK K; (have hd2 := hd1.trans (hb8.mono hd1.size)); refine wpAnyC_take (i := 4) (v := ?v4q1) rfl (by kernel_rfl) (by kernel_rfl) (by kernel_rfl) ?q4q1 rfl ?y4q1 ?r4q1; (case q4q1 => exact fun _ _ _ h => h); (case y4q1 => ((rintro _ ⟨z, rfl⟩); (go_simp); (try with_reducible rfl))); simp only [Act.put, List.getElem_toArray, List.getElem_cons_succ, List.getElem_cons_zero, List.setIfInBounds_toArray, List.set_cons_succ, List.set_cons_zero]; refine wpAnyC_take (i := 5) (v := ?v5q1) rfl (by kernel_rfl) (by kernel_rfl) (by kernel_rfl) ?q5q1 rfl ?y5q1 ?r5q1; (case q5q1 => exact fun _ _ _ h => h); (case y5q1 => ((rintro _ ⟨z, rfl⟩); (go_simp); (try with_reducible rfl))); simp only [Act.put, List.getElem_toArray, List.getElem_cons_succ, List.getElem_cons_zero, List.setIfInBounds_toArray, List.set_cons_succ, List.set_cons_zero]; refine wpAnyC_take (i := 6) (v := ?v6q1) rfl (by kernel_rfl) (by kernel_rfl) (by kernel_rfl) ?q6q1 rfl ?y6q1 ?r6q1; (case q6q1 => exact fun _ _ _ h => h); (case y6q1 => ((rintro _ ⟨z, rfl⟩); (go_simp); (try with_reducible rfl))); simp only [Act.put, List.getElem_toArray, List.getElem_cons_succ, List.getElem_cons_zero, List.setIfInBounds_toArray, List.set_cons_succ, List.set_cons_zero])
            have hd3 := bl_alloc (o := (.cells #[(Value.int .i64 (0)), (Value.int .i64 (0))] 23)) hd2
            refine wpAnyC_one (i := 7) (by kernel_rfl) rfl ⟨⟨_, hd2⟩, rfl⟩ rfl (fun K hK => ?_)
            (go_simp; refine hK _ _ ?_; clear hK K)
            refine wpAnyC_one (i := 8) (by kernel_rfl) rfl ⟨⟨_, hd3⟩, rfl⟩ rfl (fun K hK => ?_)
            (go_simp; refine hK _ _ ?_; clear hK K)
            have hd4 := bl_alloc (o := (.cells #[(Value.int .i64 (alo)), (Value.int .i64 (ahi))] 23)) hd2
            have s6 := Blk.new w8 23 #[(Value.int .i64 (alo)), (Value.int .i64 (ahi))]
            refine wpAnyC_take (i := 9) (v := ?v9q) rfl (by kernel_rfl) (by kernel_rfl) (by kernel_rfl) ?q9q rfl ?y9q ?r9q; (case q9q => exact fun _ _ _ h => h); (case y9q => ((rintro _ ⟨z, rfl⟩); (go_simp); (try with_reducible rfl))); simp only [Act.put, List.getElem_toArray, List.getElem_cons_succ, List.getElem_cons_zero, List.setIfInBounds_toArray, List.set_cons_succ, List.set_cons_zero]
            refine wpAnyC_doneN (by kernel_rfl) ⟨⟨_, hd4⟩, rfl⟩ ?_ _
            go_wp2
            go_meet
            exact ⟨_, rfl, rfl, s6, hd4⟩
          · (go_simp; refine hK _ _ ?_; clear hK K)
            have hd3 := bl_alloc (o := (.cells #[(Value.int .i64 (0)), (Value.int .i64 (0))] 23)) hd1
            have hV3 := bl_alloc (o := (.cells #[(Value.int .i64 (0)), (Value.int .i64 (0))] 23)) hV7
            have hP3 := hP7.alloc (.cells #[(Value.int .i64 (0)), (Value.int .i64 (0))] 23)
            have s6 := Blk.new w7 23 #[(Value.int .i64 (0)), (Value.int .i64 (0))]
            have hg6 : w6.heap.size ≤ w7.heap.size := hd1.size
            clear hd1 hV7 hP7
            generalize w7.alloc (.cells #[(Value.int .i64 (0)), (Value.int .i64 (0))] 23) = wy at *
            generalize w7.heap.size = g6 at *
            refine wpAnyC_one (i := 3) (by kernel_rfl) rfl ⟨⟨_, hd3⟩, rfl⟩ rfl (fun K hK => ?_)
            (go_simp; (go_at_call 23); (with_reducible refine Calls.mono (hAr2.out _ _ _ hP3 hV3) ?_); rintro e8 w8 ⟨rfl, hb8⟩; refine hK _ _ ?_; clear hK K; (have hd2 := hd3.trans (hb8.mono hd3.size)); refine wpAnyC_take (i := 4) (v := ?v4q2) rfl (by kernel_rfl) (by kernel_rfl) (by kernel_rfl) ?q4q2 rfl ?y4q2 ?r4q2; (case q4q2 => exact fun _ _ _ h => h); (case y4q2 => ((rintro _ ⟨z, rfl⟩); (go_simp); (try with_reducible rfl))); simp only [Act.put, List.getElem_toArray, List.getElem_cons_succ, List.getElem_cons_zero, List.setIfInBounds_toArray, List.set_cons_succ, List.set_cons_zero]; refine wpAnyC_take (i := 5) (v := ?v5q2) rfl (by kernel_rfl) (by kernel_rfl) (by kernel_rfl) ?q5q2 rfl ?y5q2 ?r5q2; (case q5q2 => exact fun _ _ _ h => h); (case y5q2 => ((rintro _ ⟨z, rfl⟩); (go_simp); (try with_reducible rfl))); simp only [Act.put, List.getElem_toArray, List.getElem_cons_succ, List.getElem_cons_zero, List.setIfInBounds_toArray, List.set_cons_succ, List.set_cons_zero]; refine wpAnyC_take (i := 6) (v := ?v6q2) rfl (by kernel_rfl) (by kernel_rfl) (by kernel_rfl) ?q6q2 rfl ?y6q2 ?r6q2; (case q6q2 => exact fun _ _ _ h => h); (case y6q2 => ((rintro _ ⟨z, rfl⟩); (go_simp); (try with_reducible rfl))); simp only [Act.put, List.getElem_toArray, List.getElem_cons_succ, List.getElem_cons_zero, List.setIfInBounds_toArray, List.set_cons_succ, List.set_cons_zero])
            ((have s7 := s6.below hb8); (have le := s7.lt); (have ye0 := s7.cell 0); (have ye1 := s7.cell 1); simp only [List.getElem?_toArray, List.getElem?_cons_zero, List.getElem?_cons_succ] at ye0 ye1; (have fe0 := s7.frozen 0); (have fe1 := s7.frozen 1); refine wpAnyC_one (i := 8) (by kernel_rfl) rfl ⟨⟨_, hd2⟩, rfl⟩ rfl (fun K hK => ?_); (go_simp; refine hK _ _ ?_; clear hK K); (have hd4 : Below w6.heap.size w6 ((w8.setCell ⟨g6, 0, none⟩ (Value.int .i64 (alo))).setCell ⟨g6, 1, none⟩ (Value.int .i64 (ahi))) := bl_setc (bl_setc hd2 hg6) hg6); refine wpAnyC_take (i := 9) (v := ?v9q2) rfl (by kernel_rfl) (by kernel_rfl) (by kernel_rfl) ?q9q2 rfl ?y9q2 ?r9q2; (case q9q2 => exact fun _ _ _ h => h); (case y9q2 => ((rintro _ ⟨z, rfl⟩); (go_simp); (try with_reducible rfl))); simp only [Act.put, List.getElem_toArray, List.getElem_cons_succ, List.getElem_cons_zero, List.setIfInBounds_toArray, List.set_cons_succ, List.set_cons_zero]; (refine wpAnyC_doneN (by kernel_rfl) ⟨⟨_, hd4⟩, rfl⟩ ?_ _); go_wp2; go_meet; (have h9 := (s7.set_ 0 (Value.int .i64 (alo))).set_ 1 (Value.int .i64 (ahi))); exact ⟨g6, rfl, rfl, by simpa using h9, hd4⟩)
        · (go_simp; refine hK _ _ ?_; clear hK K)
          have hd3 : Below w6.heap.size w6 (w6.alloc (.cells #[(Value.int .i64 (0)), (Value.int .i64 (0))] 23)).drew := by (repeat (first | with_reducible exact Below.refl _ _ | with_reducible apply bl_alloc | with_reducible apply bl_drew | with_reducible apply bl_after | (with_reducible refine bl_call ?_ (by assumption))))
          have hV3 : Below wr.heap.size wr (w6.alloc (.cells #[(Value.int .i64 (0)), (Value.int .i64 (0))] 23)).drew := bl_drew (bl_alloc hV5)
          have s6 : Blk (w6.alloc (.cells #[(Value.int .i64 (0)), (Value.int .i64 (0))] 23)).drew w6.heap.size 23 #[(Value.int .i64 (0)), (Value.int .i64 (0))] := Blk.new w6 23 #[(Value.int .i64 (0)), (Value.int .i64 (0))]
          have hg6 : w6.heap.size ≤ w6.heap.size := Nat.le_refl _
          generalize (w6.alloc (.cells #[(Value.int .i64 (0)), (Value.int .i64 (0))] 23)).drew = wy at *
          refine wpAnyC_one (i := 2) (by kernel_rfl) rfl ⟨⟨_, hd3⟩, rfl⟩ rfl (fun K hK => ?_)
          go_simp
          go_at_call 45
          (with_reducible refine Calls.mono (hTp.out _ hV3) ?_)
          rintro e7 w7 ⟨⟨A7, c7, rfl, hP7⟩, hb7⟩
          refine hK _ _ ?_
          clear hK K
          replace hd3 := hd3.trans (hb7.mono hd3.size)
          replace hV3 := bl_call hV3 hb7
          replace s6 := s6.below hb7
          clear hb7
          refine wpAnyC_one (i := 3) (by kernel_rfl) rfl ⟨⟨_, hd3⟩, rfl⟩ rfl (fun K hK => ?_)
          (go_simp; (go_at_call 23); (with_reducible refine Calls.mono (hAr2.out _ _ _ hP7 hV3) ?_); rintro e8 w8 ⟨rfl, hb8⟩; refine hK _ _ ?_; clear hK K; (have hd2 := hd3.trans (hb8.mono hd3.size)); refine wpAnyC_take (i := 4) (v := ?v4q3) rfl (by kernel_rfl) (by kernel_rfl) (by kernel_rfl) ?q4q3 rfl ?y4q3 ?r4q3; (case q4q3 => exact fun _ _ _ h => h); (case y4q3 => ((rintro _ ⟨z, rfl⟩); (go_simp); (try with_reducible rfl))); simp only [Act.put, List.getElem_toArray, List.getElem_cons_succ, List.getElem_cons_zero, List.setIfInBounds_toArray, List.set_cons_succ, List.set_cons_zero]; refine wpAnyC_take (i := 5) (v := ?v5q3) rfl (by kernel_rfl) (by kernel_rfl) (by kernel_rfl) ?q5q3 rfl ?y5q3 ?r5q3; (case q5q3 => exact fun _ _ _ h => h); (case y5q3 => ((rintro _ ⟨z, rfl⟩); (go_simp); (try with_reducible rfl))); simp only [Act.put, List.getElem_toArray, List.getElem_cons_succ, List.getElem_cons_zero, List.setIfInBounds_toArray, List.set_cons_succ, List.set_cons_zero]; refine wpAnyC_take (i := 6) (v := ?v6q3) rfl (by kernel_rfl) (by kernel_rfl) (by kernel_rfl) ?q6q3 rfl ?y6q3 ?r6q3; (case q6q3 => exact fun _ _ _ h => h); (case y6q3 => ((rintro _ ⟨z, rfl⟩); (go_simp); (try with_reducible rfl))); simp only [Act.put, List.getElem_toArray, List.getElem_cons_succ, List.getElem_cons_zero, List.setIfInBounds_toArray, List.set_cons_succ, List.set_cons_zero])
          ((have s7 := s6.below hb8); (have le := s7.lt); (have ye0 := s7.cell 0); (have ye1 := s7.cell 1); simp only [List.getElem?_toArray, List.getElem?_cons_zero, List.getElem?_cons_succ] at ye0 ye1; (have fe0 := s7.frozen 0); (have fe1 := s7.frozen 1); refine wpAnyC_one (i := 8) (by kernel_rfl) rfl ⟨⟨_, hd2⟩, rfl⟩ rfl (fun K hK => ?_); (go_simp; refine hK _ _ ?_; clear hK K); (have hd4 : Below w6.heap.size w6 ((w8.setCell ⟨w6.heap.size, 0, none⟩ (Value.int .i64 (alo))).setCell ⟨w6.heap.size, 1, none⟩ (Value.int .i64 (ahi))) := bl_setc (bl_setc hd2 hg6) hg6); refine wpAnyC_take (i := 9) (v := ?v9q3) rfl (by kernel_rfl) (by kernel_rfl) (by kernel_rfl) ?q9q3 rfl ?y9q3 ?r9q3; (case q9q3 => exact fun _ _ _ h => h); (case y9q3 => ((rintro _ ⟨z, rfl⟩); (go_simp); (try with_reducible rfl))); simp only [Act.put, List.getElem_toArray, List.getElem_cons_succ, List.getElem_cons_zero, List.setIfInBounds_toArray, List.set_cons_succ, List.set_cons_zero]; (refine wpAnyC_doneN (by kernel_rfl) ⟨⟨_, hd4⟩, rfl⟩ ?_ _); go_wp2; go_meet; (have h9 := (s7.set_ 0 (Value.int .i64 (alo))).set_ 1 (Value.int .i64 (ahi))); exact ⟨w6.heap.size, rfl, rfl, by simpa using h9, hd4⟩)
      case rest =>
        obtain ⟨g6, rfl, rfl, s6, hb6⟩ := hcut
        have hVc := bl_call hV5 hb6
        replace v1 := v1.below hb6
        replace v2 := v2.below hb6
        replace v7 := v7.below hb6
        replace s5 := s5.below hb6
        replace hJ2 := hJ2.below hb6
        replace hJ4 := hJ4.below hb6
        replace hP5 := hP5.below hb6
        clear lc yc0 yc1 yc2 yc3 yc4 yc5 hV5 hb6 hAr hAr2 hTp hF1 hF2
        generalize wc = w6 at *
        (have la := v1.lt); (have ya0 := v1.cell 0); (have ya1 := v1.cell 1); (have ya2 := v1.cell 2); (have ya3 := v1.cell 3); (have ya4 := v1.cell 4); (have ya5 := v1.cell 5); simp only [List.getElem?_toArray, List.getElem?_cons_zero, List.getElem?_cons_succ] at ya0 ya1 ya2 ya3 ya4 ya5
        (have lb := v2.lt); (have yb0 := v2.cell 0); (have yb1 := v2.cell 1); (have yb2 := v2.cell 2); (have yb3 := v2.cell 3); simp only [List.getElem?_toArray, List.getElem?_cons_zero, List.getElem?_cons_succ] at yb0 yb1 yb2 yb3
        go_upto_region 15 with ((go_at_call 39); (with_reducible refine Calls.mono (hLn.out _ hVc) ?_); rintro e7 w7 ⟨rfl, hb7⟩; first | ((with_reducible apply kp_in_step (hb := hb7)); (with_reducible assumption); rintro ⟨hk, hc, hf, hzc, hzf⟩) | ((with_reducible refine kp_in_first hb7 ?_); rintro ⟨hk, hc, hf, hzc, hzf⟩))
        have hW7 := bl_alloc (o := (.cells #[(Value.int .i64 (llo)), (Value.int .i64 (lhi))] 23)) hb7
        have hV7 := bl_alloc (o := (.cells #[(Value.int .i64 (llo)), (Value.int .i64 (lhi))] 23)) (bl_call hVc hb7)
        have s7 := Blk.new w7 23 #[(Value.int .i64 (llo)), (Value.int .i64 (lhi))]
        have hW7' : Below w6.heap.size w6 (w7.alloc (.cells #[(Value.int .i64 (llo)), (Value.int .i64 (lhi))] 23)) := bl_alloc hb7
        replace v1 := v1.below hW7'
        replace v7 := v7.below hW7'
        replace s5 := s5.below hW7'
        replace s6 := s6.below hW7'
        replace hJ2 := hJ2.below hW7'
        replace hJ4 := hJ4.below hW7'
        replace hP5 := hP5.below hW7'
        clear la ya0 ya1 ya2 ya3 ya4 ya5 lb yb0 yb1 yb2 yb3 v2 hW7 hW7' hb7 hVc hLn
        ((try clear hk hc hf hzc hzf); (try clear hk hc hf hzc hzf); (try clear hk hc hf hzc hzf); (try clear hk hc hf hzc hzf))
        generalize w7.alloc (.cells #[(Value.int .i64 (llo)), (Value.int .i64 (lhi))] 23) = w8 at *
        generalize w7.heap.size = g7s at *
        (have lc := v7.lt); (have yc0 := v7.cell 0); (have yc1 := v7.cell 1); (have yc2 := v7.cell 2); (have yc3 := v7.cell 3); (have yc4 := v7.cell 4); (have yc5 := v7.cell 5); simp only [List.getElem?_toArray, List.getElem?_cons_zero, List.getElem?_cons_succ] at yc0 yc1 yc2 yc3 yc4 yc5
        obtain ⟨b9, o9, rfl, p9⟩ := hP5.at_ (k := 0) (by simp)
        have p90 : w8.cell? ⟨b9, o9, none⟩ = some (Value.int .i64 (a.2)) := by simpa [pat, swp] using p9.xp (i := 0) (by simp)
        have p91 : w8.cell? ⟨b9, o9 + 1, none⟩ = some (Value.int .i64 (a.1)) := by simpa [pat, swp] using p9.yp (i := 0) (by simp)
        have p92 : w8.cell? ⟨b9, o9 + 2, none⟩ = some (Value.int .i64 (b.2)) := by simpa [pat, swp] using p9.xp (i := 1) (by simp)
        have p93 : w8.cell? ⟨b9, o9 + 3, none⟩ = some (Value.int .i64 (b.1)) := by simpa [pat, swp] using p9.yp (i := 1) (by simp)
        have l9 := p9.lt
        clear p9 hP5
        go_cut [20, 21] (fun s20 s21 wx => ∃ g8 : Nat, s20 = .pointer (some ⟨g8, 0, none⟩) ∧ s21 = (Value.int .i64 (lne)) ∧ Blk wx g8 23 #[(Value.int .i64 (llo)), (Value.int .i64 (lhi))] ∧ Below w8.heap.size w8 wx)
        case first =>
          refine wp_region_CN (fun w' => ∃ z : After w8, w' = z.val) (by kernel_rfl) ?_
          change wpAnyC _ _ _ _ _ _ _ (World.drew w8)
          have hd0 : Below w8.heap.size w8 w8.drew := bl_drew (Below.refl _ _)
          refine wpAnyC_take (i := 0) (v := ?v0r) rfl (by kernel_rfl) (by kernel_rfl) (by kernel_rfl) ?q0r rfl ?y0r ?r0r; (case q0r => exact fun _ _ _ h => h); (case y0r => ((rintro _ ⟨z, rfl⟩); (go_simp); (try with_reducible rfl))); simp only [Act.put, List.getElem_toArray, List.getElem_cons_succ, List.getElem_cons_zero, List.setIfInBounds_toArray, List.set_cons_succ, List.set_cons_zero]
          refine wpAnyC_take (i := 1) (v := ?v1r) rfl (by kernel_rfl) (by kernel_rfl) (by kernel_rfl) ?q1r rfl ?y1r ?r1r; (case q1r => exact fun _ _ _ h => h); (case y1r => ((rintro _ ⟨z, rfl⟩); (go_simp); (try with_reducible rfl))); simp only [Act.put, List.getElem_toArray, List.getElem_cons_succ, List.getElem_cons_zero, List.setIfInBounds_toArray, List.set_cons_succ, List.set_cons_zero]
          refine wpAnyC_take (i := 2) (v := ?v2r) rfl (by kernel_rfl) (by kernel_rfl) (by kernel_rfl) ?q2r rfl ?y2r ?r2r; (case q2r => exact fun _ _ _ h => h); (case y2r => ((rintro _ ⟨z, rfl⟩); (go_simp); (try with_reducible rfl))); simp only [Act.put, List.getElem_toArray, List.getElem_cons_succ, List.getElem_cons_zero, List.setIfInBounds_toArray, List.set_cons_succ, List.set_cons_zero]
          refine wpAnyC_take (i := 3) (v := ?v3r) rfl (by kernel_rfl) (by kernel_rfl) (by kernel_rfl) ?q3r rfl ?y3r ?r3r; (case q3r => exact fun _ _ _ h => h); (case y3r => ((rintro _ ⟨z, rfl⟩); (go_simp); (try with_reducible rfl))); simp only [Act.put, List.getElem_toArray, List.getElem_cons_succ, List.getElem_cons_zero, List.setIfInBounds_toArray, List.set_cons_succ, List.set_cons_zero]
          refine wpAnyC_take (i := 4) (v := ?v4r) rfl (by kernel_rfl) (by kernel_rfl) (by kernel_rfl) ?q4r rfl ?y4r ?r4r; (case q4r => exact fun _ _ _ h => h); (case y4r => ((rintro _ ⟨z, rfl⟩); (go_simp); (try with_reducible rfl))); simp only [Act.put, List.getElem_toArray, List.getElem_cons_succ, List.getElem_cons_zero, List.setIfInBounds_toArray, List.set_cons_succ, List.set_cons_zero]
          refine wpAnyC_take (i := 5) (v := ?v5r) rfl (by kernel_rfl) (by kernel_rfl) (by kernel_rfl) ?q5r rfl ?y5r ?r5r; (case q5r => exact fun _ _ _ h => h); (case y5r => ((rintro _ ⟨z, rfl⟩); (go_simp); (try with_reducible rfl))); simp only [Act.put, List.getElem_toArray, List.getElem_cons_succ, List.getElem_cons_zero, List.setIfInBounds_toArray, List.set_cons_succ, List.set_cons_zero]
          refine wpAnyC_take (i := 6) (v := ?v6r) rfl (by kernel_rfl) (by kernel_rfl) (by kernel_rfl) ?q6r rfl ?y6r ?r6r; (case q6r => exact fun _ _ _ h => h); (case y6r => ((rintro _ ⟨z, rfl⟩); (go_simp); (try with_reducible rfl))); simp only [Act.put, List.getElem_toArray, List.getElem_cons_succ, List.getElem_cons_zero, List.setIfInBounds_toArray, List.set_cons_succ, List.set_cons_zero]
          refine wpAnyC_two (i := 7) (j := 11) (by kernel_rfl) rfl rfl ⟨⟨_, hd0⟩, rfl⟩ rfl rfl (fun K hK => ?_) (fun K hK => ?_)
          · (go_simp; (go_at_call 39); (with_reducible refine Calls.mono (hLn2.out _ (bl_drew hV7)) ?_); rintro e9 w9 ⟨rfl, hb9⟩; refine hK _ _ ?_; clear hK K; (have hd2 := hd0.trans (hb9.mono hd0.size)); refine wpAnyC_take (i := 8) (v := ?v8r1) rfl (by kernel_rfl) (by kernel_rfl) (by kernel_rfl) ?q8r1 rfl ?y8r1 ?r8r1; (case q8r1 => exact fun _ _ _ h => h); (case y8r1 => ((rintro _ ⟨z, rfl⟩); (go_simp); (try with_reducible rfl))); simp only [Act.put, List.getElem_toArray, List.getElem_cons_succ, List.getElem_cons_zero, List.setIfInBounds_toArray, List.set_cons_succ, List.set_cons_zero]; refine wpAnyC_take (i := 9) (v := ?v9r1) rfl (by kernel_rfl) (by kernel_rfl) (by kernel_rfl) ?q9r1 rfl ?y9r1 ?r9r1; (case q9r1 => exact fun _ _ _ h => h); (case y9r1 => ((rintro _ ⟨z, rfl⟩); (go_simp); (try with_reducible rfl))); simp only [Act.put, List.getElem_toArray, List.getElem_cons_succ, List.getElem_cons_zero, List.setIfInBounds_toArray, List.set_cons_succ, List.set_cons_zero]; refine wpAnyC_take (i := 10) (v := ?v10r1) rfl (by kernel_rfl) (by kernel_rfl) (by kernel_rfl) ?q10r1 rfl ?y10r1 ?r10r1; (case q10r1 => exact fun _ _ _ h => h); (case y10r1 => ((rintro _ ⟨z, rfl⟩); (go_simp); (try with_reducible rfl))); simp only [Act.put, List.getElem_toArray, List.getElem_cons_succ, List.getElem_cons_zero, List.setIfInBounds_toArray, List.set_cons_succ, List.set_cons_zero])
            have hd3 := bl_alloc (o := (.cells #[(Value.int .i64 (0)), (Value.int .i64 (0))] 23)) hd2
            refine wpAnyC_one (i := 11) (by kernel_rfl) rfl ⟨⟨_, hd2⟩, rfl⟩ rfl (fun K hK => ?_)
            (go_simp; refine hK _ _ ?_; clear hK K)
            refine wpAnyC_one (i := 12) (by kernel_rfl) rfl ⟨⟨_, hd3⟩, rfl⟩ rfl (fun K hK => ?_)
            (go_simp; refine hK _ _ ?_; clear hK K)
            have hd4 := bl_alloc (o := (.cells #[(Value.int .i64 (llo)), (Value.int .i64 (lhi))] 23)) hd2
            have s9 := Blk.new w9 23 #[(Value.int .i64 (llo)), (Value.int .i64 (lhi))]
            refine wpAnyC_take (i := 13) (v := ?v13r1) rfl (by kernel_rfl) (by kernel_rfl) (by kernel_rfl) ?q13r1 rfl ?y13r1 ?r13r1; (case q13r1 => exact fun _ _ _ h => h); (case y13r1 => ((rintro _ ⟨z, rfl⟩); (go_simp); (try with_reducible rfl))); simp only [Act.put, List.getElem_toArray, List.getElem_cons_succ, List.getElem_cons_zero, List.setIfInBounds_toArray, List.set_cons_succ, List.set_cons_zero]
            refine wpAnyC_doneN (by kernel_rfl) ⟨⟨_, hd4⟩, rfl⟩ ?_ _
            go_wp2
            go_meet
            exact ⟨_, rfl, rfl, s9, hd4⟩
          · (go_simp; refine hK _ _ ?_; clear hK K)
            have hd3 : Below w8.heap.size w8 (w8.alloc (.cells #[(Value.int .i64 (0)), (Value.int .i64 (0))] 23)).drew := by (repeat (first | with_reducible exact Below.refl _ _ | with_reducible apply bl_alloc | with_reducible apply bl_drew | with_reducible apply bl_after | (with_reducible refine bl_call ?_ (by assumption))))
            have hV3 : Below wr.heap.size wr (w8.alloc (.cells #[(Value.int .i64 (0)), (Value.int .i64 (0))] 23)).drew := bl_drew (bl_alloc hV7)
            have s9 : Blk (w8.alloc (.cells #[(Value.int .i64 (0)), (Value.int .i64 (0))] 23)).drew w8.heap.size 23 #[(Value.int .i64 (0)), (Value.int .i64 (0))] := Blk.new w8 23 #[(Value.int .i64 (0)), (Value.int .i64 (0))]
            have hg6 : w8.heap.size ≤ w8.heap.size := Nat.le_refl _
            generalize (w8.alloc (.cells #[(Value.int .i64 (0)), (Value.int .i64 (0))] 23)).drew = wy at *
            refine wpAnyC_one (i := 7) (by kernel_rfl) rfl ⟨⟨_, hd3⟩, rfl⟩ rfl (fun K hK => ?_)
            (go_simp; (go_at_call 39); (with_reducible refine Calls.mono (hLn2.out _ hV3) ?_); rintro e9 w9 ⟨rfl, hb9⟩; refine hK _ _ ?_; clear hK K; (have hd2 := hd3.trans (hb9.mono hd3.size)); refine wpAnyC_take (i := 8) (v := ?v8r2) rfl (by kernel_rfl) (by kernel_rfl) (by kernel_rfl) ?q8r2 rfl ?y8r2 ?r8r2; (case q8r2 => exact fun _ _ _ h => h); (case y8r2 => ((rintro _ ⟨z, rfl⟩); (go_simp); (try with_reducible rfl))); simp only [Act.put, List.getElem_toArray, List.getElem_cons_succ, List.getElem_cons_zero, List.setIfInBounds_toArray, List.set_cons_succ, List.set_cons_zero]; refine wpAnyC_take (i := 9) (v := ?v9r2) rfl (by kernel_rfl) (by kernel_rfl) (by kernel_rfl) ?q9r2 rfl ?y9r2 ?r9r2; (case q9r2 => exact fun _ _ _ h => h); (case y9r2 => ((rintro _ ⟨z, rfl⟩); (go_simp); (try with_reducible rfl))); simp only [Act.put, List.getElem_toArray, List.getElem_cons_succ, List.getElem_cons_zero, List.setIfInBounds_toArray, List.set_cons_succ, List.set_cons_zero]; refine wpAnyC_take (i := 10) (v := ?v10r2) rfl (by kernel_rfl) (by kernel_rfl) (by kernel_rfl) ?q10r2 rfl ?y10r2 ?r10r2; (case q10r2 => exact fun _ _ _ h => h); (case y10r2 => ((rintro _ ⟨z, rfl⟩); (go_simp); (try with_reducible rfl))); simp only [Act.put, List.getElem_toArray, List.getElem_cons_succ, List.getElem_cons_zero, List.setIfInBounds_toArray, List.set_cons_succ, List.set_cons_zero])
            have s10 := s9.below hb9
            (have le := s10.lt); (have ye0 := s10.cell 0); (have ye1 := s10.cell 1); simp only [List.getElem?_toArray, List.getElem?_cons_zero, List.getElem?_cons_succ] at ye0 ye1
            have fe0 := s10.frozen 0
            have fe1 := s10.frozen 1
            refine wpAnyC_one (i := 12) (by kernel_rfl) rfl ⟨⟨_, hd2⟩, rfl⟩ rfl (fun K hK => ?_)
            (go_simp; refine hK _ _ ?_; clear hK K)
            have hd4 : Below w8.heap.size w8 ((w9.setCell ⟨w8.heap.size, 0, none⟩ (Value.int .i64 (llo))).setCell ⟨w8.heap.size, 1, none⟩ (Value.int .i64 (lhi))) := bl_setc (bl_setc hd2 hg6) hg6
            refine wpAnyC_take (i := 13) (v := ?v13r2) rfl (by kernel_rfl) (by kernel_rfl) (by kernel_rfl) ?q13r2 rfl ?y13r2 ?r13r2; (case q13r2 => exact fun _ _ _ h => h); (case y13r2 => ((rintro _ ⟨z, rfl⟩); (go_simp); (try with_reducible rfl))); simp only [Act.put, List.getElem_toArray, List.getElem_cons_succ, List.getElem_cons_zero, List.setIfInBounds_toArray, List.set_cons_succ, List.set_cons_zero]
            refine wpAnyC_doneN (by kernel_rfl) ⟨⟨_, hd4⟩, rfl⟩ ?_ _
            go_wp2
            go_meet
            have h9 := (s10.set_ 0 (Value.int .i64 (llo))).set_ 1 (Value.int .i64 (lhi))
            exact ⟨w8.heap.size, rfl, rfl, by simpa using h9, hd4⟩
        case rest =>
          obtain ⟨g8, rfl, rfl, s8, hb8⟩ := hcut
          have hVd := bl_call hV7 hb8
          replace v1 := v1.below hb8
          replace v7 := v7.below hb8
          replace s5 := s5.below hb8
          replace s6 := s6.below hb8
          replace s7 := s7.below hb8
          replace hJ2 := hJ2.below hb8
          replace hJ4 := hJ4.below hb8
          clear lc yc0 yc1 yc2 yc3 yc4 yc5 hV7 hb8 hLn2 p90 p91 p92 p93 l9
          generalize wc = w8 at *
          (have la := v1.lt); (have ya0 := v1.cell 0); (have ya1 := v1.cell 1); (have ya2 := v1.cell 2); (have ya3 := v1.cell 3); (have ya4 := v1.cell 4); (have ya5 := v1.cell 5); simp only [List.getElem?_toArray, List.getElem?_cons_zero, List.getElem?_cons_succ] at ya0 ya1 ya2 ya3 ya4 ya5
          (have lc := v7.lt); (have yc0 := v7.cell 0); (have yc1 := v7.cell 1); (have yc2 := v7.cell 2); (have yc3 := v7.cell 3); (have yc4 := v7.cell 4); (have yc5 := v7.cell 5); simp only [List.getElem?_toArray, List.getElem?_cons_zero, List.getElem?_cons_succ] at yc0 yc1 yc2 yc3 yc4 yc5
          (have ld := s5.lt); (have yd0 := s5.cell 0); (have yd1 := s5.cell 1); simp only [List.getElem?_toArray, List.getElem?_cons_zero, List.getElem?_cons_succ] at yd0 yd1
          (have le := s6.lt); (have ye0 := s6.cell 0); (have ye1 := s6.cell 1); simp only [List.getElem?_toArray, List.getElem?_cons_zero, List.getElem?_cons_succ] at ye0 ye1
          (have lf := s7.lt); (have yf0 := s7.cell 0); (have yf1 := s7.cell 1); simp only [List.getElem?_toArray, List.getElem?_cons_zero, List.getElem?_cons_succ] at yf0 yf1
          (have lg := s8.lt); (have yg0 := s8.cell 0); (have yg1 := s8.cell 1); simp only [List.getElem?_toArray, List.getElem?_cons_zero, List.getElem?_cons_succ] at yg0 yg1
          have J2 := Lib.hid hJ2
          have J4 := Lib.hid hJ4
          clear v1 v7 s5 s6 s7 s8 hJ2 hJ4
          go_upto_region 20 with (first | ((go_at_call 22); (with_reducible refine Calls.mono (hMn.out _ hVd) ?_); rintro e10 w10 ⟨rfl, hb10⟩; (have hVe := bl_call hVd hb10); first | ((with_reducible apply kp_in_step (hb := hb10)); (with_reducible assumption); rintro ⟨hk, hc, hf, hzc, hzf⟩) | ((with_reducible refine kp_in_first hb10 ?_); rintro ⟨hk, hc, hf, hzc, hzf⟩)) | ((go_at_call 22); (with_reducible refine Calls.mono (hMn2.out _ hVe) ?_); rintro e11 w11 ⟨rfl, hb11⟩; (have hVf := bl_call hVe hb11); first | ((with_reducible apply kp_in_step (hb := hb11)); (with_reducible assumption); rintro ⟨hk, hc, hf, hzc, hzf⟩) | ((with_reducible refine kp_in_first hb11 ?_); rintro ⟨hk, hc, hf, hzc, hzf⟩)) | ((go_at_call 43); (with_reducible refine Calls.mono (hSt.out _ hVf) ?_); rintro e12 w12 ⟨⟨Ak, ck, rfl, hIk⟩, hb12⟩; (have hVg := bl_call hVf hb12); first | ((with_reducible apply kp_in_step (hb := hb12)); (with_reducible assumption); rintro ⟨hk, hc, hf, hzc, hzf⟩) | ((with_reducible refine kp_in_first hb12 ?_); rintro ⟨hk, hc, hf, hzc, hzf⟩)) | ((go_at_call 43); (with_reducible refine Calls.mono (hSt2.out _ hVg) ?_); rintro e13 w13 ⟨⟨Am, cm, rfl, hIm⟩, hb13⟩; (have hVh := bl_call hVg hb13); first | ((with_reducible apply kp_in_step (hb := hb13)); (with_reducible assumption); rintro ⟨hk, hc, hf, hzc, hzf⟩) | ((with_reducible refine kp_in_first hb13 ?_); rintro ⟨hk, hc, hf, hzc, hzf⟩)))
          have hW13 : Below w8.heap.size w8 w13 := bl_call (bl_call (bl_call hb10 hb11) hb12) hb13
          have hK2 := J2.out.below hW13
          have hK4 := J4.out.below hW13
          have hKk := hIk.below hb13
          clear hIk hb10 hb11 hb12 J2 J4 hVd hVe hVf hVg hMn hMn2 hSt hSt2 hW13
          go_wp2_with (first | ((go_at_call 35); (with_reducible refine Calls.mono (hSi.out F hfl _ _ _ _ _ hK2 hK4) ?_); rintro e14 w14 ⟨rfl, hb14⟩; (have hKk14 := hKk.below hb14); (have hIm14 := hIm.below hb14); (have hVi := bl_call hVh hb14); first | ((with_reducible apply kp_in_step (hb := hb14)); (with_reducible assumption); rintro ⟨hk, hc, hf, hzc, hzf⟩) | ((with_reducible refine kp_in_first hb14 ?_); rintro ⟨hk, hc, hf, hzc, hzf⟩)) | ((go_at_call 35); (with_reducible refine Calls.mono (hSi.out sv (by omega) _ _ _ _ _ hKk14 hIm14) ?_); rintro e15 w15 ⟨rfl, hb15⟩; (have hVj := bl_call hVi hb15); first | ((with_reducible apply kp_in_step (hb := hb15)); (with_reducible assumption); rintro ⟨hk, hc, hf, hzc, hzf⟩) | ((with_reducible refine kp_in_first hb15 ?_); rintro ⟨hk, hc, hf, hzc, hzf⟩)) | ((go_at_call 13); (with_reducible refine Calls.mono (works4 _) ?_); rintro e16 w16 ⟨rfl, hb16⟩; (have hVk := bl_call hVj hb16); first | ((with_reducible apply kp_in_step (hb := hb16)); (with_reducible assumption); rintro ⟨hk, hc, hf, hzc, hzf⟩) | ((with_reducible refine kp_in_first hb16 ?_); rintro ⟨hk, hc, hf, hzc, hzf⟩)))
          go_ret
          exact ⟨rfl, bl_call hbw hVk⟩
theorem lawTurn_any (A B : Option Addr) (ca cb : Nat) (S : Sht) (l : List Pt) (a b : Pt) (w : World) (ha : Cts w A S.cs) (hla : S.cs.length ≤ 9223372036854775807) (hb : Pts w B l) (hlb : l.length ≤ 9223372036854775807) :
    Calls Try.prog 9 #[(Value.agg #[(Value.int .i64 (S.xlo)), (Value.int .i64 (S.xhi)), (Value.int .i64 (S.ylo)), (Value.int .i64 (S.yhi)), .slice A S.cs.length ca, (Value.int .i64 (S.wrong))]), .slice B l.length cb, .agg #[(Value.int .i64 (a.1)), (Value.int .i64 (a.2)), (Value.int .i64 (b.1)), (Value.int .i64 (b.2))]] w fun e w' => e = .returned (.bool true) ∧ Below w.heap.size w w' := by
  by_cases h1 : rdyB S = true
  · by_cases h2 : polB l = true
    · exact lawTurn_ok A B ca cb S l a b w ha hla hb hlb h1 h2
    · exact lawTurn_no A B ca cb S l a b w ha hla hb hlb true false h1 (by simpa using h2) (.inr ⟨rfl, rfl⟩)
  · exact lawTurn_no A B ca cb S l a b w ha hla hb hlb false (polB l) (by simpa using h1) rfl (.inl rfl)
section
open Go.ChangeAt
set_option maxRecDepth 100000 in
theorem sheetsTurned_lifted (os : Os) (started : os.Started) (H : Type) (enc : TypeId × Value → H) :
    ReturnsInHanded {} Try.checked os 9 .any (Rows.sheetsTurnedSpec.pre6 enc Try.prog Try.f9 Rows.sheetsTurnedRow.domain false) (Rows.sheetsTurnedSpec.post enc Try.prog Try.f9 false true false false) := by
  refine returnsInHanded_of_change (C := Try.checked) own_knob started (by kernel_rfl) Try.func9
    (ChangeSpec.witness6 (enc := enc) (C := Try.checked) false ⟨#[], #[.agg #[.int .i64 0, .int .i64 0, .int .i64 0, .int .i64 0, .slice none 0 0, .int .i64 0], .slice none 0 0, .agg #[.int .i64 0, .int .i64 0, .int .i64 0, .int .i64 0]], []⟩ 8 (by kernel_rfl) (by kernel_rfl) (by kernel_rfl) (by kernel_rfl)) ?_
  intro W base args ds gs before hval0 hW hcnd _
  have hval : ∀ (j : Nat) t v, Try.f9.params[j]? = some t → args[j]? = some v → Value.okWide Try.prog W .any base t v := hval0
  have hW2 := hW
  obtain ⟨p, q, hA0, hV, rfl, hfz, hnd⟩ := hW
  have hA : DataW.TrodAll enc Try.prog W 0 (fun _ => true) true Try.f9.params.toList args.toList ds p := hA0
  rw [Try.params9] at hA hval
  obtain ⟨v0, v1, v2, d0, d1, d2, p0, p1, p2, rfl, rfl, rfl, h0, h1, h2⟩ := trodAll_three hA; obtain ⟨A, ca, S, rfl, hP0, hl0, hT1, hT2, hT3, hT4, hT5⟩ := open_sheet (hval 0 _ _ rfl rfl) h0; obtain ⟨B, cb, l, rfl, hP1, hl1⟩ := open_points (okWide_slice undPts (hval 1 _ _ rfl rfl)) h1; obtain ⟨xa, xb, rfl⟩ := open_two (hval 2 _ _ rfl rfl) h2
  obtain ⟨rfl, rfl⟩ := trodVars_none hV
  clear hA0 hval0
  simp only [List.append_nil, List.nil_append] at hW2
  (try simp only [List.append_nil, List.nil_append] at hA)
  refine (lawTurn_any A B ca cb S l xa xb W hP0 hl0 hP1 hl1).mono fun e W2 ⟨he, hb⟩ => ?_
  subst he
  refine ⟨_, rfl, post_of_below (pa := _) (pv := []) hW2 (fun _ _ _ => trodAll_mk1 (shut_bool und_bool _)) (fun sp hs => args_stay hb (by rw [Try.params9]; intro t ht; simp at ht; (try rcases ht with rfl | rfl | rfl) <;> (try rcases ht with rfl | rfl) <;> (try subst ht) <;> exact ⟨by kernel_rfl, by decide +kernel⟩) (by rw [Try.params9]; exact hA) hs) (fun _ _ => rfl) (by simp) hb (ok_one (by kernel_rfl) rfl (okWide_bool_mk und_bool _))⟩

theorem sheetsTurned_holds : Rows.SheetsTurnedSaid :=
  OpenClaim.holds_of_wide 9 Try.f9 rfl rfl rfl rfl rfl rfl rfl ⟨rfl, rfl, rfl, rfl, rfl⟩ rfl rfl rfl rfl rfl (by kernel_rfl) Try.func9 (by kernel_rfl)
    (of_decide_eq_true (by kernel_rfl)) (by unfold Func.isWrapper; first | (rw [if_pos (by decide +kernel)]; kernel_rfl) | (rw [if_neg (by decide +kernel)]; exact ⟨rfl, rfl⟩))
    (fun os started H enc _ => sheetsTurned_lifted os started H enc)
end
end Go.Proofs.Ytegdnbceiopklaa
