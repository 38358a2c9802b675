/- The law SheetsMore answers true for any sheet, polygon, and what is more known. -/
import Derived.Test.YtegdnbceiopklaaWk4
import Derived.Test.YtegdnbceiopklaaMo7
import Derived.Test.YtegdnbceiopklaaOpc
import Derived.Test.YtegdnbceiopklaaRows
namespace Go.Proofs.Ytegdnbceiopklaa
open Go.ChangeShapes Go.WideShapes Go.RowKit
attribute [local go_sem] After.cell After.frozen

/-- Whether the law looks at the numbers. -/
def morB (p q r : Int) : Prop := ¬ p < 0 ∧ ¬ q < 0 ∧ ¬ 1000 < p ∧ ¬ 1000 < q ∧ ¬ r < 0 ∧ ¬ 9999 < r
set_option maxRecDepth 100000 in
set_option maxHeartbeats 4000000 in
theorem lawMore_no (A B : Option Addr) (ca cb : Nat) (S : Sht) (l : List Pt) (c : Ctl) (p q wh r : Int) (w : World) (ha : Cts w A S.cs) (hla : S.cs.length ≤ 9223372036854775807) (hb : Pts w B l) (hlb : l.length ≤ 9223372036854775807)
    (x1 x2 : Bool) (h1 : rdyB S = x1) (h2 : polB l = x2) (hx : x1 = false ∨ (x1 = true ∧ x2 = false) ∨ (x1 = true ∧ x2 = true ∧ p < 0) ∨ (x1 = true ∧ x2 = true ∧ ¬ p < 0 ∧ q < 0) ∨ (x1 = true ∧ x2 = true ∧ ¬ p < 0 ∧ ¬ q < 0 ∧ 1000 < p) ∨ (x1 = true ∧ x2 = true ∧ ¬ p < 0 ∧ ¬ q < 0 ∧ ¬ 1000 < p ∧ 1000 < q) ∨ (x1 = true ∧ x2 = true ∧ ¬ p < 0 ∧ ¬ q < 0 ∧ ¬ 1000 < p ∧ ¬ 1000 < q ∧ r < 0) ∨ (x1 = true ∧ x2 = true ∧ ¬ p < 0 ∧ ¬ q < 0 ∧ ¬ 1000 < p ∧ ¬ 1000 < q ∧ ¬ r < 0 ∧ 9999 < r)) :
    Calls Try.prog 7 #[(Value.agg #[(Value.int .i64 (S.xlo)), (Value.int .i64 (S.xhi)), (Value.int .i64 (S.ylo)), (Value.int .i64 (S.yhi)), .slice A S.cs.length ca, (Value.int .i64 (S.wrong))]), .slice B l.length cb, .agg #[(Value.int .i64 (c.way)), (Value.int .i64 (c.tru)), (Value.int .i64 (c.read)), (Value.int .i64 (c.off)), (Value.int .i64 (p)), (Value.int .i64 (q)), (Value.int .i64 (wh)), (Value.int .i64 (r))]] w fun e w' => e = .returned (.bool true) ∧ Below w.heap.size w w' := by
  have hR := fun (W : World) (h : Below w.heap.size w W) => ready4 A ca S W (ha.below h) hla
  have hP := fun (W : World) (h : Below w.heap.size w W) => isPolygon4 B cb l W (hb.below h) hlb
  have c1 : Blk ((w.alloc (.cells #[(Value.int .i64 (S.xlo)), (Value.int .i64 (S.xhi)), (Value.int .i64 (S.ylo)), (Value.int .i64 (S.yhi)), .slice A S.cs.length ca, (Value.int .i64 (S.wrong))] 26)).alloc (.cells #[(Value.int .i64 (c.way)), (Value.int .i64 (c.tru)), (Value.int .i64 (c.read)), (Value.int .i64 (c.off)), (Value.int .i64 (p)), (Value.int .i64 (q)), (Value.int .i64 (wh)), (Value.int .i64 (r))] 69)) w.heap.size 26 #[(Value.int .i64 (S.xlo)), (Value.int .i64 (S.xhi)), (Value.int .i64 (S.ylo)), (Value.int .i64 (S.yhi)), .slice A S.cs.length ca, (Value.int .i64 (S.wrong))] := (Blk.new _ _ _).alloc _
  have c2 : Blk ((w.alloc (.cells #[(Value.int .i64 (S.xlo)), (Value.int .i64 (S.xhi)), (Value.int .i64 (S.ylo)), (Value.int .i64 (S.yhi)), .slice A S.cs.length ca, (Value.int .i64 (S.wrong))] 26)).alloc (.cells #[(Value.int .i64 (c.way)), (Value.int .i64 (c.tru)), (Value.int .i64 (c.read)), (Value.int .i64 (c.off)), (Value.int .i64 (p)), (Value.int .i64 (q)), (Value.int .i64 (wh)), (Value.int .i64 (r))] 69)) (w.heap.size + 1) 69 #[(Value.int .i64 (c.way)), (Value.int .i64 (c.tru)), (Value.int .i64 (c.read)), (Value.int .i64 (c.off)), (Value.int .i64 (p)), (Value.int .i64 (q)), (Value.int .i64 (wh)), (Value.int .i64 (r))] := Blk.new_at (by simp)
  (have la := c1.lt); (have ya0 := c1.cell 0); (have ya1 := c1.cell 1); (have ya2 := c1.cell 2); (have ya3 := c1.cell 3); (have ya4 := c1.cell 4); (have ya5 := c1.cell 5); simp only [List.getElem?_toArray, List.getElem?_cons_zero, List.getElem?_cons_succ] at ya0 ya1 ya2 ya3 ya4 ya5
  (have lb := c2.lt); (have yb0 := c2.cell 0); (have yb1 := c2.cell 1); (have yb2 := c2.cell 2); (have yb3 := c2.cell 3); (have yb4 := c2.cell 4); (have yb5 := c2.cell 5); (have yb6 := c2.cell 6); (have yb7 := c2.cell 7); simp only [List.getElem?_toArray, List.getElem?_cons_zero, List.getElem?_cons_succ] at yb0 yb1 yb2 yb3 yb4 yb5 yb6 yb7
  rw [h1] at hR
  rw [h2] at hP
  replace hR := Lib.hid hR
  replace hP := Lib.hid hP
  clear ha hb hla hlb c1 c2 h1 h2
  rcases hx with rfl | ⟨rfl, rfl⟩ | ⟨rfl, rfl, g1⟩ | ⟨rfl, rfl, g1, g2⟩ | ⟨rfl, rfl, g1, g2, g3⟩ | ⟨rfl, rfl, g1, g2, g3, g4⟩ | ⟨rfl, rfl, g1, g2, g3, g4, g5⟩ | ⟨rfl, rfl, g1, g2, g3, g4, g5, g6⟩
  all_goals
    go_enter Try.func7, Try.ntmps7
    go_wp2_with (first | ((go_at_call 18); (with_reducible refine Calls.mono (hR.out _ (by (repeat (first | with_reducible exact Below.refl _ _ | with_reducible apply bl_alloc | with_reducible apply bl_drew | with_reducible apply bl_after | (with_reducible refine bl_call ?_ (by assumption)))))) ?_); rintro e wn ⟨rfl, hbn⟩; first | ((with_reducible apply kp_in_step (hb := hbn)); (with_reducible assumption); rintro ⟨hk, hc, hf, hzc, hzf⟩) | ((with_reducible refine kp_in_first hbn ?_); rintro ⟨hk, hc, hf, hzc, hzf⟩)) | ((go_at_call 19); (with_reducible refine Calls.mono (hP.out _ (by (repeat (first | with_reducible exact Below.refl _ _ | with_reducible apply bl_alloc | with_reducible apply bl_drew | with_reducible apply bl_after | (with_reducible refine bl_call ?_ (by assumption)))))) ?_); rintro e wn ⟨rfl, hbn⟩; first | ((with_reducible apply kp_in_step (hb := hbn)); (with_reducible assumption); rintro ⟨hk, hc, hf, hzc, hzf⟩) | ((with_reducible refine kp_in_first hbn ?_); rintro ⟨hk, hc, hf, hzc, hzf⟩)) | ((go_at_call 13); (with_reducible refine Calls.mono (works4 _) ?_); rintro e w9 ⟨rfl, hb9⟩; first | ((with_reducible apply kp_in_step (hb := hb9)); (with_reducible assumption); rintro ⟨hk, hc, hf, hzc, hzf⟩) | ((with_reducible refine kp_in_first hb9 ?_); rintro ⟨hk, hc, hf, hzc, hzf⟩)))
    go_ret
    exact ⟨rfl, by (repeat (first | with_reducible exact Below.refl _ _ | with_reducible apply bl_alloc | with_reducible apply bl_drew | with_reducible apply bl_after | (with_reducible refine bl_call ?_ (by assumption))))⟩
set_option maxRecDepth 100000 in
set_option maxHeartbeats 8000000 in
theorem lawMore_ok (A B : Option Addr) (ca cb : Nat) (S : Sht) (l : List Pt) (c : Ctl) (p q wh r : Int) (w : World) (ha : Cts w A S.cs) (hla : S.cs.length ≤ 9223372036854775807) (hb : Pts w B l) (hlb : l.length ≤ 9223372036854775807)
    (h1 : rdyB S = true) (h2 : polB l = true) (hm : morB p q r) (hwh : -9223372036854775808 ≤ wh ∧ wh ≤ 9223372036854775807) :
    Calls Try.prog 7 #[(Value.agg #[(Value.int .i64 (S.xlo)), (Value.int .i64 (S.xhi)), (Value.int .i64 (S.ylo)), (Value.int .i64 (S.yhi)), .slice A S.cs.length ca, (Value.int .i64 (S.wrong))]), .slice B l.length cb, .agg #[(Value.int .i64 (c.way)), (Value.int .i64 (c.tru)), (Value.int .i64 (c.read)), (Value.int .i64 (c.off)), (Value.int .i64 (p)), (Value.int .i64 (q)), (Value.int .i64 (wh)), (Value.int .i64 (r))]] w fun e w' => e = .returned (.bool true) ∧ Below w.heap.size w w' := by
  have h0 : shtB S = true := by simp only [rdyB, Bool.and_eq_true] at h1; exact h1.2
  have hS := sht_ok h0
  have hok := polB_ok.1 h2
  have h8 := hS.len
  have hR := fun (W : World) (h : Below w.heap.size w W) => ready4 A ca S W (ha.below h) hla
  have hP := fun (W : World) (h : Below w.heap.size w W) => isPolygon4 B cb l W (hb.below h) hlb
  have hFw := fun (W : World) (h : Below w.heap.size w W) => Fewest_any4 A ca S W (ha.below h)
  have hMn := Lib.hid fun (W : World) (h : Below w.heap.size w W) => Many_any4 A ca S W (ha.below h)
  have hKn := Lib.hid fun (W : World) => isKnown4 (opS S true) (op_fw h0).1 W
  have hE : chkS S = 0 := if_pos h0
  have hF : fwV S = fwS S := if_pos h0
  rw [hE, hF] at hFw
  rw [h1] at hR
  rw [h2] at hP
  replace hR := Lib.hid hR
  replace hP := Lib.hid hP
  replace hFw := Lib.hid hFw
  have hCp := Lib.hid fun (W : World) (h : Below w.heap.size w W) => rCopy4 A ca S W (ha.below h) (by omega)
  have HH := Lib.hid (And.intro h0 (And.intro hS (And.intro hok (And.intro ha hb))))
  have hfb := fwTo_bd S (prs S).length
  have hfi : fwS S = fwTo S (prs S).length := rfl
  rw [← hfi] at hfb
  have hof := (op_fw h0)
  obtain ⟨g1, g2, g3, g4, g5, g6⟩ := hm
  generalize fwS S = fw at *
  generalize opS S true = os at *
  have nf1 : ¬ fw < 0 := by omega
  have nf2 : ¬ (S.cs.length : Int) < fw := by omega
  have HO := Lib.hid hof
  have c1 : Blk ((w.alloc (.cells #[(Value.int .i64 (S.xlo)), (Value.int .i64 (S.xhi)), (Value.int .i64 (S.ylo)), (Value.int .i64 (S.yhi)), .slice A S.cs.length ca, (Value.int .i64 (S.wrong))] 26)).alloc (.cells #[(Value.int .i64 (c.way)), (Value.int .i64 (c.tru)), (Value.int .i64 (c.read)), (Value.int .i64 (c.off)), (Value.int .i64 (p)), (Value.int .i64 (q)), (Value.int .i64 (wh)), (Value.int .i64 (r))] 69)) w.heap.size 26 #[(Value.int .i64 (S.xlo)), (Value.int .i64 (S.xhi)), (Value.int .i64 (S.ylo)), (Value.int .i64 (S.yhi)), .slice A S.cs.length ca, (Value.int .i64 (S.wrong))] := (Blk.new _ _ _).alloc _
  have c2 : Blk ((w.alloc (.cells #[(Value.int .i64 (S.xlo)), (Value.int .i64 (S.xhi)), (Value.int .i64 (S.ylo)), (Value.int .i64 (S.yhi)), .slice A S.cs.length ca, (Value.int .i64 (S.wrong))] 26)).alloc (.cells #[(Value.int .i64 (c.way)), (Value.int .i64 (c.tru)), (Value.int .i64 (c.read)), (Value.int .i64 (c.off)), (Value.int .i64 (p)), (Value.int .i64 (q)), (Value.int .i64 (wh)), (Value.int .i64 (r))] 69)) (w.heap.size + 1) 69 #[(Value.int .i64 (c.way)), (Value.int .i64 (c.tru)), (Value.int .i64 (c.read)), (Value.int .i64 (c.off)), (Value.int .i64 (p)), (Value.int .i64 (q)), (Value.int .i64 (wh)), (Value.int .i64 (r))] := Blk.new_at (by simp)
  have hb0 : Below w.heap.size w ((w.alloc (.cells #[(Value.int .i64 (S.xlo)), (Value.int .i64 (S.xhi)), (Value.int .i64 (S.ylo)), (Value.int .i64 (S.yhi)), .slice A S.cs.length ca, (Value.int .i64 (S.wrong))] 26)).alloc (.cells #[(Value.int .i64 (c.way)), (Value.int .i64 (c.tru)), (Value.int .i64 (c.read)), (Value.int .i64 (c.off)), (Value.int .i64 (p)), (Value.int .i64 (q)), (Value.int .i64 (wh)), (Value.int .i64 (r))] 69)) := by (repeat (first | with_reducible exact Below.refl _ _ | with_reducible apply bl_alloc | with_reducible apply bl_drew | with_reducible apply bl_after | (with_reducible refine bl_call ?_ (by assumption))))
  (have la := c1.lt); (have ya0 := c1.cell 0); (have ya1 := c1.cell 1); (have ya2 := c1.cell 2); (have ya3 := c1.cell 3); (have ya4 := c1.cell 4); (have ya5 := c1.cell 5); simp only [List.getElem?_toArray, List.getElem?_cons_zero, List.getElem?_cons_succ] at ya0 ya1 ya2 ya3 ya4 ya5
  (have lb := c2.lt); (have yb0 := c2.cell 0); (have yb1 := c2.cell 1); (have yb2 := c2.cell 2); (have yb3 := c2.cell 3); (have yb4 := c2.cell 4); (have yb5 := c2.cell 5); (have yb6 := c2.cell 6); (have yb7 := c2.cell 7); simp only [List.getElem?_toArray, List.getElem?_cons_zero, List.getElem?_cons_succ] at yb0 yb1 yb2 yb3 yb4 yb5 yb6 yb7
  clear h0 h1 h2 hla hlb hS hok hE hF hfi hfb hof ha hb
  go_enter Try.func7, Try.ntmps7
  go_upto_region 5 with (first | (first | ((go_at_call 18); (with_reducible refine Calls.mono (hR.out _ (by (repeat (first | with_reducible exact Below.refl _ _ | with_reducible apply bl_alloc | with_reducible apply bl_drew | with_reducible apply bl_after | (with_reducible refine bl_call ?_ (by assumption)))))) ?_); rintro e wn ⟨rfl, hbn⟩; first | ((with_reducible apply kp_in_step (hb := hbn)); (with_reducible assumption); rintro ⟨hk, hc, hf, hzc, hzf⟩) | ((with_reducible refine kp_in_first hbn ?_); rintro ⟨hk, hc, hf, hzc, hzf⟩)) | ((go_at_call 19); (with_reducible refine Calls.mono (hP.out _ (by (repeat (first | with_reducible exact Below.refl _ _ | with_reducible apply bl_alloc | with_reducible apply bl_drew | with_reducible apply bl_after | (with_reducible refine bl_call ?_ (by assumption)))))) ?_); rintro e wn ⟨rfl, hbn⟩; first | ((with_reducible apply kp_in_step (hb := hbn)); (with_reducible assumption); rintro ⟨hk, hc, hf, hzc, hzf⟩) | ((with_reducible refine kp_in_first hbn ?_); rintro ⟨hk, hc, hf, hzc, hzf⟩)) | ((go_at_call 13); (with_reducible refine Calls.mono (works4 _) ?_); rintro e w9 ⟨rfl, hb9⟩; first | ((with_reducible apply kp_in_step (hb := hb9)); (with_reducible assumption); rintro ⟨hk, hc, hf, hzc, hzf⟩) | ((with_reducible refine kp_in_first hb9 ?_); rintro ⟨hk, hc, hf, hzc, hzf⟩))) | ((go_at_call 30); (with_reducible refine Calls.mono (hFw.out _ (by (repeat (first | with_reducible exact Below.refl _ _ | with_reducible apply bl_alloc | with_reducible apply bl_drew | with_reducible apply bl_after | (with_reducible refine bl_call ?_ (by assumption)))))) ?_); rintro e2 w2 ⟨rfl, hb2⟩; first | ((with_reducible apply kp_in_step (hb := hb2)); (with_reducible assumption); rintro ⟨hk, hc, hf, hzc, hzf⟩) | ((with_reducible refine kp_in_first hb2 ?_); rintro ⟨hk, hc, hf, hzc, hzf⟩)) | ((go_at_call 22); (with_reducible refine Calls.mono (hMn.out _ (by (repeat (first | with_reducible exact Below.refl _ _ | with_reducible apply bl_alloc | with_reducible apply bl_drew | with_reducible apply bl_after | (with_reducible refine bl_call ?_ (by assumption)))))) ?_); rintro e3 w3 ⟨rfl, hb3⟩; first | ((with_reducible apply kp_in_step (hb := hb3)); (with_reducible assumption); rintro ⟨hk, hc, hf, hzc, hzf⟩) | ((with_reducible refine kp_in_first hb3 ?_); rintro ⟨hk, hc, hf, hzc, hzf⟩)))
  have hW3 : Below (((w.alloc (.cells #[(Value.int .i64 (S.xlo)), (Value.int .i64 (S.xhi)), (Value.int .i64 (S.ylo)), (Value.int .i64 (S.yhi)), .slice A S.cs.length ca, (Value.int .i64 (S.wrong))] 26)).alloc (.cells #[(Value.int .i64 (c.way)), (Value.int .i64 (c.tru)), (Value.int .i64 (c.read)), (Value.int .i64 (c.off)), (Value.int .i64 (p)), (Value.int .i64 (q)), (Value.int .i64 (wh)), (Value.int .i64 (r))] 69))).heap.size ((w.alloc (.cells #[(Value.int .i64 (S.xlo)), (Value.int .i64 (S.xhi)), (Value.int .i64 (S.ylo)), (Value.int .i64 (S.yhi)), .slice A S.cs.length ca, (Value.int .i64 (S.wrong))] 26)).alloc (.cells #[(Value.int .i64 (c.way)), (Value.int .i64 (c.tru)), (Value.int .i64 (c.read)), (Value.int .i64 (c.off)), (Value.int .i64 (p)), (Value.int .i64 (q)), (Value.int .i64 (wh)), (Value.int .i64 (r))] 69)) w3 := by (repeat (first | with_reducible exact Below.refl _ _ | with_reducible apply bl_alloc | with_reducible apply bl_drew | with_reducible apply bl_after | (with_reducible refine bl_call ?_ (by assumption))))
  have e1 := c1.below hW3
  have e2 := c2.below hW3
  have hbV := bl_call hb0 hW3
  have hsz : w.heap.size + 2 ≤ w3.heap.size := by have := hW3.size; simpa using this
  clear la ya0 ya1 ya2 ya3 ya4 ya5 lb yb0 yb1 yb2 yb3 yb4 yb5 yb6 yb7 c1 c2 hW3 hbn hb2 hb3 hR hP hFw hMn hb0
  ((try clear hk hc hf hzc hzf); (try clear hk hc hf hzc hzf); (try clear hk hc hf hzc hzf); (try clear hk hc hf hzc hzf))
  (have la := e1.lt); (have ya0 := e1.cell 0); (have ya1 := e1.cell 1); (have ya2 := e1.cell 2); (have ya3 := e1.cell 3); (have ya4 := e1.cell 4); (have ya5 := e1.cell 5); simp only [List.getElem?_toArray, List.getElem?_cons_zero, List.getElem?_cons_succ] at ya0 ya1 ya2 ya3 ya4 ya5
  (have lb := e2.lt); (have yb0 := e2.cell 0); (have yb1 := e2.cell 1); (have yb2 := e2.cell 2); (have yb3 := e2.cell 3); (have yb4 := e2.cell 4); (have yb5 := e2.cell 5); (have yb6 := e2.cell 6); (have yb7 := e2.cell 7); simp only [List.getElem?_toArray, List.getElem?_cons_zero, List.getElem?_cons_succ] at yb0 yb1 yb2 yb3 yb4 yb5 yb6 yb7
  go_cut [89] (fun s89 wx => s89 = .bool false ∧ w3 = wx)
  case first =>
    rcases HO.out.1 with rfl | rfl
    · have q1 : fw ≤ S.wrong := HO.out.2.1 rfl
      clear hCp
      go_wp2_with (go_at_call 40; with_reducible refine Calls.mono (hKn.out _) ?_; rintro e w' ⟨rfl, rfl⟩)
      go_meet
      exact ⟨by simp [nf1, nf2, q1], rfl⟩
    · have q1 : ¬ fw ≤ S.wrong := fun h => by have := HO.out.2.2 h; omega
      clear hCp
      go_wp2_with (go_at_call 40; with_reducible refine Calls.mono (hKn.out _) ?_; rintro e w' ⟨rfl, rfl⟩)
      go_meet
      exact ⟨by simp [nf1, nf2, q1], rfl⟩
  case rest =>
    obtain ⟨rfl, hcut⟩ := hcut
    subst hcut
    clear HO hKn
    go_upto_region 7 with fail
    refine wp_region_CN (fun w' => ∃ z : After w3, w' = z.val) (by kernel_rfl) ?_
    change wpAnyC _ _ _ _ _ _ _ (World.drew w3)
    refine wpAnyC_take (i := 0) (v := ?v0u) rfl (by kernel_rfl) (by kernel_rfl) (by kernel_rfl) ?q0u rfl ?y0u ?r0u; (case q0u => exact fun _ _ _ h => h); (case y0u => ((rintro _ ⟨z, rfl⟩); (go_simp); (try with_reducible rfl))); simp only [Act.put, List.getElem_toArray, List.getElem_cons_succ, List.getElem_cons_zero, List.setIfInBounds_toArray, List.set_cons_succ, List.set_cons_zero]
    refine wpAnyC_take (i := 2) (v := ?v2u) rfl (by kernel_rfl) (by kernel_rfl) (by kernel_rfl) ?q2u rfl ?y2u ?r2u; (case q2u => exact fun _ _ _ h => h); (case y2u => ((rintro _ ⟨z, rfl⟩); (go_simp); (try with_reducible rfl))); simp only [Act.put, List.getElem_toArray, List.getElem_cons_succ, List.getElem_cons_zero, List.setIfInBounds_toArray, List.set_cons_succ, List.set_cons_zero]
    refine wpAnyC_take (i := 4) (v := ?v4u) rfl (by kernel_rfl) (by kernel_rfl) (by kernel_rfl) ?q4u rfl ?y4u ?r4u; (case q4u => exact fun _ _ _ h => h); (case y4u => ((rintro _ ⟨z, rfl⟩); (go_simp); (try with_reducible rfl))); simp only [Act.put, List.getElem_toArray, List.getElem_cons_succ, List.getElem_cons_zero, List.setIfInBounds_toArray, List.set_cons_succ, List.set_cons_zero]
    refine wpAnyC_six (f0 := 3) (Mo7E S w3) 91 93 95 11 12 13 (by kernel_rfl) ?hC (fun v1 v3 v5 v6 v7 v8 => mo7_zero) ?s1 ?s3 ?s5 ?s6 ?s7 ?s8 ?hf
    case hC =>
      rintro b1 b3 b5 b6 b7 b8 v1 v3 v5 v6 v7 v8 w7 ⟨r1, r3, r5, g6, g7, g8, hJ⟩
      exact ⟨⟨_, hJ.low⟩, rfl⟩
    case s1 =>
      intro b6 b7 b8 v1 v3 v5 v6 v7 v8 w7 hJ
      (refine wpOp_of rfl rfl (fun K hK => ?_)); simp only [sixA, Act.put, List.setIfInBounds_toArray, List.set_cons_succ, List.set_cons_zero]; go_simp; (go_at_call 15); (have hV7 : Below w.heap.size w w7 := (let ⟨_, _, _, _, _, _, h⟩ := hJ; bl_call hbV h.low)); (with_reducible refine Calls.mono (hCp.out _ hV7) ?_); rintro e8 w8 ⟨⟨A8, ca8, rfl, hC8⟩, hb8⟩; (refine hK _ _ ⟨_, ?_, mo7_row1 hJ hC8 hb8⟩); rfl
    case s3 =>
      intro b6 b7 b8 v1 v3 v5 v6 v7 v8 w7 hJ
      (refine wpOp_of rfl rfl (fun K hK => ?_)); simp only [sixA, Act.put, List.setIfInBounds_toArray, List.set_cons_succ, List.set_cons_zero]; go_simp; (go_at_call 15); (have hV7 : Below w.heap.size w w7 := (let ⟨_, _, _, _, _, _, h⟩ := hJ; bl_call hbV h.low)); (with_reducible refine Calls.mono (hCp.out _ hV7) ?_); rintro e8 w8 ⟨⟨A8, ca8, rfl, hC8⟩, hb8⟩; (refine hK _ _ ⟨_, ?_, mo7_row3 hJ hC8 hb8⟩); rfl
    case s5 =>
      intro b6 b7 b8 v1 v3 v5 v6 v7 v8 w7 hJ
      (refine wpOp_of rfl rfl (fun K hK => ?_)); simp only [sixA, Act.put, List.setIfInBounds_toArray, List.set_cons_succ, List.set_cons_zero]; go_simp; (go_at_call 15); (have hV7 : Below w.heap.size w w7 := (let ⟨_, _, _, _, _, _, h⟩ := hJ; bl_call hbV h.low)); (with_reducible refine Calls.mono (hCp.out _ hV7) ?_); rintro e8 w8 ⟨⟨A8, ca8, rfl, hC8⟩, hb8⟩; (refine hK _ _ ⟨_, ?_, mo7_row5 hJ hC8 hb8⟩); rfl
    case s6 =>
      intro b1 b3 b5 b7 b8 v1 v3 v5 v6 v7 v8 w7 hJ
      (refine wpOp_of rfl rfl (fun K hK => ?_)); simp only [sixA, Act.put, List.setIfInBounds_toArray, List.set_cons_succ, List.set_cons_zero]; go_simp; (refine hK _ _ ⟨_, ?_, mo7_box6 hJ⟩); rfl
    case s7 =>
      intro b1 b3 b5 b6 b8 v1 v3 v5 v6 v7 v8 w7 hJ
      (refine wpOp_of rfl rfl (fun K hK => ?_)); simp only [sixA, Act.put, List.setIfInBounds_toArray, List.set_cons_succ, List.set_cons_zero]; go_simp; (refine hK _ _ ⟨_, ?_, mo7_box7 hJ⟩); rfl
    case s8 =>
      intro b1 b3 b5 b6 b7 v1 v3 v5 v6 v7 v8 w7 hJ
      (refine wpOp_of rfl rfl (fun K hK => ?_)); simp only [sixA, Act.put, List.setIfInBounds_toArray, List.set_cons_succ, List.set_cons_zero]; go_simp; (refine hK _ _ ⟨_, ?_, mo7_box8 hJ⟩); rfl
    case hf =>
      rintro v1 v3 v5 v6 v7 v8 w7 ⟨r1, r3, r5, g6, g7, g8, hJ⟩
      have hx1 := hJ.x1 rfl
      have hx3 := hJ.x3 rfl
      have hx5 := hJ.x5 rfl
      have hx6 := hJ.x6 rfl
      have hx7 := hJ.x7 rfl
      have hx8 := hJ.x8 rfl
      obtain ⟨rfl, hr1⟩ := hx1
      obtain ⟨rfl, hr3⟩ := hx3
      obtain ⟨rfl, hr5⟩ := hx5
      obtain ⟨rfl, hg6, hB6⟩ := hx6
      obtain ⟨rfl, hg7, hB7⟩ := hx7
      obtain ⟨rfl, hg8, hB8⟩ := hx8
      obtain ⟨A1, ca1, rfl, -⟩ := hr1.parts4
      obtain ⟨A3, ca3, rfl, -⟩ := hr3.parts4
      obtain ⟨A5, ca5, rfl, -⟩ := hr5.parts4
      have n67 := hJ.z1 rfl rfl
      have n68 := hJ.z2 rfl rfl
      have n78 := hJ.z3 rfl rfl
      have dd := Lib.hid (And.intro (hJ.y1 rfl rfl) (And.intro (hJ.y2 rfl rfl) (hJ.y3 rfl rfl)))
      have hd0 := hJ.low
      clear hJ la ya0 ya1 ya2 ya3 ya4 ya5 lb yb0 yb1 yb2 yb3 yb4 yb5 yb6 yb7
      simp only [sixA, Act.put, List.setIfInBounds_toArray, List.set_cons_succ, List.set_cons_zero]
      have HB := Lib.hid (And.intro hB6 (And.intro hB7 (And.intro hB8 (And.intro hr1 (And.intro hr3 hr5)))))
      clear hB6 hB7 hB8 hr1 hr3 hr5
      refine wpAnyC_one (i := 9) (by kernel_rfl) rfl ⟨⟨_, hd0⟩, rfl⟩ rfl (fun K hK => ?_)
      refine wp_store_row 26 _ _ rfl g6 #[(Value.int .i64 (S.xlo)), (Value.int .i64 (S.xhi)), (Value.int .i64 (S.ylo)), (Value.int .i64 (S.yhi)), .slice A1 S.cs.length ca1, (Value.int .i64 (S.wrong))] rfl rfl 26 _ HB.out.1 (by kernel_rfl) rfl (by simp [Value.oneCell']) (hK _ _ ?_)
      clear hK K
      replace HB := mo7_st6 (S := S) (A := A1) (ca := ca1) HB n67 n68
      replace hd0 := bl_setRow (cs := #[(Value.int .i64 (S.xlo)), (Value.int .i64 (S.xhi)), (Value.int .i64 (S.ylo)), (Value.int .i64 (S.yhi)), .slice A1 S.cs.length ca1, (Value.int .i64 (S.wrong))]) hd0 hg6
      generalize w7.setRow g6 #[(Value.int .i64 (S.xlo)), (Value.int .i64 (S.xhi)), (Value.int .i64 (S.ylo)), (Value.int .i64 (S.yhi)), .slice A1 S.cs.length ca1, (Value.int .i64 (S.wrong))] = w8 at *
      refine wpAnyC_one (i := 10) (by kernel_rfl) rfl ⟨⟨_, hd0⟩, rfl⟩ rfl (fun K hK => ?_)
      refine wp_store_row 26 _ _ rfl g7 #[(Value.int .i64 (S.xlo)), (Value.int .i64 (S.xhi)), (Value.int .i64 (S.ylo)), (Value.int .i64 (S.yhi)), .slice A3 S.cs.length ca3, (Value.int .i64 (S.wrong))] rfl rfl 26 _ HB.out.2.1 (by kernel_rfl) rfl (by simp [Value.oneCell']) (hK _ _ ?_)
      clear hK K
      replace HB := mo7_st7 (S := S) (A := A3) (ca := ca3) HB n67 n78
      replace hd0 := bl_setRow (cs := #[(Value.int .i64 (S.xlo)), (Value.int .i64 (S.xhi)), (Value.int .i64 (S.ylo)), (Value.int .i64 (S.yhi)), .slice A3 S.cs.length ca3, (Value.int .i64 (S.wrong))]) hd0 hg7
      generalize w8.setRow g7 #[(Value.int .i64 (S.xlo)), (Value.int .i64 (S.xhi)), (Value.int .i64 (S.ylo)), (Value.int .i64 (S.yhi)), .slice A3 S.cs.length ca3, (Value.int .i64 (S.wrong))] = w10 at *
      refine wpAnyC_one (i := 11) (by kernel_rfl) rfl ⟨⟨_, hd0⟩, rfl⟩ rfl (fun K hK => ?_)
      refine wp_store_row 26 _ _ rfl g8 #[(Value.int .i64 (S.xlo)), (Value.int .i64 (S.xhi)), (Value.int .i64 (S.ylo)), (Value.int .i64 (S.yhi)), .slice A5 S.cs.length ca5, (Value.int .i64 (S.wrong))] rfl rfl 26 _ HB.out.2.2.1 (by kernel_rfl) rfl (by simp [Value.oneCell']) (hK _ _ ?_)
      clear hK K
      replace HB := mo7_st8 (S := S) (A := A5) (ca := ca5) HB n68 n78
      replace hd0 := bl_setRow (cs := #[(Value.int .i64 (S.xlo)), (Value.int .i64 (S.xhi)), (Value.int .i64 (S.ylo)), (Value.int .i64 (S.yhi)), .slice A5 S.cs.length ca5, (Value.int .i64 (S.wrong))]) hd0 hg8
      generalize w10.setRow g8 #[(Value.int .i64 (S.xlo)), (Value.int .i64 (S.xhi)), (Value.int .i64 (S.ylo)), (Value.int .i64 (S.yhi)), .slice A5 S.cs.length ca5, (Value.int .i64 (S.wrong))] = X at *
      refine wpAnyC_doneN (by kernel_rfl) ⟨⟨_, hd0⟩, rfl⟩ ?_ _
      obtain ⟨B6, B7, B8, hr1, hr3, hr5⟩ := HB.out
      clear HB hCp
      (have la := B6.lt); (have ya0 := B6.cell 0); (have ya1 := B6.cell 1); (have ya2 := B6.cell 2); (have ya3 := B6.cell 3); (have ya4 := B6.cell 4); (have ya5 := B6.cell 5); simp only [List.getElem?_toArray, List.getElem?_cons_zero, List.getElem?_cons_succ] at ya0 ya1 ya2 ya3 ya4 ya5
      have f2 := e2.below hd0
      (have lb := f2.lt); (have yb0 := f2.cell 0); (have yb1 := f2.cell 1); (have yb2 := f2.cell 2); (have yb3 := f2.cell 3); (have yb4 := f2.cell 4); (have yb5 := f2.cell 5); (have yb6 := f2.cell 6); (have yb7 := f2.cell 7); simp only [List.getElem?_toArray, List.getElem?_cons_zero, List.getElem?_cons_succ] at yb0 yb1 yb2 yb3 yb4 yb5 yb6 yb7
      obtain ⟨i0, hi, hz0, hz1, hz2⟩ := info_parts infoCtl
      have hw3X := hd0.size
      have HZ := Lib.hid (And.intro B6 (And.intro B7 (And.intro B8 (And.intro hr3 hr5))))
      clear B6 B7 B8 hr3 hr5 f2
      go_upto_region 9 with (at_builtin; refine wpList_append_lies _ rfl (.tmp 97) (.tmp 100) 24 rfl w3.heap.size 67 i0 _ 4 32 undCtls hi hz0 hz1 hz2 rfl (by decide) _ S.cs.length (recV ctlE S.cs) rfl (hr1.alloc _) ⟨X.heap.size, 0, none⟩ 1 1 (recV ctlE [c]) rfl rfl (World.news_of_block (cs := (recV ctlE [c]).toArray) (t := 67) (fr := (0, 0)) (heap_alloc_new X _)) (recV_one _) (by omega) (by unfold maxLen; omega) (by omega) (by simp; omega) (X.heap.size + 1) (by simp) ?_; intro gq ca1' w11 hown hgrow hat hlt9; ((have hd1 : Below w3.heap.size w3 w11 := (Below.alloc hd0 hw3X _).grown hgrow (by simp; omega) (fun g hg => (World.ownsRow.lt hr1 g hg).1)); (obtain ⟨B6, B7, B8, hr3, hr5⟩ := HZ.out); (have hq5 := Dis4.next (n := S.cs.length + 1) (c := ca1') dd.out.2.1 hat (fun k hk => by have := (World.ownsRow.lt hr5 k hk).2; omega)); (obtain ⟨A1', hA1⟩ : ∃ A' : Option Addr, A' = some ⟨gq, 0, none⟩ := ⟨_, rfl⟩); (rw [← hA1] at hown hq5 ⊢); (have D6 := blk_grow7 (B6.alloc (.cells #[(Value.int .i64 (c.way)), (Value.int .i64 (c.tru)), (Value.int .i64 (c.read)), (Value.int .i64 (c.off))] 67)) hgrow (row_type hr1 B6 (by decide))); (have D7 := blk_grow7 (B7.alloc (.cells #[(Value.int .i64 (c.way)), (Value.int .i64 (c.tru)), (Value.int .i64 (c.read)), (Value.int .i64 (c.off))] 67)) hgrow (row_type hr1 B7 (by decide))); (have D8 := blk_grow7 (B8.alloc (.cells #[(Value.int .i64 (c.way)), (Value.int .i64 (c.tru)), (Value.int .i64 (c.read)), (Value.int .i64 (c.off))] 67)) hgrow (row_type hr1 B8 (by decide))); (have s3 := World.ownsRow.kept (World.ownsRow.alloc hr3 (.cells #[(Value.int .i64 (c.way)), (Value.int .i64 (c.tru)), (Value.int .i64 (c.read)), (Value.int .i64 (c.off))] 67)) hgrow (dd.out.1.hne)); (have s5 := World.ownsRow.kept (World.ownsRow.alloc hr5 (.cells #[(Value.int .i64 (c.way)), (Value.int .i64 (c.tru)), (Value.int .i64 (c.read)), (Value.int .i64 (c.off))] 67)) hgrow (dd.out.2.1.hne)); (have s1 := RowR.join hown); clear hgrow hat hlt9 hA1 hown B6 B7 B8 hr1 hr3 hr5 la ya0 ya1 ya2 ya3 ya4 ya5 lb yb0 yb1 yb2 yb3 yb4 yb5 yb6 yb7 HZ hd0 hw3X; (have la := D6.lt); (have ya0 := D6.cell 0); (have ya1 := D6.cell 1); (have ya2 := D6.cell 2); (have ya3 := D6.cell 3); (have ya4 := D6.cell 4); (have ya5 := D6.cell 5); simp only [List.getElem?_toArray, List.getElem?_cons_zero, List.getElem?_cons_succ] at ya0 ya1 ya2 ya3 ya4 ya5; (have fr4 := D6.frozen 4); (have HY := Lib.hid (And.intro D6 (And.intro D7 (And.intro D8 (And.intro s1 (And.intro s3 s5)))))); clear D6 D7 D8 s1 s3 s5))
      change Code.wp _ _ _ _ (w11.setCell ⟨g6, 4, none⟩ (.slice A1' (S.cs.length + 1) ca1'))
      obtain ⟨D6, D7, D8, s1, s3, s5⟩ := HY.out
      have d6 : Blk (w11.setCell ⟨g6, 4, none⟩ (.slice A1' (S.cs.length + 1) ca1')) g6 26 #[(Value.int .i64 (S.xlo)), (Value.int .i64 (S.xhi)), (Value.int .i64 (S.ylo)), (Value.int .i64 (S.yhi)), .slice A1' (S.cs.length + 1) ca1', (Value.int .i64 (S.wrong))] := by
        have h := D6.set_ 4 (.slice A1' (S.cs.length + 1) ca1')
        simpa using h
      have d7 := D7.far (p := ⟨g6, 4, none⟩) (Ne.symm n67) (.slice A1' (S.cs.length + 1) ca1')
      have d8 := D8.far (p := ⟨g6, 4, none⟩) (Ne.symm n68) (.slice A1' (S.cs.length + 1) ca1')
      have t1 := row_set7 s1 (i := 4) (row_type s1 D6 (by decide)) (.slice A1' (S.cs.length + 1) ca1')
      have t3 := row_set7 s3 (i := 4) (row_type s3 D6 (by decide)) (.slice A1' (S.cs.length + 1) ca1')
      have t5 := row_set7 s5 (i := 4) (row_type s5 D6 (by decide)) (.slice A1' (S.cs.length + 1) ca1')
      have hdY := bl_setc (o := 4) (v := .slice A1' (S.cs.length + 1) ca1') hd1 hg6
      clear HY D6 D7 D8 s1 s3 s5 hd1 la ya0 ya1 ya2 ya3 ya4 ya5 fr4
      generalize w11.setCell ⟨g6, 4, none⟩ (.slice A1' (S.cs.length + 1) ca1') = Y at *
      have f1 := e1.below hdY
      have f2 := e2.below hdY
      (have la := f1.lt); (have ya0 := f1.cell 0); (have ya1 := f1.cell 1); (have ya2 := f1.cell 2); (have ya3 := f1.cell 3); (have ya4 := f1.cell 4); (have ya5 := f1.cell 5); simp only [List.getElem?_toArray, List.getElem?_cons_zero, List.getElem?_cons_succ] at ya0 ya1 ya2 ya3 ya4 ya5
      (have lb := f2.lt); (have yb0 := f2.cell 0); (have yb1 := f2.cell 1); (have yb2 := f2.cell 2); (have yb3 := f2.cell 3); (have yb4 := f2.cell 4); (have yb5 := f2.cell 5); (have yb6 := f2.cell 6); (have yb7 := f2.cell 7); simp only [List.getElem?_toArray, List.getElem?_cons_zero, List.getElem?_cons_succ] at yb0 yb1 yb2 yb3 yb4 yb5 yb6 yb7
      (have lg := d7.lt); (have yg0 := d7.cell 0); (have yg1 := d7.cell 1); (have yg2 := d7.cell 2); (have yg3 := d7.cell 3); (have yg4 := d7.cell 4); (have yg5 := d7.cell 5); simp only [List.getElem?_toArray, List.getElem?_cons_zero, List.getElem?_cons_succ] at yg0 yg1 yg2 yg3 yg4 yg5
      have fr0 := d7.frozen 0
      have fr1 := d7.frozen 1
      obtain ⟨h0, hS, hok, ha, hb⟩ := HH.out
      have hx0 := hS.x0
      have hx1 := hS.x1
      have hx2 := hS.x2
      have zA : IntKind.i64.wrap (S.xlo + p) = S.xlo + p := IntWalk.i64_in _ (by omega)
      have zB : IntKind.i64.wrap (S.xhi - q) = S.xhi - q := IntWalk.i64_in _ (by omega)
      have HY := Lib.hid (And.intro d6 (And.intro d7 (And.intro d8 (And.intro t1 (And.intro t3 (And.intro t5 hdY))))))
      clear d6 d7 d8 t1 t3 t5 hdY f1 f2 h0 hS hok ha hb hx0 hx1 hx2
      go_upto_region 10 with fail
      change Code.wp _ _ _ _ ((Y.setCell ⟨g7, 0, none⟩ (Value.int .i64 (S.xlo + p))).setCell ⟨g7, 1, none⟩ (Value.int .i64 (S.xhi - q)))
      obtain ⟨d6, d7, d8, t1, t3, t5, hdY⟩ := HY.out
      have k6 := (d6.far (p := ⟨g7, 0, none⟩) n67 (Value.int .i64 (S.xlo + p))).far (p := ⟨g7, 1, none⟩) n67 (Value.int .i64 (S.xhi - q))
      have k7 : Blk ((Y.setCell ⟨g7, 0, none⟩ (Value.int .i64 (S.xlo + p))).setCell ⟨g7, 1, none⟩ (Value.int .i64 (S.xhi - q))) g7 26 #[(Value.int .i64 (S.xlo + p)), (Value.int .i64 (S.xhi - q)), (Value.int .i64 (S.ylo)), (Value.int .i64 (S.yhi)), .slice A3 S.cs.length ca3, (Value.int .i64 (S.wrong))] := by
        have h := (d7.set_ 0 (Value.int .i64 (S.xlo + p))).set_ 1 (Value.int .i64 (S.xhi - q))
        simpa using h
      have k8 := (d8.far (p := ⟨g7, 0, none⟩) (Ne.symm n78) (Value.int .i64 (S.xlo + p))).far (p := ⟨g7, 1, none⟩) (Ne.symm n78) (Value.int .i64 (S.xhi - q))
      have m1 := row_type t1 d7 (by decide)
      have m3 := row_type t3 d7 (by decide)
      have m5 := row_type t5 d7 (by decide)
      have j1 := row_set7 (row_set7 t1 (i := 0) m1 (Value.int .i64 (S.xlo + p))) (i := 1) m1 (Value.int .i64 (S.xhi - q))
      have j3 := row_set7 (row_set7 t3 (i := 0) m3 (Value.int .i64 (S.xlo + p))) (i := 1) m3 (Value.int .i64 (S.xhi - q))
      have j5 := row_set7 (row_set7 t5 (i := 0) m5 (Value.int .i64 (S.xlo + p))) (i := 1) m5 (Value.int .i64 (S.xhi - q))
      have hdZ := bl_setc (o := 1) (v := (Value.int .i64 (S.xhi - q))) (bl_setc (o := 0) (v := (Value.int .i64 (S.xlo + p))) hdY hg7) hg7
      clear HY d6 d7 d8 t1 t3 t5 hdY m1 m3 m5 la ya0 ya1 ya2 ya3 ya4 ya5 lb yb0 yb1 yb2 yb3 yb4 yb5 yb6 yb7 lg yg0 yg1 yg2 yg3 yg4 yg5 fr0 fr1 zA zB
      generalize (Y.setCell ⟨g7, 0, none⟩ (Value.int .i64 (S.xlo + p))).setCell ⟨g7, 1, none⟩ (Value.int .i64 (S.xhi - q)) = Z at *
      have f1 := e1.below hdZ
      have f2 := e2.below hdZ
      (have la := f1.lt); (have ya0 := f1.cell 0); (have ya1 := f1.cell 1); (have ya2 := f1.cell 2); (have ya3 := f1.cell 3); (have ya4 := f1.cell 4); (have ya5 := f1.cell 5); simp only [List.getElem?_toArray, List.getElem?_cons_zero, List.getElem?_cons_succ] at ya0 ya1 ya2 ya3 ya4 ya5
      (have lb := f2.lt); (have yb0 := f2.cell 0); (have yb1 := f2.cell 1); (have yb2 := f2.cell 2); (have yb3 := f2.cell 3); (have yb4 := f2.cell 4); (have yb5 := f2.cell 5); (have yb6 := f2.cell 6); (have yb7 := f2.cell 7); simp only [List.getElem?_toArray, List.getElem?_cons_zero, List.getElem?_cons_succ] at yb0 yb1 yb2 yb3 yb4 yb5 yb6 yb7
      (have ld := k6.lt); (have yd0 := k6.cell 0); (have yd1 := k6.cell 1); (have yd2 := k6.cell 2); (have yd3 := k6.cell 3); (have yd4 := k6.cell 4); (have yd5 := k6.cell 5); simp only [List.getElem?_toArray, List.getElem?_cons_zero, List.getElem?_cons_succ] at yd0 yd1 yd2 yd3 yd4 yd5
      (have le := k7.lt); (have ye0 := k7.cell 0); (have ye1 := k7.cell 1); (have ye2 := k7.cell 2); (have ye3 := k7.cell 3); (have ye4 := k7.cell 4); (have ye5 := k7.cell 5); simp only [List.getElem?_toArray, List.getElem?_cons_zero, List.getElem?_cons_succ] at ye0 ye1 ye2 ye3 ye4 ye5
      (have lg := k8.lt); (have yg0 := k8.cell 0); (have yg1 := k8.cell 1); (have yg2 := k8.cell 2); (have yg3 := k8.cell 3); (have yg4 := k8.cell 4); (have yg5 := k8.cell 5); simp only [List.getElem?_toArray, List.getElem?_cons_zero, List.getElem?_cons_succ] at yg0 yg1 yg2 yg3 yg4 yg5
      obtain ⟨h0, hS, hok, ha, hb⟩ := HH.out
      have hbZ := bl_call hbV hdZ
      have hZA := ha.below hbZ
      have hZB := hb.below hbZ
      have hT1 : Cts Z A1' (S.cs ++ [c]) := row_cts8 j1
      have hT3 : Cts Z A3 S.cs := row_cts8 j3
      have hT5 : Cts Z A5 S.cs := row_cts8 j5
      have hl10 := hok.1
      have hlA : (moA S c).cs.length = S.cs.length + 1 := by simp [moA]
      have hI1 : ∀ V : World, Cts V A1' (moA S c).cs → Cts V A S.cs → Pts V B l → Calls Try.prog 41 #[.agg #[(Value.int .i64 (S.xlo)), (Value.int .i64 (S.xhi)), (Value.int .i64 (S.ylo)), (Value.int .i64 (S.yhi)), .slice A1' (S.cs.length + 1) ca1', (Value.int .i64 (S.wrong))], (Value.agg #[(Value.int .i64 (S.xlo)), (Value.int .i64 (S.xhi)), (Value.int .i64 (S.ylo)), (Value.int .i64 (S.yhi)), .slice A S.cs.length ca, (Value.int .i64 (S.wrong))]), .slice B l.length cb] V fun e w' => e = .returned (.bool true) ∧ Below V.heap.size V w' := fun V g h7 h9 => by
        have h5 := inside4 A1' A B ca1' ca cb (moA S c) S l V g (by omega) h7 h9 (by omega) h0 hok (moA_sub S c)
        rw [hlA] at h5
        exact h5
      have hI2 : ∀ V : World, Cts V A3 S.cs → Cts V A S.cs → Pts V B l → Calls Try.prog 41 #[.agg #[(Value.int .i64 (S.xlo + p)), (Value.int .i64 (S.xhi - q)), (Value.int .i64 (S.ylo)), (Value.int .i64 (S.yhi)), .slice A3 S.cs.length ca3, (Value.int .i64 (S.wrong))], (Value.agg #[(Value.int .i64 (S.xlo)), (Value.int .i64 (S.xhi)), (Value.int .i64 (S.ylo)), (Value.int .i64 (S.yhi)), .slice A S.cs.length ca, (Value.int .i64 (S.wrong))]), .slice B l.length cb] V fun e w' => e = .returned (.bool true) ∧ Below V.heap.size V w' := fun V g h7 h9 =>
        inside4 A3 A B ca3 ca cb (moB S p q) S l V g (by show S.cs.length ≤ _; omega) h7 h9 (by omega) h0 hok (moB_sub S (by omega) (by omega))
      have GI1 := Lib.hid hI1
      have GI2 := Lib.hid hI2
      clear hI1 hI2 hlA hbV e1 e2
      by_cases hin : 0 ≤ wh ∧ wh < (S.cs.length : Int)
      · obtain ⟨k, rfl⟩ : ∃ k : Nat, wh = (k : Int) := ⟨wh.toNat, by omega⟩
        have hkn : k < S.cs.length := by omega
        have i1 : (k : Int) < (S.cs.length : Int) := by omega
        obtain ⟨b5, o5, rfl, p5⟩ := hT5.at_ hkn
        obtain ⟨q5, w5, e5⟩ := World.ownsRow.form j5 (by omega)
        obtain ⟨rfl, rfl⟩ : b5 = q5 ∧ o5 = 0 := by
          have e6 := e5.1
          simp only [Value.slice.injEq, Option.some.injEq, Addr.mk.injEq, and_true] at e6
          exact e6.1
        obtain ⟨l5, z0, z1, z2, z3⟩ := ctl_cells p5 hkn
        have fz := World.ownsRow.frozenAt j5 (k * 4 + 3)
        have hA5 : w3.heap.size ≤ b5 := (World.ownsRow.lt j5 b5 rfl).1
        have hal := hS.all _ (cat_mem hkn)
        have zO : IntKind.i64.wrap ((cat S.cs k).off - r) = (cat S.cs k).off - r := IntWalk.i64_in _ (by omega)
        have hI3 : ∀ V : World, Cts V (some ⟨b5, 0, none⟩) (moC S k r).cs → Cts V A S.cs → Pts V B l → Calls Try.prog 41 #[(Value.agg #[(Value.int .i64 (S.xlo)), (Value.int .i64 (S.xhi)), (Value.int .i64 (S.ylo)), (Value.int .i64 (S.yhi)), .slice (some ⟨b5, 0, none⟩) S.cs.length ca5, (Value.int .i64 (S.wrong))]), (Value.agg #[(Value.int .i64 (S.xlo)), (Value.int .i64 (S.xhi)), (Value.int .i64 (S.ylo)), (Value.int .i64 (S.yhi)), .slice A S.cs.length ca, (Value.int .i64 (S.wrong))]), .slice B l.length cb] V fun e w' => e = .returned (.bool true) ∧ Below V.heap.size V w' := fun V hc h7 h9 => by
          have h5 := inside4 (some ⟨b5, 0, none⟩) A B ca5 ca cb (moC S k r) S l V hc (by simp [moC]; omega) h7 h9 (by omega) h0 hok (moC_sub S k (by omega))
          have hl5 : (moC S k r).cs.length = S.cs.length := by simp [moC]
          rw [hl5] at h5
          exact h5
        have GI3 := Lib.hid hI3
        have HJ := Lib.hid (And.intro f1 (And.intro k6 (And.intro k7 (And.intro k8 (And.intro j1 (And.intro j3 (And.intro j5 hdZ)))))))
        have d35 := dd.out.2.2
        have q51 := Lib.hid hq5
        rw [Nat.zero_add] at z3
        have hbz0 : Below w.heap.size w Z := hbZ
        clear e5 p5 hT5 hT1 hT3 h0 hS hok ha hb hal hin z0 z1 z2 hZA hZB hbZ f1 k6 k7 k8 j1 j3 j5 hdZ hI3 hq5
        go_upto_region 11 with fail
        refine wp_region_after_tail 10 (by kernel_rfl) (by kernel_rfl) ?_; simp only [List.take_succ_cons, List.take_zero, List.drop_succ_cons, List.drop_zero]; (repeat (go_big_quiet_step ((fail)))); refine wpQuiet_nil ?_; rintro _ ⟨z, rfl⟩; (first | ((with_reducible apply kp_in_after (z := z)); (with_reducible assumption); rintro ⟨hk, hc, hf, hzc, hzf⟩) | ((with_reducible refine kp_in_after0 z ?_); rintro ⟨hk, hc, hf, hzc, hzf⟩))
        go_upto_region 12 with fail
        have hz := z.ok
        change Code.wp _ _ _ _ (z.val.setCell ⟨b5, k * 4 + 3, none⟩ (Value.int .i64 ((cat S.cs k).off - r)))
        obtain ⟨f1, k6, k7, k8, j1, j3, j5, hdZ⟩ := HJ.out
        have ne1 : w.heap.size ≠ b5 := by omega
        have ne6 : g6 ≠ b5 := fun e => row_type j5 k6 (by decide) (by rw [e]; rfl)
        have ne7 : g7 ≠ b5 := fun e => row_type j5 k7 (by decide) (by rw [e]; rfl)
        have ne8 : g8 ≠ b5 := fun e => row_type j5 k8 (by decide) (by rw [e]; rfl)
        have F1 := (f1.below hz).far (p := ⟨b5, k * 4 + 3, none⟩) ne1 (Value.int .i64 ((cat S.cs k).off - r))
        have K6 := (k6.below hz).far (p := ⟨b5, k * 4 + 3, none⟩) ne6 (Value.int .i64 ((cat S.cs k).off - r))
        have K7 := (k7.below hz).far (p := ⟨b5, k * 4 + 3, none⟩) ne7 (Value.int .i64 ((cat S.cs k).off - r))
        have K8 := (k8.below hz).far (p := ⟨b5, k * 4 + 3, none⟩) ne8 (Value.int .i64 ((cat S.cs k).off - r))
        have J1 := row_set7 (own_below j1 hz) (i := k * 4 + 3) (fun e => q51.out b5 e rfl) (Value.int .i64 ((cat S.cs k).off - r))
        have J3 := row_set7 (own_below j3 hz) (i := k * 4 + 3) (fun e => d35 b5 e rfl) (Value.int .i64 ((cat S.cs k).off - r))
        have J5 := row_le hkn (d := r) (own_below j5 hz)
        have hbZ := bl_setc (o := k * 4 + 3) (v := (Value.int .i64 ((cat S.cs k).off - r))) (bl_call hbz0 hz) (show w.heap.size ≤ b5 by omega)
        obtain ⟨h0, hS, hok, ha, hb⟩ := HH.out
        clear f1 k6 k7 k8 j1 j3 j5 hdZ hz HJ ne1 ne6 ne7 ne8 la ya0 ya1 ya2 ya3 ya4 ya5 lb yb0 yb1 yb2 yb3 yb4 yb5 yb6 yb7 ld yd0 yd1 yd2 yd3 yd4 yd5 le ye0 ye1 ye2 ye3 ye4 ye5 lg yg0 yg1 yg2 yg3 yg4 yg5 z3 fz l5 hbz0
        generalize z.val.setCell ⟨b5, k * 4 + 3, none⟩ (Value.int .i64 ((cat S.cs k).off - r)) = Z3 at *
        have hZA := ha.below hbZ
        have hZB := hb.below hbZ
        have hT1 : Cts Z3 A1' (moA S c).cs := row_cts8 J1
        have hT3 : Cts Z3 A3 S.cs := row_cts8 J3
        have hT5 : Cts Z3 (some ⟨b5, 0, none⟩) (moC S k r).cs := row_cts7 J5
        have HI1 := Lib.hid fun (V : World) (h : Below Z3.heap.size Z3 V) => GI1.out V (hT1.below h) (hZA.below h) (hZB.below h)
        have HI2 := Lib.hid fun (V : World) (h : Below Z3.heap.size Z3 V) => GI2.out V (hT3.below h) (hZA.below h) (hZB.below h)
        have hI3 := Lib.hid fun (V : World) (h : Below Z3.heap.size Z3 V) => GI3.out V (hT5.below h) (hZA.below h) (hZB.below h)
        clear h0 hS hok ha hb hZA hZB hT1 hT3 hT5 J1 J3 J5 HH GI1 GI2 GI3
        (have la := F1.lt); (have ya0 := F1.cell 0); (have ya1 := F1.cell 1); (have ya2 := F1.cell 2); (have ya3 := F1.cell 3); (have ya4 := F1.cell 4); (have ya5 := F1.cell 5); simp only [List.getElem?_toArray, List.getElem?_cons_zero, List.getElem?_cons_succ] at ya0 ya1 ya2 ya3 ya4 ya5
        (have ld := K6.lt); (have yd0 := K6.cell 0); (have yd1 := K6.cell 1); (have yd2 := K6.cell 2); (have yd3 := K6.cell 3); (have yd4 := K6.cell 4); (have yd5 := K6.cell 5); simp only [List.getElem?_toArray, List.getElem?_cons_zero, List.getElem?_cons_succ] at yd0 yd1 yd2 yd3 yd4 yd5
        (have le := K7.lt); (have ye0 := K7.cell 0); (have ye1 := K7.cell 1); (have ye2 := K7.cell 2); (have ye3 := K7.cell 3); (have ye4 := K7.cell 4); (have ye5 := K7.cell 5); simp only [List.getElem?_toArray, List.getElem?_cons_zero, List.getElem?_cons_succ] at ye0 ye1 ye2 ye3 ye4 ye5
        (have lg := K8.lt); (have yg0 := K8.cell 0); (have yg1 := K8.cell 1); (have yg2 := K8.cell 2); (have yg3 := K8.cell 3); (have yg4 := K8.cell 4); (have yg5 := K8.cell 5); simp only [List.getElem?_toArray, List.getElem?_cons_zero, List.getElem?_cons_succ] at yg0 yg1 yg2 yg3 yg4 yg5
        go_wp2_with (first | ((go_at_call 41); (with_reducible refine Calls.mono (HI1.out _ (Below.refl _ _)) ?_); rintro e20 w20 ⟨rfl, hb20⟩; first | ((with_reducible apply kp_in_step (hb := hb20)); (with_reducible assumption); rintro ⟨hk, hc, hf, hzc, hzf⟩) | ((with_reducible refine kp_in_first hb20 ?_); rintro ⟨hk, hc, hf, hzc, hzf⟩)) | ((go_at_call 41); (with_reducible refine Calls.mono (HI2.out _ hb20) ?_); rintro e21 w21 ⟨rfl, hb21⟩; (have hc21 := bl_call hb20 hb21); first | ((with_reducible apply kp_in_step (hb := hb21)); (with_reducible assumption); rintro ⟨hk, hc, hf, hzc, hzf⟩) | ((with_reducible refine kp_in_first hb21 ?_); rintro ⟨hk, hc, hf, hzc, hzf⟩)) | ((go_at_call 41); (with_reducible refine Calls.mono (hI3.out _ hc21) ?_); rintro e22 w22 ⟨rfl, hb22⟩; (have hc22 := bl_call hc21 hb22); first | ((with_reducible apply kp_in_step (hb := hb22)); (with_reducible assumption); rintro ⟨hk, hc, hf, hzc, hzf⟩) | ((with_reducible refine kp_in_first hb22 ?_); rintro ⟨hk, hc, hf, hzc, hzf⟩)) | ((go_at_call 13); (with_reducible refine Calls.mono (works4 _) ?_); rintro e23 w23 ⟨rfl, hb23⟩; (have hbF := bl_call hbZ (bl_call hc22 hb23)); first | ((with_reducible apply kp_in_step (hb := hb23)); (with_reducible assumption); rintro ⟨hk, hc, hf, hzc, hzf⟩) | ((with_reducible refine kp_in_first hb23 ?_); rintro ⟨hk, hc, hf, hzc, hzf⟩)))
        go_ret
        exact ⟨rfl, hbF⟩
      · have hI3 := Lib.hid fun (V : World) (h : Below Z.heap.size Z V) => inside4 A5 A B ca5 ca cb S S l V (hT5.below h) (by omega) (hZA.below h) (hZB.below h) (by omega) h0 hok (fun _ hf => hf)
        have HI1 := Lib.hid fun (V : World) (h : Below Z.heap.size Z V) => GI1.out V (hT1.below h) (hZA.below h) (hZB.below h)
        have HI2 := Lib.hid fun (V : World) (h : Below Z.heap.size Z V) => GI2.out V (hT3.below h) (hZA.below h) (hZB.below h)
        clear h0 hS hok ha hb hZA hZB hT1 hT3 hT5 k6 k7 k8 j1 j3 j5 f1 HH GI1 GI2
        rcases Classical.not_and_iff_not_or_not.1 hin with hw1 | hw1
        · clear hin
          go_wp2_with (first | ((go_at_call 41); (with_reducible refine Calls.mono (HI1.out _ (Below.refl _ _)) ?_); rintro e20 w20 ⟨rfl, hb20⟩; first | ((with_reducible apply kp_in_step (hb := hb20)); (with_reducible assumption); rintro ⟨hk, hc, hf, hzc, hzf⟩) | ((with_reducible refine kp_in_first hb20 ?_); rintro ⟨hk, hc, hf, hzc, hzf⟩)) | ((go_at_call 41); (with_reducible refine Calls.mono (HI2.out _ hb20) ?_); rintro e21 w21 ⟨rfl, hb21⟩; (have hc21 := bl_call hb20 hb21); first | ((with_reducible apply kp_in_step (hb := hb21)); (with_reducible assumption); rintro ⟨hk, hc, hf, hzc, hzf⟩) | ((with_reducible refine kp_in_first hb21 ?_); rintro ⟨hk, hc, hf, hzc, hzf⟩)) | ((go_at_call 41); (with_reducible refine Calls.mono (hI3.out _ hc21) ?_); rintro e22 w22 ⟨rfl, hb22⟩; (have hc22 := bl_call hc21 hb22); first | ((with_reducible apply kp_in_step (hb := hb22)); (with_reducible assumption); rintro ⟨hk, hc, hf, hzc, hzf⟩) | ((with_reducible refine kp_in_first hb22 ?_); rintro ⟨hk, hc, hf, hzc, hzf⟩)) | ((go_at_call 13); (with_reducible refine Calls.mono (works4 _) ?_); rintro e23 w23 ⟨rfl, hb23⟩; (have hbF := bl_call hbZ (bl_call hc22 hb23)); first | ((with_reducible apply kp_in_step (hb := hb23)); (with_reducible assumption); rintro ⟨hk, hc, hf, hzc, hzf⟩) | ((with_reducible refine kp_in_first hb23 ?_); rintro ⟨hk, hc, hf, hzc, hzf⟩)))
          go_ret
          exact ⟨rfl, hbF⟩
        · by_cases hw2 : 0 ≤ wh
          · clear hin
            go_wp2_with (first | ((go_at_call 41); (with_reducible refine Calls.mono (HI1.out _ (Below.refl _ _)) ?_); rintro e20 w20 ⟨rfl, hb20⟩; first | ((with_reducible apply kp_in_step (hb := hb20)); (with_reducible assumption); rintro ⟨hk, hc, hf, hzc, hzf⟩) | ((with_reducible refine kp_in_first hb20 ?_); rintro ⟨hk, hc, hf, hzc, hzf⟩)) | ((go_at_call 41); (with_reducible refine Calls.mono (HI2.out _ hb20) ?_); rintro e21 w21 ⟨rfl, hb21⟩; (have hc21 := bl_call hb20 hb21); first | ((with_reducible apply kp_in_step (hb := hb21)); (with_reducible assumption); rintro ⟨hk, hc, hf, hzc, hzf⟩) | ((with_reducible refine kp_in_first hb21 ?_); rintro ⟨hk, hc, hf, hzc, hzf⟩)) | ((go_at_call 41); (with_reducible refine Calls.mono (hI3.out _ hc21) ?_); rintro e22 w22 ⟨rfl, hb22⟩; (have hc22 := bl_call hc21 hb22); first | ((with_reducible apply kp_in_step (hb := hb22)); (with_reducible assumption); rintro ⟨hk, hc, hf, hzc, hzf⟩) | ((with_reducible refine kp_in_first hb22 ?_); rintro ⟨hk, hc, hf, hzc, hzf⟩)) | ((go_at_call 13); (with_reducible refine Calls.mono (works4 _) ?_); rintro e23 w23 ⟨rfl, hb23⟩; (have hbF := bl_call hbZ (bl_call hc22 hb23)); first | ((with_reducible apply kp_in_step (hb := hb23)); (with_reducible assumption); rintro ⟨hk, hc, hf, hzc, hzf⟩) | ((with_reducible refine kp_in_first hb23 ?_); rintro ⟨hk, hc, hf, hzc, hzf⟩)))
            go_ret
            exact ⟨rfl, hbF⟩
          · exact absurd hw1 (by omega)
theorem lawMore_any (A B : Option Addr) (ca cb : Nat) (S : Sht) (l : List Pt) (c : Ctl) (p q wh r : Int) (w : World) (ha : Cts w A S.cs) (hla : S.cs.length ≤ 9223372036854775807) (hb : Pts w B l) (hlb : l.length ≤ 9223372036854775807) (hwh : -9223372036854775808 ≤ wh ∧ wh ≤ 9223372036854775807) :
    Calls Try.prog 7 #[(Value.agg #[(Value.int .i64 (S.xlo)), (Value.int .i64 (S.xhi)), (Value.int .i64 (S.ylo)), (Value.int .i64 (S.yhi)), .slice A S.cs.length ca, (Value.int .i64 (S.wrong))]), .slice B l.length cb, .agg #[(Value.int .i64 (c.way)), (Value.int .i64 (c.tru)), (Value.int .i64 (c.read)), (Value.int .i64 (c.off)), (Value.int .i64 (p)), (Value.int .i64 (q)), (Value.int .i64 (wh)), (Value.int .i64 (r))]] w fun e w' => e = .returned (.bool true) ∧ Below w.heap.size w w' := by
  cases h1 : rdyB S with
  | false => exact lawMore_no A B ca cb S l c p q wh r w ha hla hb hlb false (polB l) h1 rfl (.inl rfl)
  | true =>
    cases h2 : polB l with
    | false => exact lawMore_no A B ca cb S l c p q wh r w ha hla hb hlb true false h1 h2 (.inr (.inl ⟨rfl, rfl⟩))
    | true =>
      by_cases hm : morB p q r
      · exact lawMore_ok A B ca cb S l c p q wh r w ha hla hb hlb h1 h2 hm hwh
      · refine lawMore_no A B ca cb S l c p q wh r w ha hla hb hlb true true h1 h2 ?_
        unfold morB at hm
        simp only [true_and, reduceCtorEq, false_or, false_and]
        omega
section
open Go.Deep
variable {H : Type} {enc : TypeId × Value → H}
theorem trod_five {P : Program} {w : World} {base : Nat} {spare : Nat → Bool} {held : Bool} {t : TypeId} {f0 f1 f2 f3 f4 : Field} {fuel : Nat} {cs : List Value} {x : DataW H × List MemPlace} (ht : P.underlying t = some (.struct #[f0, f1, f2, f3, f4])) (h : DataW.trod enc P w base spare held fuel t cs = some x) :
    ∃ y0 y1 y2 y3 y4 n, DataW.trod enc P w base spare held n f0.type ((cs.drop f0.offset).take (P.cellsOf f0.type)) = some y0 ∧
      DataW.trod enc P w base spare held n f1.type ((cs.drop f1.offset).take (P.cellsOf f1.type)) = some y1 ∧ DataW.trod enc P w base spare held n f2.type ((cs.drop f2.offset).take (P.cellsOf f2.type)) = some y2 ∧
      DataW.trod enc P w base spare held n f3.type ((cs.drop f3.offset).take (P.cellsOf f3.type)) = some y3 ∧ DataW.trod enc P w base spare held n f4.type ((cs.drop f4.offset).take (P.cellsOf f4.type)) = some y4 := by
  obtain ⟨xs, n, _, rfl, hl, hlen, hf⟩ := DataW.trod_struct ht h
  match xs, hlen with
  | [y0, y1, y2, y3, y4], _ => exact ⟨y0, y1, y2, y3, y4, n, by simpa using hf 0 f0 rfl, by simpa using hf 1 f1 rfl, by simpa using hf 2 f2 rfl, by simpa using hf 3 f3 rfl, by simpa using hf 4 f4 rfl⟩
set_option maxRecDepth 100000 in
theorem open_more {W : World} {r : Reach} {b0 : Nat} {v : Value} {d : DataW H} {p : List MemPlace} (hv : Value.okWide Try.prog W r b0 69 v) (h : DataW.Trod enc Try.prog W 0 (fun _ => true) true 69 v d p) :
    ∃ (c : Ctl) (x y z u : Int), v = .agg #[(Value.int .i64 (c.way)), (Value.int .i64 (c.tru)), (Value.int .i64 (c.read)), (Value.int .i64 (c.off)), (Value.int .i64 (x)), (Value.int .i64 (y)), (Value.int .i64 (z)), (Value.int .i64 (u))] ∧ (-9223372036854775808 ≤ z ∧ z ≤ 9223372036854775807) := by
  obtain ⟨cs, rfl, hsz⟩ := okWide_struct Try.underlying69 hv
  obtain ⟨cl⟩ := cs
  have hsz2 : cl.length = 8 := hsz.trans (by kernel_rfl)
  match cl, hsz2 with
  | [c0, c1, c2, c3, c4, c5, c6, c7], _ =>
    obtain ⟨fuel, hf⟩ := h
    obtain ⟨y0, y1, y2, y3, y4, n, h0, h1, h2, h3, h4⟩ := trod_five Try.underlying69 hf
    have k0 : Try.prog.cellsOf 67 = 4 := by kernel_rfl
    simp only [Value.cells, k0, cellsInt, List.drop_zero, List.take_succ_cons, List.take_zero, List.drop_succ_cons] at h0 h1 h2 h3 h4
    obtain ⟨z0, z1, z2, z3, m1, _, _, g0, g1, g2, g3⟩ := Go.Joins.trod_struct4 Try.underlying67 h0
    simp only [cellsInt, List.drop_zero, List.take_succ_cons, List.take_zero, List.drop_succ_cons] at g0 g1 g2 g3
    obtain ⟨x0, rfl, _⟩ := int_f g0
    obtain ⟨x1, rfl, _⟩ := int_f g1
    obtain ⟨x2, rfl, _⟩ := int_f g2
    obtain ⟨x3, rfl, _⟩ := int_f g3
    obtain ⟨x4, rfl, _⟩ := int_f h1
    obtain ⟨x5, rfl, _⟩ := int_f h2
    obtain ⟨x6, rfl, hb6⟩ := int_f h3
    obtain ⟨x7, rfl, _⟩ := int_f h4
    exact ⟨⟨x0, x1, x2, x3⟩, x4, x5, x6, x7, rfl, hb6⟩
end
section
open Go.ChangeAt
set_option maxRecDepth 100000 in
theorem sheetsMore_lifted (os : Os) (started : os.Started) (H : Type) (enc : TypeId × Value → H) :
    ReturnsInHanded {} Try.checked os 7 .any (Rows.sheetsMoreSpec.pre6 enc Try.prog Try.f7 Rows.sheetsMoreRow.domain false) (Rows.sheetsMoreSpec.post enc Try.prog Try.f7 false true false false) := by
  refine returnsInHanded_of_change (C := Try.checked) own_knob started (by kernel_rfl) Try.func7
    (ChangeSpec.witness6 (enc := enc) (C := Try.checked) false ⟨#[], #[.agg #[.int .i64 0, .int .i64 0, .int .i64 0, .int .i64 0, .slice none 0 0, .int .i64 0], .slice none 0 0, .agg #[.int .i64 0, .int .i64 0, .int .i64 0, .int .i64 0, .int .i64 0, .int .i64 0, .int .i64 0, .int .i64 0]], []⟩ 8 (by kernel_rfl) (by kernel_rfl) (by kernel_rfl) (by kernel_rfl)) ?_
  intro W base args ds gs before hval0 hW hcnd _
  have hval : ∀ (j : Nat) t v, Try.f7.params[j]? = some t → args[j]? = some v → Value.okWide Try.prog W .any base t v := hval0
  have hW2 := hW
  obtain ⟨p, q, hA0, hV, rfl, hfz, hnd⟩ := hW
  have hA : DataW.TrodAll enc Try.prog W 0 (fun _ => true) true Try.f7.params.toList args.toList ds p := hA0
  rw [Try.params7] at hA hval
  obtain ⟨v0, v1, v2, d0, d1, d2, p0, p1, p2, rfl, rfl, rfl, h0, h1, h2⟩ := trodAll_three hA; obtain ⟨A, ca, S, rfl, hP0, hl0, hT1, hT2, hT3, hT4, hT5⟩ := open_sheet (hval 0 _ _ rfl rfl) h0; obtain ⟨B, cb, l, rfl, hP1, hl1⟩ := open_points (okWide_slice undPts (hval 1 _ _ rfl rfl)) h1; obtain ⟨xc, xp, xq, xw, xr, rfl, hxw⟩ := open_more (hval 2 _ _ rfl rfl) h2
  obtain ⟨rfl, rfl⟩ := trodVars_none hV
  clear hA0 hval0
  simp only [List.append_nil, List.nil_append] at hW2
  (try simp only [List.append_nil, List.nil_append] at hA)
  refine (lawMore_any A B ca cb S l xc xp xq xw xr W hP0 hl0 hP1 hl1 hxw).mono fun e W2 ⟨he, hb⟩ => ?_
  subst he
  refine ⟨_, rfl, post_of_below (pa := _) (pv := []) hW2 (fun _ _ _ => trodAll_mk1 (shut_bool und_bool _)) (fun sp hs => args_stay hb (by rw [Try.params7]; intro t ht; simp at ht; (try rcases ht with rfl | rfl | rfl) <;> (try rcases ht with rfl | rfl) <;> (try subst ht) <;> exact ⟨by kernel_rfl, by decide +kernel⟩) (by rw [Try.params7]; exact hA) hs) (fun _ _ => rfl) (by simp) hb (ok_one (by kernel_rfl) rfl (okWide_bool_mk und_bool _))⟩

theorem sheetsMore_holds : Rows.SheetsMoreSaid :=
  OpenClaim.holds_of_wide 7 Try.f7 rfl rfl rfl rfl rfl rfl rfl ⟨rfl, rfl, rfl, rfl, rfl⟩ rfl rfl rfl rfl rfl (by kernel_rfl) Try.func7 (by kernel_rfl)
    (of_decide_eq_true (by kernel_rfl)) (by unfold Func.isWrapper; first | (rw [if_pos (by decide +kernel)]; kernel_rfl) | (rw [if_neg (by decide +kernel)]; exact ⟨rfl, rfl⟩))
    (fun os started H enc _ => sheetsMore_lifted os started H enc)
end
end Go.Proofs.Ytegdnbceiopklaa
