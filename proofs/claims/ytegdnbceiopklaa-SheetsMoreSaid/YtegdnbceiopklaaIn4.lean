/- The function inside of the laws of sheets answers true if all truths of the first sheet are truths of the second one. -/
import Derived.Test.YtegdnbceiopklaaIk4
namespace Go.Proofs.Ytegdnbceiopklaa
open Go.RowKit
attribute [local go_sem] After.cell After.frozen

set_option maxRecDepth 100000 in
set_option maxHeartbeats 4000000 in
theorem inside_not (A1 A B : Option Addr) (c1 ca cb : Nat) (T S : Sht) (l : List Pt) (w : World) (h1 : Cts w A1 T.cs) (hl1 : T.cs.length ≤ 9223372036854775807) (hrT : rdyB T = false) :
    Calls Try.prog 41 #[(Value.agg #[(Value.int .i64 (T.xlo)), (Value.int .i64 (T.xhi)), (Value.int .i64 (T.ylo)), (Value.int .i64 (T.yhi)), .slice A1 T.cs.length c1, (Value.int .i64 (T.wrong))]), (Value.agg #[(Value.int .i64 (S.xlo)), (Value.int .i64 (S.xhi)), (Value.int .i64 (S.ylo)), (Value.int .i64 (S.yhi)), .slice A S.cs.length ca, (Value.int .i64 (S.wrong))]), .slice B l.length cb] w fun e w' => e = .returned (.bool true) ∧ Below w.heap.size w w' := by
  have hR := fun (W : World) (h : Below w.heap.size w W) => ready4 A1 c1 T W (h1.below h) hl1
  rw [hrT] at hR
  replace hR := Lib.hid hR
  have e1 : Blk ((w.alloc (.cells #[(Value.int .i64 (T.xlo)), (Value.int .i64 (T.xhi)), (Value.int .i64 (T.ylo)), (Value.int .i64 (T.yhi)), .slice A1 T.cs.length c1, (Value.int .i64 (T.wrong))] 26)).alloc (.cells #[(Value.int .i64 (S.xlo)), (Value.int .i64 (S.xhi)), (Value.int .i64 (S.ylo)), (Value.int .i64 (S.yhi)), .slice A S.cs.length ca, (Value.int .i64 (S.wrong))] 26)) w.heap.size 26 #[(Value.int .i64 (T.xlo)), (Value.int .i64 (T.xhi)), (Value.int .i64 (T.ylo)), (Value.int .i64 (T.yhi)), .slice A1 T.cs.length c1, (Value.int .i64 (T.wrong))] := (Blk.new _ _ _).alloc _
  (have la := e1.lt); (have ya0 := e1.cell 0); (have ya1 := e1.cell 1); (have ya2 := e1.cell 2); (have ya3 := e1.cell 3); (have ya4 := e1.cell 4); (have ya5 := e1.cell 5); simp only [List.getElem?_toArray, List.getElem?_cons_zero, List.getElem?_cons_succ] at ya0 ya1 ya2 ya3 ya4 ya5
  clear h1 hrT hl1
  go_enter Try.func41, Try.ntmps41
  go_wp2_with ((go_at_call 18); (with_reducible refine Calls.mono (hR.out _ (by (repeat (first | with_reducible exact Below.refl _ _ | with_reducible apply bl_alloc | with_reducible apply bl_drew | with_reducible apply bl_after | (with_reducible refine bl_call ?_ (by assumption)))))) ?_); rintro e wn ⟨rfl, hbn⟩; first | ((with_reducible apply kp_in_step (hb := hbn)); (with_reducible assumption); rintro ⟨hk, hc, hf, hzc, hzf⟩) | ((with_reducible refine kp_in_first hbn ?_); rintro ⟨hk, hc, hf, hzc, hzf⟩))
  go_ret
  exact ⟨rfl, by (repeat (first | with_reducible exact Below.refl _ _ | with_reducible apply bl_alloc | with_reducible apply bl_drew | with_reducible apply bl_after | (with_reducible refine bl_call ?_ (by assumption))))⟩
set_option maxRecDepth 100000 in
set_option maxHeartbeats 4000000 in
theorem inside_none (A1 A B : Option Addr) (c1 ca cb : Nat) (T S : Sht) (l : List Pt) (w : World) (h1 : Cts w A1 T.cs) (hl1 : T.cs.length ≤ 9223372036854775807) (ha : Cts w A S.cs) (h0 : shtB S = true) (hrT : rdyB T = true) (ht : trs T = []) :
    Calls Try.prog 41 #[(Value.agg #[(Value.int .i64 (T.xlo)), (Value.int .i64 (T.xhi)), (Value.int .i64 (T.ylo)), (Value.int .i64 (T.yhi)), .slice A1 T.cs.length c1, (Value.int .i64 (T.wrong))]), (Value.agg #[(Value.int .i64 (S.xlo)), (Value.int .i64 (S.xhi)), (Value.int .i64 (S.ylo)), (Value.int .i64 (S.yhi)), .slice A S.cs.length ca, (Value.int .i64 (S.wrong))]), .slice B l.length cb] w fun e w' => e = .returned (.bool true) ∧ Below w.heap.size w w' := by
  have hT : shtB T = true := by simp only [rdyB, Bool.and_eq_true] at hrT; exact hrT.2
  have hR := fun (W : World) (h : Below w.heap.size w W) => ready4 A1 c1 T W (h1.below h) hl1
  have hM1 := fun (W : World) (h : Below w.heap.size w W) => Many_any4 A1 c1 T W (h1.below h)
  have hM2 := fun (W : World) (h : Below w.heap.size w W) => Many_any4 A ca S W (ha.below h)
  have o1 : opS T true = 3 := by rw [opS, if_pos hT, if_pos rfl, if_pos ht]
  have o2 := (op_fw h0).1
  rw [hrT] at hR
  rw [o1] at hM1
  have hK1 := Lib.hid fun (W : World) => isKnown4 3 (.inr rfl) W
  have hK2 := Lib.hid fun (W : World) => isKnown4 (opS S true) o2 W
  generalize opS S true = oS at *
  generalize mnS S = nS at *
  generalize mnS T = nT at *
  replace hR := Lib.hid hR
  replace hM1 := Lib.hid hM1
  replace hM2 := Lib.hid hM2
  have e1 : Blk ((w.alloc (.cells #[(Value.int .i64 (T.xlo)), (Value.int .i64 (T.xhi)), (Value.int .i64 (T.ylo)), (Value.int .i64 (T.yhi)), .slice A1 T.cs.length c1, (Value.int .i64 (T.wrong))] 26)).alloc (.cells #[(Value.int .i64 (S.xlo)), (Value.int .i64 (S.xhi)), (Value.int .i64 (S.ylo)), (Value.int .i64 (S.yhi)), .slice A S.cs.length ca, (Value.int .i64 (S.wrong))] 26)) w.heap.size 26 #[(Value.int .i64 (T.xlo)), (Value.int .i64 (T.xhi)), (Value.int .i64 (T.ylo)), (Value.int .i64 (T.yhi)), .slice A1 T.cs.length c1, (Value.int .i64 (T.wrong))] := (Blk.new _ _ _).alloc _
  have e2 : Blk ((w.alloc (.cells #[(Value.int .i64 (T.xlo)), (Value.int .i64 (T.xhi)), (Value.int .i64 (T.ylo)), (Value.int .i64 (T.yhi)), .slice A1 T.cs.length c1, (Value.int .i64 (T.wrong))] 26)).alloc (.cells #[(Value.int .i64 (S.xlo)), (Value.int .i64 (S.xhi)), (Value.int .i64 (S.ylo)), (Value.int .i64 (S.yhi)), .slice A S.cs.length ca, (Value.int .i64 (S.wrong))] 26)) (w.heap.size + 1) 26 #[(Value.int .i64 (S.xlo)), (Value.int .i64 (S.xhi)), (Value.int .i64 (S.ylo)), (Value.int .i64 (S.yhi)), .slice A S.cs.length ca, (Value.int .i64 (S.wrong))] := Blk.new_at (by simp)
  (have la := e1.lt); (have ya0 := e1.cell 0); (have ya1 := e1.cell 1); (have ya2 := e1.cell 2); (have ya3 := e1.cell 3); (have ya4 := e1.cell 4); (have ya5 := e1.cell 5); simp only [List.getElem?_toArray, List.getElem?_cons_zero, List.getElem?_cons_succ] at ya0 ya1 ya2 ya3 ya4 ya5
  (have lb := e2.lt); (have yb0 := e2.cell 0); (have yb1 := e2.cell 1); (have yb2 := e2.cell 2); (have yb3 := e2.cell 3); (have yb4 := e2.cell 4); (have yb5 := e2.cell 5); simp only [List.getElem?_toArray, List.getElem?_cons_zero, List.getElem?_cons_succ] at yb0 yb1 yb2 yb3 yb4 yb5
  clear h1 ha hrT hl1 h0 ht hT o1 o2 e1 e2
  go_enter Try.func41, Try.ntmps41
  go_wp2_with (first | ((go_at_call 18); (with_reducible refine Calls.mono (hR.out _ (by (repeat (first | with_reducible exact Below.refl _ _ | with_reducible apply bl_alloc | with_reducible apply bl_drew | with_reducible apply bl_after | (with_reducible refine bl_call ?_ (by assumption)))))) ?_); rintro e wn ⟨rfl, hbn⟩; first | ((with_reducible apply kp_in_step (hb := hbn)); (with_reducible assumption); rintro ⟨hk, hc, hf, hzc, hzf⟩) | ((with_reducible refine kp_in_first hbn ?_); rintro ⟨hk, hc, hf, hzc, hzf⟩)) | (go_at_call 40; with_reducible refine Calls.mono (hK1.out _) ?_; rintro e w' ⟨rfl, rfl⟩) | (go_at_call 40; with_reducible refine Calls.mono (hK2.out _) ?_; rintro e w' ⟨rfl, rfl⟩) | ((go_at_call 22); (with_reducible refine Calls.mono (hM1.out _ (by (repeat (first | with_reducible exact Below.refl _ _ | with_reducible apply bl_alloc | with_reducible apply bl_drew | with_reducible apply bl_after | (with_reducible refine bl_call ?_ (by assumption)))))) ?_); rintro e2 w2 ⟨rfl, hb2⟩; first | ((with_reducible apply kp_in_step (hb := hb2)); (with_reducible assumption); rintro ⟨hk, hc, hf, hzc, hzf⟩) | ((with_reducible refine kp_in_first hb2 ?_); rintro ⟨hk, hc, hf, hzc, hzf⟩)) | ((go_at_call 22); (with_reducible refine Calls.mono (hM2.out _ (by (repeat (first | with_reducible exact Below.refl _ _ | with_reducible apply bl_alloc | with_reducible apply bl_drew | with_reducible apply bl_after | (with_reducible refine bl_call ?_ (by assumption)))))) ?_); rintro e3 w3 ⟨rfl, hb3⟩; first | ((with_reducible apply kp_in_step (hb := hb3)); (with_reducible assumption); rintro ⟨hk, hc, hf, hzc, hzf⟩) | ((with_reducible refine kp_in_first hb3 ?_); rintro ⟨hk, hc, hf, hzc, hzf⟩)))
  go_ret
  exact ⟨rfl, by (repeat (first | with_reducible exact Below.refl _ _ | with_reducible apply bl_alloc | with_reducible apply bl_drew | with_reducible apply bl_after | (with_reducible refine bl_call ?_ (by assumption))))⟩
set_option maxRecDepth 100000 in
set_option maxHeartbeats 4000000 in
theorem inside_some (A1 A B : Option Addr) (c1 ca cb : Nat) (T S : Sht) (l : List Pt) (w : World) (h1 : Cts w A1 T.cs) (hl1 : T.cs.length ≤ 9223372036854775807) (ha : Cts w A S.cs) (hb : Pts w B l) (hlb : l.length ≤ 1000000) (h0 : shtB S = true) (hok : Ok l) (hrT : rdyB T = true) (ht : trs T ≠ []) (hs : ∀ f ∈ trs T, f ∈ trs S) :
    Calls Try.prog 41 #[(Value.agg #[(Value.int .i64 (T.xlo)), (Value.int .i64 (T.xhi)), (Value.int .i64 (T.ylo)), (Value.int .i64 (T.yhi)), .slice A1 T.cs.length c1, (Value.int .i64 (T.wrong))]), (Value.agg #[(Value.int .i64 (S.xlo)), (Value.int .i64 (S.xhi)), (Value.int .i64 (S.ylo)), (Value.int .i64 (S.yhi)), .slice A S.cs.length ca, (Value.int .i64 (S.wrong))]), .slice B l.length cb] w fun e w' => e = .returned (.bool true) ∧ Below w.heap.size w w' := by
  have hT : shtB T = true := by simp only [rdyB, Bool.and_eq_true] at hrT; exact hrT.2
  have hR := fun (W : World) (h : Below w.heap.size w W) => ready4 A1 c1 T W (h1.below h) hl1
  have hM1 := fun (W : World) (h : Below w.heap.size w W) => Many_any4 A1 c1 T W (h1.below h)
  have hM2 := fun (W : World) (h : Below w.heap.size w W) => Many_any4 A ca S W (ha.below h)
  have hF1 := fun (n : Int) (W : World) (h : Below w.heap.size w W) => Factors_any A1 c1 T n W (h1.below h)
  have hF2 := fun (n : Int) (W : World) (h : Below w.heap.size w W) => Factors_any A ca S n W (ha.below h)
  have hA1 := fun (W : World) (h : Below w.heap.size w W) => Area_any A1 B c1 cb T l W (h1.below h) (hb.below h) hlb
  have hA2 := fun (W : World) (h : Below w.heap.size w W) => Area_any A B ca cb S l W (ha.below h) (hb.below h) hlb
  have hL1 := fun (W : World) (h : Below w.heap.size w W) => Alike_any A1 c1 T W (h1.below h)
  have hL2 := fun (W : World) (h : Below w.heap.size w W) => Alike_any A ca S W (ha.below h)
  obtain ⟨o1, o2⟩ := sub_op h0 hT hs ht
  obtain ⟨n1, n2⟩ := sub_mn h0 hT hs ht
  obtain ⟨r1, r2, r3, r4, r5⟩ := sub_ar h0 hT hs ht hok
  have q1 := sub_al h0 hT hs ht
  have hFc := Lib.hid (sub_fc h0 hT hs ht)
  have hO1 := Lib.hid o1
  have hO2 := Lib.hid o2
  rw [hrT] at hR
  rw [o1] at hM1 hL1
  rw [o2] at hM2 hL2
  rw [r1] at hA1
  rw [r2] at hA2
  have hK1 := Lib.hid fun (W : World) => isKnown4 0 (.inl rfl) W
  generalize mnS S = nS at *
  generalize mnS T = nT at *
  generalize arLo S l = sl at *
  generalize arHi S l = sh at *
  generalize arLo T l = tl at *
  generalize arHi T l = th at *
  generalize alV S = aS at *
  generalize alV T = aT at *
  have nn1 : ¬ nT < 1 := by omega
  have nn2 : ¬ nS < nT := by omega
  replace hR := Lib.hid hR
  replace hM1 := Lib.hid hM1
  replace hM2 := Lib.hid hM2
  replace hF1 := Lib.hid hF1
  replace hF2 := Lib.hid hF2
  replace hA1 := Lib.hid hA1
  replace hA2 := Lib.hid hA2
  replace hL1 := Lib.hid hL1
  replace hL2 := Lib.hid hL2
  have e1 : Blk ((w.alloc (.cells #[(Value.int .i64 (T.xlo)), (Value.int .i64 (T.xhi)), (Value.int .i64 (T.ylo)), (Value.int .i64 (T.yhi)), .slice A1 T.cs.length c1, (Value.int .i64 (T.wrong))] 26)).alloc (.cells #[(Value.int .i64 (S.xlo)), (Value.int .i64 (S.xhi)), (Value.int .i64 (S.ylo)), (Value.int .i64 (S.yhi)), .slice A S.cs.length ca, (Value.int .i64 (S.wrong))] 26)) w.heap.size 26 #[(Value.int .i64 (T.xlo)), (Value.int .i64 (T.xhi)), (Value.int .i64 (T.ylo)), (Value.int .i64 (T.yhi)), .slice A1 T.cs.length c1, (Value.int .i64 (T.wrong))] := (Blk.new _ _ _).alloc _
  have e2 : Blk ((w.alloc (.cells #[(Value.int .i64 (T.xlo)), (Value.int .i64 (T.xhi)), (Value.int .i64 (T.ylo)), (Value.int .i64 (T.yhi)), .slice A1 T.cs.length c1, (Value.int .i64 (T.wrong))] 26)).alloc (.cells #[(Value.int .i64 (S.xlo)), (Value.int .i64 (S.xhi)), (Value.int .i64 (S.ylo)), (Value.int .i64 (S.yhi)), .slice A S.cs.length ca, (Value.int .i64 (S.wrong))] 26)) (w.heap.size + 1) 26 #[(Value.int .i64 (S.xlo)), (Value.int .i64 (S.xhi)), (Value.int .i64 (S.ylo)), (Value.int .i64 (S.yhi)), .slice A S.cs.length ca, (Value.int .i64 (S.wrong))] := Blk.new_at (by simp)
  have hb0 : Below w.heap.size w ((w.alloc (.cells #[(Value.int .i64 (T.xlo)), (Value.int .i64 (T.xhi)), (Value.int .i64 (T.ylo)), (Value.int .i64 (T.yhi)), .slice A1 T.cs.length c1, (Value.int .i64 (T.wrong))] 26)).alloc (.cells #[(Value.int .i64 (S.xlo)), (Value.int .i64 (S.xhi)), (Value.int .i64 (S.ylo)), (Value.int .i64 (S.yhi)), .slice A S.cs.length ca, (Value.int .i64 (S.wrong))] 26)) := by (repeat (first | with_reducible exact Below.refl _ _ | with_reducible apply bl_alloc | with_reducible apply bl_drew | with_reducible apply bl_after | (with_reducible refine bl_call ?_ (by assumption))))
  (have la := e1.lt); (have ya0 := e1.cell 0); (have ya1 := e1.cell 1); (have ya2 := e1.cell 2); (have ya3 := e1.cell 3); (have ya4 := e1.cell 4); (have ya5 := e1.cell 5); simp only [List.getElem?_toArray, List.getElem?_cons_zero, List.getElem?_cons_succ] at ya0 ya1 ya2 ya3 ya4 ya5
  (have lb := e2.lt); (have yb0 := e2.cell 0); (have yb1 := e2.cell 1); (have yb2 := e2.cell 2); (have yb3 := e2.cell 3); (have yb4 := e2.cell 4); (have yb5 := e2.cell 5); simp only [List.getElem?_toArray, List.getElem?_cons_zero, List.getElem?_cons_succ] at yb0 yb1 yb2 yb3 yb4 yb5
  clear h1 ha hb hrT hl1 hlb h0 ht hT o1 o2 hok hs r1 r2
  go_enter Try.func41, Try.ntmps41
  go_upto_region 9 with (first | ((go_at_call 18); (with_reducible refine Calls.mono (hR.out _ (by (repeat (first | with_reducible exact Below.refl _ _ | with_reducible apply bl_alloc | with_reducible apply bl_drew | with_reducible apply bl_after | (with_reducible refine bl_call ?_ (by assumption)))))) ?_); rintro e wn ⟨rfl, hbn⟩; first | ((with_reducible apply kp_in_step (hb := hbn)); (with_reducible assumption); rintro ⟨hk, hc, hf, hzc, hzf⟩) | ((with_reducible refine kp_in_first hbn ?_); rintro ⟨hk, hc, hf, hzc, hzf⟩)) | (go_at_call 40; with_reducible refine Calls.mono (hK1.out _) ?_; rintro e w' ⟨rfl, rfl⟩) | ((go_at_call 22); (with_reducible refine Calls.mono (hM1.out _ (by (repeat (first | with_reducible exact Below.refl _ _ | with_reducible apply bl_alloc | with_reducible apply bl_drew | with_reducible apply bl_after | (with_reducible refine bl_call ?_ (by assumption)))))) ?_); rintro e2 w2 ⟨rfl, hb2⟩; first | ((with_reducible apply kp_in_step (hb := hb2)); (with_reducible assumption); rintro ⟨hk, hc, hf, hzc, hzf⟩) | ((with_reducible refine kp_in_first hb2 ?_); rintro ⟨hk, hc, hf, hzc, hzf⟩)) | ((go_at_call 22); (with_reducible refine Calls.mono (hM2.out _ (by (repeat (first | with_reducible exact Below.refl _ _ | with_reducible apply bl_alloc | with_reducible apply bl_drew | with_reducible apply bl_after | (with_reducible refine bl_call ?_ (by assumption)))))) ?_); rintro e3 w3 ⟨rfl, hb3⟩; first | ((with_reducible apply kp_in_step (hb := hb3)); (with_reducible assumption); rintro ⟨hk, hc, hf, hzc, hzf⟩) | ((with_reducible refine kp_in_first hb3 ?_); rintro ⟨hk, hc, hf, hzc, hzf⟩)))
  have hW : Below (((w.alloc (.cells #[(Value.int .i64 (T.xlo)), (Value.int .i64 (T.xhi)), (Value.int .i64 (T.ylo)), (Value.int .i64 (T.yhi)), .slice A1 T.cs.length c1, (Value.int .i64 (T.wrong))] 26)).alloc (.cells #[(Value.int .i64 (S.xlo)), (Value.int .i64 (S.xhi)), (Value.int .i64 (S.ylo)), (Value.int .i64 (S.yhi)), .slice A S.cs.length ca, (Value.int .i64 (S.wrong))] 26))).heap.size ((w.alloc (.cells #[(Value.int .i64 (T.xlo)), (Value.int .i64 (T.xhi)), (Value.int .i64 (T.ylo)), (Value.int .i64 (T.yhi)), .slice A1 T.cs.length c1, (Value.int .i64 (T.wrong))] 26)).alloc (.cells #[(Value.int .i64 (S.xlo)), (Value.int .i64 (S.xhi)), (Value.int .i64 (S.ylo)), (Value.int .i64 (S.yhi)), .slice A S.cs.length ca, (Value.int .i64 (S.wrong))] 26)) w3 := by (repeat (first | with_reducible exact Below.refl _ _ | with_reducible apply bl_alloc | with_reducible apply bl_drew | with_reducible apply bl_after | (with_reducible refine bl_call ?_ (by assumption))))
  have d1 := e1.below hW
  have d2 := e2.below hW
  have hbV := bl_call hb0 hW
  clear la ya0 ya1 ya2 ya3 ya4 ya5 lb yb0 yb1 yb2 yb3 yb4 yb5 e1 e2 hb0 hW hb3 hb2 hbn hR hM1 hM2 hK1
  ((try clear hk hc hf hzc hzf); (try clear hk hc hf hzc hzf); (try clear hk hc hf hzc hzf); (try clear hk hc hf hzc hzf))
  go_wp2
  go_loopw [11] (fun i wr => ∃ k : Nat, 1 ≤ k ∧ k ≤ 3 ∧ i = (Value.int .i64 ((k : Int))) ∧ Below w.heap.size w wr ∧ Below w3.heap.size w3 wr) (fun i _ => 4 - (intOf i).toNat)
  case atStart => exact ⟨1, by omega, by omega, rfl, hbV, Below.refl _ _⟩
  case round =>
    obtain ⟨k, k1, k3, rfl, hbw, hbr⟩ := hrel
    have v1 := d1.below hbr
    have v2 := d2.below hbr
    (have la := v1.lt); (have ya0 := v1.cell 0); (have ya1 := v1.cell 1); (have ya2 := v1.cell 2); (have ya3 := v1.cell 3); (have ya4 := v1.cell 4); (have ya5 := v1.cell 5); simp only [List.getElem?_toArray, List.getElem?_cons_zero, List.getElem?_cons_succ] at ya0 ya1 ya2 ya3 ya4 ya5
    (have lb := v2.lt); (have yb0 := v2.cell 0); (have yb1 := v2.cell 1); (have yb2 := v2.cell 2); (have yb3 := v2.cell 3); (have yb4 := v2.cell 4); (have yb5 := v2.cell 5); simp only [List.getElem?_toArray, List.getElem?_cons_zero, List.getElem?_cons_succ] at yb0 yb1 yb2 yb3 yb4 yb5
    by_cases hlt : k ≤ 2
    · have hw : wayB (k : Int) = true := by
        simp only [wayB, Bool.or_eq_true, beq_iff_eq]
        omega
      have hFa := hF1.out (k : Int) wr hbw
      have hFb := fun (V : World) (h : Below w.heap.size w V) => hF2.out (k : Int) V h
      obtain ⟨f1, f2, f3⟩ := hFc.out (k : Int) hw
      rw [hw, hO1.out] at hFa
      rw [hw, hO2.out] at hFb
      generalize fcV T (k : Int) = F1 at *
      generalize fcV S (k : Int) = F2 at *
      have hSu := Lib.hid fun (A' B' : Option Addr) (ca' cb' : Nat) (V : World) (g1 : Ints V A' F1) (g2 : Ints V B' F2) => subset4 A' B' ca' cb' F1 F2 f1 f2 V g1 g2 (by omega)
      have i1 : (k : Int) ≤ 2 := by omega
      have i2 : ¬ (300 : Int) < (F2.length : Int) := by omega
      replace hFa := Lib.hid hFa
      replace hFb := Lib.hid hFb
      clear f1 f2 f3 v1 v2 hw
      go_wp2_with (first | ((go_at_call 33); (with_reducible refine Calls.mono hFa.out ?_); rintro e4 w4 ⟨⟨A4, c4, rfl, hI4⟩, hb4⟩; (have hV4 := bl_call hbw hb4); (have hU4 := bl_call hbr hb4); first | ((with_reducible apply kp_in_step (hb := hb4)); (with_reducible assumption); rintro ⟨hk, hc, hf, hzc, hzf⟩) | ((with_reducible refine kp_in_first hb4 ?_); rintro ⟨hk, hc, hf, hzc, hzf⟩)) | ((go_at_call 33); (with_reducible refine Calls.mono (hFb.out _ hV4) ?_); rintro e5 w5 ⟨⟨A5, c5, rfl, hI5⟩, hb5⟩; (have hV5 := bl_call hV4 hb5); (have hU5 := bl_call hU4 hb5); (have hI45 := hI4.below hb5); first | ((with_reducible apply kp_in_step (hb := hb5)); (with_reducible assumption); rintro ⟨hk, hc, hf, hzc, hzf⟩) | ((with_reducible refine kp_in_first hb5 ?_); rintro ⟨hk, hc, hf, hzc, hzf⟩)) | ((go_at_call 83); (with_reducible refine Calls.mono (hSu.out _ _ _ _ _ hI45 hI5) ?_); rintro e6 w6 ⟨rfl, hb6⟩; (have hV6 := bl_call hV5 hb6); (have hU6 := bl_call hU5 hb6); first | ((with_reducible apply kp_in_step (hb := hb6)); (with_reducible assumption); rintro ⟨hk, hc, hf, hzc, hzf⟩) | ((with_reducible refine kp_in_first hb6 ?_); rintro ⟨hk, hc, hf, hzc, hzf⟩)))
      go_roundw
      case rel => exact ⟨k + 1, by omega, by omega, by go_num, hV6, hU6⟩
      case measure => simp [intOf]; omega
    · obtain rfl : k = 3 := by omega
      go_upto_region 20 with (first | ((go_at_call 23); (with_reducible refine Calls.mono (hA1.out _ hbw) ?_); rintro e4 w4 ⟨rfl, hb4⟩; (have hV4 := bl_alloc (o := (.cells #[(Value.int .i64 (tl)), (Value.int .i64 (th))] 23)) (bl_call hbw hb4)); (have v24 := (v2.below hb4).alloc (.cells #[(Value.int .i64 (tl)), (Value.int .i64 (th))] 23)); (have v14 := (v1.below hb4).alloc (.cells #[(Value.int .i64 (tl)), (Value.int .i64 (th))] 23)); (have s4 := Blk.new w4 23 #[(Value.int .i64 (tl)), (Value.int .i64 (th))]); (have l24 := (v2.below hb4).lt); (have l14 := (v1.below hb4).lt); first | ((with_reducible apply kp_in_step (hb := hb4)); (with_reducible assumption); rintro ⟨hk, hc, hf, hzc, hzf⟩) | ((with_reducible refine kp_in_first hb4 ?_); rintro ⟨hk, hc, hf, hzc, hzf⟩)) | ((go_at_call 23); (with_reducible refine Calls.mono (hA2.out _ hV4) ?_); rintro e5 w5 ⟨rfl, hb5⟩; (have hV5 := bl_alloc (o := (.cells #[(Value.int .i64 (sl)), (Value.int .i64 (sh))] 23)) (bl_call hV4 hb5)); (have v25 := (v24.below hb5).alloc (.cells #[(Value.int .i64 (sl)), (Value.int .i64 (sh))] 23)); (have l25 := (v24.below hb5).lt); (have l15 := (v14.below hb5).lt); (have s45 := (s4.below hb5).alloc (.cells #[(Value.int .i64 (sl)), (Value.int .i64 (sh))] 23)); (have s5 := Blk.new w5 23 #[(Value.int .i64 (sl)), (Value.int .i64 (sh))]); first | ((with_reducible apply kp_in_step (hb := hb5)); (with_reducible assumption); rintro ⟨hk, hc, hf, hzc, hzf⟩) | ((with_reducible refine kp_in_first hb5 ?_); rintro ⟨hk, hc, hf, hzc, hzf⟩)) | ((go_at_call 24); (with_reducible refine Calls.mono (hL1.out _ hV5) ?_); rintro e6 w6 ⟨rfl, hb6⟩; (have hV6 := bl_call hV5 hb6); first | ((with_reducible apply kp_in_step (hb := hb6)); (with_reducible assumption); rintro ⟨hk, hc, hf, hzc, hzf⟩) | ((with_reducible refine kp_in_first hb6 ?_); rintro ⟨hk, hc, hf, hzc, hzf⟩)) | ((go_at_call 24); (with_reducible refine Calls.mono (hL2.out _ hV6) ?_); rintro e7 w7 ⟨rfl, hb7⟩; (have hV7 := bl_call hV6 hb7); first | ((with_reducible apply kp_in_step (hb := hb7)); (with_reducible assumption); rintro ⟨hk, hc, hf, hzc, hzf⟩) | ((with_reducible refine kp_in_first hb7 ?_); rintro ⟨hk, hc, hf, hzc, hzf⟩)))
      have hW7 : Below (w5.alloc (.cells #[(Value.int .i64 (sl)), (Value.int .i64 (sh))] 23)).heap.size (w5.alloc (.cells #[(Value.int .i64 (sl)), (Value.int .i64 (sh))] 23)) w7 := bl_call hb6 hb7
      have s47 := s45.below hW7
      have s57 := s5.below hW7
      clear v1 v2 v24 v14 v25 s45 s5 s4 hW7 hb4 hb5 hb6 hb7 hV4 hV5 hV6 l24 l25 l14 l15 la ya0 ya1 ya2 ya3 ya4 ya5 lb yb0 yb1 yb2 yb3 yb4 yb5 hA1 hA2 hL1 hL2 hF1 hF2 hFc hO1 hO2
      ((try clear hk hc hf hzc hzf); (try clear hk hc hf hzc hzf); (try clear hk hc hf hzc hzf); (try clear hk hc hf hzc hzf))
      (have lc := s47.lt); (have yc0 := s47.cell 0); (have yc1 := s47.cell 1); simp only [List.getElem?_toArray, List.getElem?_cons_zero, List.getElem?_cons_succ] at yc0 yc1
      (have ld := s57.lt); (have yd0 := s57.cell 0); (have yd1 := s57.cell 1); simp only [List.getElem?_toArray, List.getElem?_cons_zero, List.getElem?_cons_succ] at yd0 yd1
      rcases q1 with q1 | q1
      · have q2 : (aS == 3) = true := by rw [q1]; rfl
        clear q1
        go_wp2
        go_ret
        exact ⟨rfl, hV7⟩
      · subst q1
        have q2 : (aT == aT) = true := beq_self_eq_true _
        cases q3 : (aT == 3)
        · go_wp2
          go_ret
          exact ⟨rfl, hV7⟩
        · go_wp2
          go_ret
          exact ⟨rfl, hV7⟩
theorem inside4 (A1 A B : Option Addr) (c1 ca cb : Nat) (T S : Sht) (l : List Pt) (w : World) (h1 : Cts w A1 T.cs) (hl1 : T.cs.length ≤ 9223372036854775807) (ha : Cts w A S.cs) (hb : Pts w B l) (hlb : l.length ≤ 1000000) (h0 : shtB S = true) (hok : Ok l) (hs : ∀ f ∈ trs T, f ∈ trs S) :
    Calls Try.prog 41 #[(Value.agg #[(Value.int .i64 (T.xlo)), (Value.int .i64 (T.xhi)), (Value.int .i64 (T.ylo)), (Value.int .i64 (T.yhi)), .slice A1 T.cs.length c1, (Value.int .i64 (T.wrong))]), (Value.agg #[(Value.int .i64 (S.xlo)), (Value.int .i64 (S.xhi)), (Value.int .i64 (S.ylo)), (Value.int .i64 (S.yhi)), .slice A S.cs.length ca, (Value.int .i64 (S.wrong))]), .slice B l.length cb] w fun e w' => e = .returned (.bool true) ∧ Below w.heap.size w w' := by
  by_cases hr : rdyB T = true
  · by_cases ht : trs T = []
    · exact inside_none A1 A B c1 ca cb T S l w h1 hl1 ha h0 hr ht
    · exact inside_some A1 A B c1 ca cb T S l w h1 hl1 ha hb hlb h0 hok hr ht hs
  · exact inside_not A1 A B c1 ca cb T S l w h1 hl1 (by simpa using hr)
end Go.Proofs.Ytegdnbceiopklaa
