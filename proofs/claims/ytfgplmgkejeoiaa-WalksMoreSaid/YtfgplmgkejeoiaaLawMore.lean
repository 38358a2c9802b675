/- The law WalksMore answers true for any track, walk and more. -/
import Derived.Test.YtfgplmgkejeoiaaMorW
import Derived.Test.YtfgplmgkejeoiaaOpw
import Derived.Test.YtfgplmgkejeoiaaRows
namespace Go.Proofs.Ytfgplmgkejeoiaa
open Go.ChangeShapes Go.WideShapes Go.Deep Go.RowKit
attribute [local go_sem] After.cell After.frozen
section
variable {H : Type} {enc : TypeId × Value → H}
set_option maxRecDepth 100000 in
theorem open_more {W : World} {r : Reach} {b0 : Nat} {v : Value} {d : DataW H} {p : List MemPlace} (hv : Value.okWide Try.prog W r b0 56 v) (h : DataW.Trod enc Try.prog W 0 (fun _ => true) true 56 v d p) :
    ∃ (xl xh : Int) (q : Pt), v = .agg #[(Value.int .i64 (xl)), (Value.int .i64 (xh)), (Value.int .i64 (q.1)), (Value.int .i64 (q.2))] := by
  obtain ⟨cs, rfl, hsz⟩ := okWide_struct Try.underlying56 hv
  obtain ⟨c0, c1, c2, c3, rfl⟩ := Go.Joins.array4 (hsz.trans (by kernel_rfl))
  obtain ⟨fuel, hf⟩ := h
  obtain ⟨y0, y1, y2, n, hx, _, h0, h1, h2⟩ := Go.Deep.trod_struct3 Try.underlying56 hf
  have k2 : Try.prog.cellsOf 31 = 2 := by kernel_rfl
  simp only [Value.cells, k2, cellsInt, List.drop_zero, List.take_succ_cons, List.take_zero, List.drop_succ_cons] at h0 h1 h2
  obtain ⟨z0, z1, n2, hx2, _, g0, g1⟩ := trod_struct2 Try.underlying31 h2
  simp only [cellsInt, List.drop_zero, List.take_succ_cons, List.take_zero, List.drop_succ_cons] at g0 g1
  obtain ⟨a, rfl, _⟩ := int_f h0
  obtain ⟨c, rfl, _⟩ := int_f h1
  obtain ⟨lo, rfl, _⟩ := int_f g0
  obtain ⟨hi, rfl, _⟩ := int_f g1
  exact ⟨a, c, (lo, hi), rfl⟩
end

set_option maxRecDepth 100000 in
set_option maxHeartbeats 2000000 in
theorem more_off (A B : Option Addr) (ca cb : Nat) (T : Trk) (m : List Pt) (xl xh : Int) (d : Pt) (w : World) (ha : Pts w A T.pts) (hla : T.pts.length ≤ 9223372036854775807) (hb : Pts w B m) (hlb : m.length ≤ 9223372036854775807)
    (hbad : rdyB T m = false ∨ ¬ ((0 ≤ xl ∧ xl ≤ 320000) ∧ (0 ≤ xh ∧ xh ≤ 320000))) :
    Calls Try.prog 10 #[(Value.agg #[.slice A T.pts.length ca, (Value.int .i64 (T.closed)), (Value.int .i64 (T.lo)), (Value.int .i64 (T.hi))]), .slice B m.length cb, .agg #[(Value.int .i64 (xl)), (Value.int .i64 (xh)), (Value.int .i64 (d.1)), (Value.int .i64 (d.2))]] w fun e w' => e = .returned (.bool true) ∧ Below w.heap.size w w' := by
  have hR := fun (W : World) (h : Below w.heap.size w W) => ready_any A B ca cb T m W (ha.below h) hla (hb.below h) hlb
  have e3 : Blk ((w.alloc (.cells #[.slice A T.pts.length ca, (Value.int .i64 (T.closed)), (Value.int .i64 (T.lo)), (Value.int .i64 (T.hi))] 36)).alloc (.cells #[(Value.int .i64 (xl)), (Value.int .i64 (xh)), (Value.int .i64 (d.1)), (Value.int .i64 (d.2))] 56)) w.heap.size 36 #[.slice A T.pts.length ca, (Value.int .i64 (T.closed)), (Value.int .i64 (T.lo)), (Value.int .i64 (T.hi))] := (Blk.new _ _ _).alloc _
  have e5 : Blk ((w.alloc (.cells #[.slice A T.pts.length ca, (Value.int .i64 (T.closed)), (Value.int .i64 (T.lo)), (Value.int .i64 (T.hi))] 36)).alloc (.cells #[(Value.int .i64 (xl)), (Value.int .i64 (xh)), (Value.int .i64 (d.1)), (Value.int .i64 (d.2))] 56)) (w.heap.size + 1) 56 #[(Value.int .i64 (xl)), (Value.int .i64 (xh)), (Value.int .i64 (d.1)), (Value.int .i64 (d.2))] := Blk.new_at (by simp)
  (have la := e3.lt); (have ya0 := e3.cell 0); (have ya1 := e3.cell 1); (have ya2 := e3.cell 2); (have ya3 := e3.cell 3); simp only [List.getElem?_toArray, List.getElem?_cons_zero, List.getElem?_cons_succ] at ya0 ya1 ya2 ya3
  (have lc := e5.lt); (have yc0 := e5.cell 0); (have yc1 := e5.cell 1); (have yc2 := e5.cell 2); (have yc3 := e5.cell 3); simp only [List.getElem?_toArray, List.getElem?_cons_zero, List.getElem?_cons_succ] at yc0 yc1 yc2 yc3
  clear ha hb
  cases hr : rdyB T m with
  | false =>
    rw [hr] at hR
    replace hR := Lib.hid hR
    clear hr hbad
    go_enter Try.func10, Try.ntmps10
    go_wp2_with (first | ((go_at_call 42); (with_reducible refine Calls.mono (hR.out _ (by (repeat (first | with_reducible exact Below.refl _ _ | with_reducible apply bl_alloc | with_reducible apply bl_drew | with_reducible apply bl_after | (with_reducible refine bl_call ?_ (by assumption)))))) ?_); rintro e wn ⟨rfl, hbn⟩; first | ((with_reducible apply kp_in_step (hb := hbn)); (with_reducible assumption); rintro ⟨hk, hc, hf, hzc, hzf⟩) | ((with_reducible refine kp_in_first hbn ?_); rintro ⟨hk, hc, hf, hzc, hzf⟩)) | ((go_at_call 14); (with_reducible refine Calls.mono (works_any _) ?_); rintro e wn ⟨rfl, hbn⟩; first | ((with_reducible apply kp_in_step (hb := hbn)); (with_reducible assumption); rintro ⟨hk, hc, hf, hzc, hzf⟩) | ((with_reducible refine kp_in_first hbn ?_); rintro ⟨hk, hc, hf, hzc, hzf⟩)))
    go_ret
    exact ⟨rfl, by (repeat (first | with_reducible exact Below.refl _ _ | with_reducible apply bl_alloc | with_reducible apply bl_drew | with_reducible apply bl_after | (with_reducible refine bl_call ?_ (by assumption))))⟩
  | true =>
    rw [hr] at hR
    replace hR := Lib.hid hR
    have hx : (decide (xl < 0) || decide (xh < 0) || decide (320000 < xl) || decide (320000 < xh)) = true := by
      simp only [Bool.or_eq_true, decide_eq_true_eq]
      rcases hbad with h | h
      · rw [hr] at h; cases h
      · omega
    clear hr hbad
    go_enter Try.func10, Try.ntmps10
    go_upto_region 1 with fail
    go_upto_if 36 with (first | ((go_at_call 42); (with_reducible refine Calls.mono (hR.out _ (by (repeat (first | with_reducible exact Below.refl _ _ | with_reducible apply bl_alloc | with_reducible apply bl_drew | with_reducible apply bl_after | (with_reducible refine bl_call ?_ (by assumption)))))) ?_); rintro e wn ⟨rfl, hbn⟩; first | ((with_reducible apply kp_in_step (hb := hbn)); (with_reducible assumption); rintro ⟨hk, hc, hf, hzc, hzf⟩) | ((with_reducible refine kp_in_first hbn ?_); rintro ⟨hk, hc, hf, hzc, hzf⟩)) | ((go_at_call 14); (with_reducible refine Calls.mono (works_any _) ?_); rintro e wn ⟨rfl, hbn⟩; first | ((with_reducible apply kp_in_step (hb := hbn)); (with_reducible assumption); rintro ⟨hk, hc, hf, hzc, hzf⟩) | ((with_reducible refine kp_in_first hbn ?_); rintro ⟨hk, hc, hf, hzc, hzf⟩)))
    all_goals (go_wp2_with (first | ((go_at_call 14); (with_reducible refine Calls.mono (works_any _) ?_); rintro e wn ⟨rfl, hbn⟩; first | ((with_reducible apply kp_in_step (hb := hbn)); (with_reducible assumption); rintro ⟨hk, hc, hf, hzc, hzf⟩) | ((with_reducible refine kp_in_first hbn ?_); rintro ⟨hk, hc, hf, hzc, hzf⟩))))
    all_goals (go_ret; exact ⟨rfl, by (repeat (first | with_reducible exact Below.refl _ _ | with_reducible apply bl_alloc | with_reducible apply bl_drew | with_reducible apply bl_after | (with_reducible refine bl_call ?_ (by assumption))))⟩)
theorem lawMore_any (A B : Option Addr) (ca cb : Nat) (T : Trk) (m : List Pt) (xl xh : Int) (d : Pt) (w : World) (ha : Pts w A T.pts) (hla : T.pts.length ≤ 9223372036854775807) (hb : Pts w B m) (hlb : m.length ≤ 9223372036854775807) :
    Calls Try.prog 10 #[(Value.agg #[.slice A T.pts.length ca, (Value.int .i64 (T.closed)), (Value.int .i64 (T.lo)), (Value.int .i64 (T.hi))]), .slice B m.length cb, .agg #[(Value.int .i64 (xl)), (Value.int .i64 (xh)), (Value.int .i64 (d.1)), (Value.int .i64 (d.2))]] w fun e w' => e = .returned (.bool true) ∧ Below w.heap.size w w' := by
  by_cases hbad : rdyB T m = false ∨ ¬ ((0 ≤ xl ∧ xl ≤ 320000) ∧ (0 ≤ xh ∧ xh ≤ 320000))
  · exact more_off A B ca cb T m xl xh d w ha hla hb hlb hbad
  · rw [not_or, Bool.not_eq_false, Decidable.not_not] at hbad
    obtain ⟨hT, hm, _⟩ := rdy_parts hbad.1
    obtain ⟨b, o, rfl, hp⟩ := ha.at_ (k := 0) (by have := (trkB_bd hT).1; omega)
    obtain ⟨bm, om, rfl, hq⟩ := hb.at_ (k := 0) (by have := walkB_bd hm; omega)
    exact more_in b o ca bm om cb T m xl xh d w hp hq hbad.1 hbad.2.1 hbad.2.2
section
open Go.ChangeAt
set_option maxRecDepth 100000 in
theorem walksMore_lifted (os : Os) (started : os.Started) (H : Type) (enc : TypeId × Value → H) :
    ReturnsInHanded {} Try.checked os 10 .any (Rows.walksMoreSpec.pre6 enc Try.prog Try.f10 Rows.walksMoreRow.domain false) (Rows.walksMoreSpec.post enc Try.prog Try.f10 false true false false) := by
  refine returnsInHanded_of_change (C := Try.checked) own_knob started (by kernel_rfl) Try.func10
    (ChangeSpec.witness6 (enc := enc) (C := Try.checked) false ⟨#[], #[.agg #[.slice none 0 0, .int .i64 0, .int .i64 0, .int .i64 0], .slice none 0 0, .agg #[.int .i64 0, .int .i64 0, .int .i64 0, .int .i64 0]], []⟩ 8 (by kernel_rfl) (by kernel_rfl) (by kernel_rfl) (by kernel_rfl)) ?_
  intro W base args ds gs before hval0 hW hcnd _
  have hval : ∀ (j : Nat) t v, Try.f10.params[j]? = some t → args[j]? = some v → Value.okWide Try.prog W .any base t v := hval0
  have hW2 := hW
  obtain ⟨p, q, hA0, hV, rfl, hfz, hnd⟩ := hW
  have hA : DataW.TrodAll enc Try.prog W 0 (fun _ => true) true Try.f10.params.toList args.toList ds p := hA0
  rw [Try.params10] at hA hval
  obtain ⟨v0, v1, v2, d0, d1, d2, p0, p1, p2, rfl, rfl, rfl, h0, h1, h2⟩ := trodAll_three hA; obtain ⟨A, ca, T, rfl, hP0, hl0, hT1, hT2, hT3⟩ := open_track (hval 0 _ _ rfl rfl) h0; obtain ⟨B, cb, m, rfl, hP1, hl1⟩ := open_points (okWide_slice undPts (hval 1 _ _ rfl rfl)) h1; obtain ⟨xl, xh, pt, rfl⟩ := open_more (hval 2 _ _ rfl rfl) h2
  obtain ⟨rfl, rfl⟩ := trodVars_none hV
  clear hA0 hval0
  simp only [List.append_nil, List.nil_append] at hW2
  (try simp only [List.append_nil, List.nil_append] at hA)
  refine (lawMore_any A B ca cb T m xl xh pt W hP0 hl0 hP1 hl1).mono fun e W2 ⟨he, hb⟩ => ?_
  subst he
  refine ⟨_, rfl, post_of_below (pa := _) (pv := []) hW2 (fun _ _ _ => trodAll_mk1 (shut_bool und_bool _)) (fun sp hs => args_stay hb (by rw [Try.params10]; intro t ht; simp at ht; (try rcases ht with rfl | rfl | rfl) <;> (try rcases ht with rfl | rfl) <;> (try subst ht) <;> exact ⟨by kernel_rfl, by decide +kernel⟩) (by rw [Try.params10]; exact hA) hs) (fun _ _ => rfl) (by simp) hb (ok_one (by kernel_rfl) rfl (okWide_bool_mk und_bool _))⟩

theorem walksMore_holds : Rows.WalksMoreSaid :=
  OpenClaim.holds_of_wide 10 Try.f10 rfl rfl rfl rfl rfl rfl rfl ⟨rfl, rfl, rfl, rfl, rfl⟩ rfl rfl rfl rfl rfl (by kernel_rfl) Try.func10 (by kernel_rfl)
    (of_decide_eq_true (by kernel_rfl)) (by unfold Func.isWrapper; first | (rw [if_pos (by decide +kernel)]; kernel_rfl) | (rw [if_neg (by decide +kernel)]; exact ⟨rfl, rfl⟩))
    (fun os started H enc _ => walksMore_lifted os started H enc)
end
end Go.Proofs.Ytfgplmgkejeoiaa
