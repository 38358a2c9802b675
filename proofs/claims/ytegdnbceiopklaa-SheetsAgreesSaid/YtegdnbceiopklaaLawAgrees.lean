/- The law SheetsAgrees answers true for any sheet, polygon and deed. -/
import Derived.Test.YtegdnbceiopklaaWk4
import Derived.Test.YtegdnbceiopklaaCp4
import Derived.Test.YtegdnbceiopklaaRi4
import Derived.Test.YtegdnbceiopklaaOpc
import Derived.Test.YtegdnbceiopklaaQsk
import Derived.Test.YtegdnbceiopklaaRows
namespace Go.Proofs.Ytegdnbceiopklaa
open Go.ChangeShapes Go.WideShapes Go.RowKit
attribute [local go_sem] After.cell After.frozen

theorem rowC_cts {w : World} {B n ca : Nat} {A : Option Addr} {l : List Ctl} (h : RowC w B (.slice A n ca) l) : Cts w A l := by
  obtain ⟨A', ca', e, hN⟩ := h.parts4
  simp only [Value.slice.injEq] at e
  obtain ⟨rfl, _, _⟩ := e
  exact hN
set_option maxRecDepth 100000 in
set_option maxHeartbeats 4000000 in
theorem lawAgrees_any (A B : Option Addr) (ca cb : Nat) (S : Sht) (l : List Pt) (a b : Int) (w : World) (ha : Cts w A S.cs) (hla : S.cs.length ≤ 9223372036854775807) (hb : Pts w B l) (hlb : l.length ≤ 9223372036854775807) :
    Calls Try.prog 3 #[(Value.agg #[(Value.int .i64 (S.xlo)), (Value.int .i64 (S.xhi)), (Value.int .i64 (S.ylo)), (Value.int .i64 (S.yhi)), .slice A S.cs.length ca, (Value.int .i64 (S.wrong))]), .slice B l.length cb, .agg #[(Value.int .i64 (a)), (Value.int .i64 (b))]] w fun e w' => e = .returned (.bool true) ∧ Below w.heap.size w w' := by
  have hF := fun (W : World) (h : Below w.heap.size w W) => far4 A ca S W (ha.below h) hla
  have hG := fun (W : World) => Far_any B cb l.length W hlb
  have c1 : Blk ((w.alloc (.cells #[(Value.int .i64 (S.xlo)), (Value.int .i64 (S.xhi)), (Value.int .i64 (S.ylo)), (Value.int .i64 (S.yhi)), .slice A S.cs.length ca, (Value.int .i64 (S.wrong))] 26)).alloc (.cells #[(Value.int .i64 (a)), (Value.int .i64 (b))] 29)) w.heap.size 26 #[(Value.int .i64 (S.xlo)), (Value.int .i64 (S.xhi)), (Value.int .i64 (S.ylo)), (Value.int .i64 (S.yhi)), .slice A S.cs.length ca, (Value.int .i64 (S.wrong))] := (Blk.new _ _ _).alloc _
  have c2 : Blk ((w.alloc (.cells #[(Value.int .i64 (S.xlo)), (Value.int .i64 (S.xhi)), (Value.int .i64 (S.ylo)), (Value.int .i64 (S.yhi)), .slice A S.cs.length ca, (Value.int .i64 (S.wrong))] 26)).alloc (.cells #[(Value.int .i64 (a)), (Value.int .i64 (b))] 29)) (w.heap.size + 1) 29 #[(Value.int .i64 (a)), (Value.int .i64 (b))] := Blk.new_at (by simp)
  have hb0 : Below w.heap.size w ((w.alloc (.cells #[(Value.int .i64 (S.xlo)), (Value.int .i64 (S.xhi)), (Value.int .i64 (S.ylo)), (Value.int .i64 (S.yhi)), .slice A S.cs.length ca, (Value.int .i64 (S.wrong))] 26)).alloc (.cells #[(Value.int .i64 (a)), (Value.int .i64 (b))] 29)) := by (repeat (first | with_reducible exact Below.refl _ _ | with_reducible apply bl_alloc | with_reducible apply bl_drew | with_reducible apply bl_after | (with_reducible refine bl_call ?_ (by assumption))))
  (have la := c1.lt); (have ya0 := c1.cell 0); (have ya1 := c1.cell 1); (have ya2 := c1.cell 2); (have ya3 := c1.cell 3); (have ya4 := c1.cell 4); (have ya5 := c1.cell 5); simp only [List.getElem?_toArray, List.getElem?_cons_zero, List.getElem?_cons_succ] at ya0 ya1 ya2 ya3 ya4 ya5
  (have lb := c2.lt); (have yb0 := c2.cell 0); (have yb1 := c2.cell 1); simp only [List.getElem?_toArray, List.getElem?_cons_zero, List.getElem?_cons_succ] at yb0 yb1
  cases h1 : farB S
  rotate_left
  · rw [h1] at hF
    replace hF := Lib.hid hF
    clear ha hb
    go_enter Try.func3, Try.ntmps3
    go_wp2_with (first | ((go_at_call 11); (with_reducible refine Calls.mono (hF.out _ (by (repeat (first | with_reducible exact Below.refl _ _ | with_reducible apply bl_alloc | with_reducible apply bl_drew | with_reducible apply bl_after | (with_reducible refine bl_call ?_ (by assumption)))))) ?_); rintro e wn ⟨rfl, hbn⟩; first | ((with_reducible apply kp_in_step (hb := hbn)); (with_reducible assumption); rintro ⟨hk, hc, hf, hzc, hzf⟩) | ((with_reducible refine kp_in_first hbn ?_); rintro ⟨hk, hc, hf, hzc, hzf⟩)) | ((go_at_call 13); (with_reducible refine Calls.mono (works4 _) ?_); rintro e w9 ⟨rfl, hb9⟩; first | ((with_reducible apply kp_in_step (hb := hb9)); (with_reducible assumption); rintro ⟨hk, hc, hf, hzc, hzf⟩) | ((with_reducible refine kp_in_first hb9 ?_); rintro ⟨hk, hc, hf, hzc, hzf⟩)))
    go_ret
    exact ⟨rfl, by (repeat (first | with_reducible exact Below.refl _ _ | with_reducible apply bl_alloc | with_reducible apply bl_drew | with_reducible apply bl_after | (with_reducible refine bl_call ?_ (by assumption))))⟩
  by_cases h2 : 40 < l.length
  · rw [h1] at hF
    rw [decide_eq_true h2] at hG
    replace hF := Lib.hid hF
    replace hG := Lib.hid hG
    clear ha hb
    go_enter Try.func3, Try.ntmps3
    go_wp2_with (first | ((go_at_call 11); (with_reducible refine Calls.mono (hF.out _ (by (repeat (first | with_reducible exact Below.refl _ _ | with_reducible apply bl_alloc | with_reducible apply bl_drew | with_reducible apply bl_after | (with_reducible refine bl_call ?_ (by assumption)))))) ?_); rintro e wn ⟨rfl, hbn⟩; first | ((with_reducible apply kp_in_step (hb := hbn)); (with_reducible assumption); rintro ⟨hk, hc, hf, hzc, hzf⟩) | ((with_reducible refine kp_in_first hbn ?_); rintro ⟨hk, hc, hf, hzc, hzf⟩)) | (go_at_call 12; with_reducible refine Calls.mono (hG.out _) ?_; rintro e w' ⟨rfl, rfl⟩) | ((go_at_call 13); (with_reducible refine Calls.mono (works4 _) ?_); rintro e w9 ⟨rfl, hb9⟩; first | ((with_reducible apply kp_in_step (hb := hb9)); (with_reducible assumption); rintro ⟨hk, hc, hf, hzc, hzf⟩) | ((with_reducible refine kp_in_first hb9 ?_); rintro ⟨hk, hc, hf, hzc, hzf⟩)))
    go_ret
    exact ⟨rfl, by (repeat (first | with_reducible exact Below.refl _ _ | with_reducible apply bl_alloc | with_reducible apply bl_drew | with_reducible apply bl_after | (with_reducible refine bl_call ?_ (by assumption))))⟩
  have hl8 : S.cs.length ≤ 40 := by
    simp only [farB, Bool.or_eq_false_iff, decide_eq_false_iff_not] at h1
    omega
  rw [h1] at hF
  rw [decide_eq_false h2] at hG
  replace hF := Lib.hid hF
  replace hG := Lib.hid hG
  have hlb2 : l.length ≤ 40 := by omega
  clear hla hlb h1 h2
  go_enter Try.func3, Try.ntmps3
  go_upto_region 3 with (first | ((go_at_call 11); (with_reducible refine Calls.mono (hF.out _ (by (repeat (first | with_reducible exact Below.refl _ _ | with_reducible apply bl_alloc | with_reducible apply bl_drew | with_reducible apply bl_after | (with_reducible refine bl_call ?_ (by assumption)))))) ?_); rintro e wn ⟨rfl, hbn⟩; first | ((with_reducible apply kp_in_step (hb := hbn)); (with_reducible assumption); rintro ⟨hk, hc, hf, hzc, hzf⟩) | ((with_reducible refine kp_in_first hbn ?_); rintro ⟨hk, hc, hf, hzc, hzf⟩)) | (go_at_call 12; with_reducible refine Calls.mono (hG.out _) ?_; rintro e w' ⟨rfl, rfl⟩))
  have hWn : Below (((w.alloc (.cells #[(Value.int .i64 (S.xlo)), (Value.int .i64 (S.xhi)), (Value.int .i64 (S.ylo)), (Value.int .i64 (S.yhi)), .slice A S.cs.length ca, (Value.int .i64 (S.wrong))] 26)).alloc (.cells #[(Value.int .i64 (a)), (Value.int .i64 (b))] 29))).heap.size ((w.alloc (.cells #[(Value.int .i64 (S.xlo)), (Value.int .i64 (S.xhi)), (Value.int .i64 (S.ylo)), (Value.int .i64 (S.yhi)), .slice A S.cs.length ca, (Value.int .i64 (S.wrong))] 26)).alloc (.cells #[(Value.int .i64 (a)), (Value.int .i64 (b))] 29)) wn := by (repeat (first | with_reducible exact Below.refl _ _ | with_reducible apply bl_alloc | with_reducible apply bl_drew | with_reducible apply bl_after | (with_reducible refine bl_call ?_ (by assumption))))
  have e1 := c1.below hWn
  have e2 := c2.below hWn
  have hbV := bl_call hb0 hWn
  have hA := ha.below hbV
  have hB := hb.below hbV
  clear la ya0 ya1 ya2 ya3 ya4 ya5 lb yb0 yb1 c1 c2 hb0 hWn hbn ha hb hF hG
  ((try clear hk hc hf hzc hzf); (try clear hk hc hf hzc hzf); (try clear hk hc hf hzc hzf); (try clear hk hc hf hzc hzf))
  (have la := e1.lt); (have ya0 := e1.cell 0); (have ya1 := e1.cell 1); (have ya2 := e1.cell 2); (have ya3 := e1.cell 3); (have ya4 := e1.cell 4); (have ya5 := e1.cell 5); simp only [List.getElem?_toArray, List.getElem?_cons_zero, List.getElem?_cons_succ] at ya0 ya1 ya2 ya3 ya4 ya5
  (have lb := e2.lt); (have yb0 := e2.cell 0); (have yb1 := e2.cell 1); simp only [List.getElem?_toArray, List.getElem?_cons_zero, List.getElem?_cons_succ] at yb0 yb1
  refine wp_region_CN (fun w' => ∃ z : After wn, w' = z.val) (by kernel_rfl) ?_
  change wpAnyC _ _ _ _ _ _ _ (World.drew wn)
  have hd0 : Below wn.heap.size wn wn.drew := bl_drew (Below.refl _ _)
  refine wpAnyC_take (i := 0) (v := ?v0u) rfl (by kernel_rfl) (by kernel_rfl) (by kernel_rfl) ?q0u rfl ?y0u ?r0u; (case q0u => exact fun _ _ _ h => h); (case y0u => ((rintro _ ⟨z, rfl⟩); (go_simp); (try with_reducible rfl))); simp only [Act.put, List.getElem_toArray, List.getElem_cons_succ, List.getElem_cons_zero, List.setIfInBounds_toArray, List.set_cons_succ, List.set_cons_zero]
  refine wpAnyC_take (i := 2) (v := ?v2u) rfl (by kernel_rfl) (by kernel_rfl) (by kernel_rfl) ?q2u rfl ?y2u ?r2u; (case q2u => exact fun _ _ _ h => h); (case y2u => ((rintro _ ⟨z, rfl⟩); (go_simp); (try with_reducible rfl))); simp only [Act.put, List.getElem_toArray, List.getElem_cons_succ, List.getElem_cons_zero, List.setIfInBounds_toArray, List.set_cons_succ, List.set_cons_zero]
  refine wpAnyC_take (i := 4) (v := ?v4u) rfl (by kernel_rfl) (by kernel_rfl) (by kernel_rfl) ?q4u rfl ?y4u ?r4u; (case q4u => exact fun _ _ _ h => h); (case y4u => ((rintro _ ⟨z, rfl⟩); (go_simp); (try with_reducible rfl))); simp only [Act.put, List.getElem_toArray, List.getElem_cons_succ, List.getElem_cons_zero, List.setIfInBounds_toArray, List.set_cons_succ, List.set_cons_zero]
  refine wpAnyC_take (i := 5) (v := ?v5u) rfl (by kernel_rfl) (by kernel_rfl) (by kernel_rfl) ?q5u rfl ?y5u ?r5u; (case q5u => exact fun _ _ _ h => h); (case y5u => ((rintro _ ⟨z, rfl⟩); (go_simp); (try with_reducible rfl))); simp only [Act.put, List.getElem_toArray, List.getElem_cons_succ, List.getElem_cons_zero, List.setIfInBounds_toArray, List.set_cons_succ, List.set_cons_zero]
  refine wpAnyC_take (i := 6) (v := ?v6u) rfl (by kernel_rfl) (by kernel_rfl) (by kernel_rfl) ?q6u rfl ?y6u ?r6u; (case q6u => exact fun _ _ _ h => h); (case y6u => ((rintro _ ⟨z, rfl⟩); (go_simp); (try with_reducible rfl))); simp only [Act.put, List.getElem_toArray, List.getElem_cons_succ, List.getElem_cons_zero, List.setIfInBounds_toArray, List.set_cons_succ, List.set_cons_zero]
  refine wpAnyC_take (i := 7) (v := ?v7u) rfl (by kernel_rfl) (by kernel_rfl) (by kernel_rfl) ?q7u rfl ?y7u ?r7u; (case q7u => exact fun _ _ _ h => h); (case y7u => ((rintro _ ⟨z, rfl⟩); (go_simp); (try with_reducible rfl))); simp only [Act.put, List.getElem_toArray, List.getElem_cons_succ, List.getElem_cons_zero, List.setIfInBounds_toArray, List.set_cons_succ, List.set_cons_zero]
  refine wpAnyC_one (i := 1) (by kernel_rfl) rfl ⟨⟨_, hd0⟩, rfl⟩ rfl (fun K hK => ?_)
  go_simp
  go_at_call 15
  (with_reducible refine Calls.mono (rCopy4 A ca S _ (hA.below hd0) (by omega)) ?_)
  rintro e3 w3 ⟨⟨A3, ca3, rfl, hC3⟩, hb3⟩
  refine hK _ _ ?_
  clear hK K
  have hd3 := hd0.trans (hb3.mono hd0.size)
  refine wpAnyC_one (i := 3) (by kernel_rfl) rfl ⟨⟨_, hd3⟩, rfl⟩ rfl (fun K hK => ?_)
  go_simp
  go_at_call 16
  (with_reducible refine Calls.mono (rCopy_any B cb l _ (hB.below hd3) (by omega)) ?_)
  rintro e4 w4 ⟨⟨A4, ca4, rfl, hC4⟩, hb4⟩
  refine hK _ _ ?_
  clear hK K
  have hd4 := hd3.trans (hb4.mono hd3.size)
  have hC3' := (rowC_cts hC3).below hb4
  refine wpAnyC_one (i := 8) (by kernel_rfl) rfl ⟨⟨_, hd4⟩, rfl⟩ rfl (fun K hK => ?_)
  go_simp
  go_at_call 14
  (with_reducible refine Calls.mono (Agrees_any A3 A4 ca3 ca4 S l a b _ hC3' hC4 (by omega)) ?_)
  rintro e5 w5 ⟨rfl, hb5⟩
  refine hK _ _ ?_
  clear hK K
  have hd5 := hd4.trans (hb5.mono hd4.size)
  refine wpAnyC_take (i := 9) (v := ?v9u) rfl (by kernel_rfl) (by kernel_rfl) (by kernel_rfl) ?q9u rfl ?y9u ?r9u; (case q9u => exact fun _ _ _ h => h); (case y9u => ((rintro _ ⟨z, rfl⟩); (go_simp); (try with_reducible rfl))); simp only [Act.put, List.getElem_toArray, List.getElem_cons_succ, List.getElem_cons_zero, List.setIfInBounds_toArray, List.set_cons_succ, List.set_cons_zero]
  refine wpAnyC_take (i := 10) (v := ?v10u) rfl (by kernel_rfl) (by kernel_rfl) (by kernel_rfl) ?q10u rfl ?y10u ?r10u; (case q10u => exact fun _ _ _ h => h); (case y10u => ((rintro _ ⟨z, rfl⟩); (go_simp); (try with_reducible rfl))); simp only [Act.put, List.getElem_toArray, List.getElem_cons_succ, List.getElem_cons_zero, List.setIfInBounds_toArray, List.set_cons_succ, List.set_cons_zero]
  refine wpAnyC_take (i := 11) (v := ?v11u) rfl (by kernel_rfl) (by kernel_rfl) (by kernel_rfl) ?q11u rfl ?y11u ?r11u; (case q11u => exact fun _ _ _ h => h); (case y11u => ((rintro _ ⟨z, rfl⟩); (go_simp); (try with_reducible rfl))); simp only [Act.put, List.getElem_toArray, List.getElem_cons_succ, List.getElem_cons_zero, List.setIfInBounds_toArray, List.set_cons_succ, List.set_cons_zero]
  refine wpAnyC_take (i := 12) (v := ?v12u) rfl (by kernel_rfl) (by kernel_rfl) (by kernel_rfl) ?q12u rfl ?y12u ?r12u; (case q12u => exact fun _ _ _ h => h); (case y12u => ((rintro _ ⟨z, rfl⟩); (go_simp); (try with_reducible rfl))); simp only [Act.put, List.getElem_toArray, List.getElem_cons_succ, List.getElem_cons_zero, List.setIfInBounds_toArray, List.set_cons_succ, List.set_cons_zero]
  refine wpAnyC_take (i := 13) (v := ?v13u) rfl (by kernel_rfl) (by kernel_rfl) (by kernel_rfl) ?q13u rfl ?y13u ?r13u; (case q13u => exact fun _ _ _ h => h); (case y13u => ((rintro _ ⟨z, rfl⟩); (go_simp); (try with_reducible rfl))); simp only [Act.put, List.getElem_toArray, List.getElem_cons_succ, List.getElem_cons_zero, List.setIfInBounds_toArray, List.set_cons_succ, List.set_cons_zero]
  refine wpAnyC_doneN (by kernel_rfl) ⟨⟨_, hd5⟩, rfl⟩ ?_ _
  have f1 := e1.below hd5
  have f2 := e2.below hd5
  have hbX := bl_call hbV hd5
  have hA5 := hA.below hd5
  have hB5 := hB.below hd5
  clear la ya0 ya1 ya2 ya3 ya4 ya5 lb yb0 yb1 e1 e2 hd0 hd3 hd4 hd5 hb3 hb4 hb5 hC3 hC4 hC3' hA hB hbV
  (have la := f1.lt); (have ya0 := f1.cell 0); (have ya1 := f1.cell 1); (have ya2 := f1.cell 2); (have ya3 := f1.cell 3); (have ya4 := f1.cell 4); (have ya5 := f1.cell 5); simp only [List.getElem?_toArray, List.getElem?_cons_zero, List.getElem?_cons_succ] at ya0 ya1 ya2 ya3 ya4 ya5
  (have lb := f2.lt); (have yb0 := f2.cell 0); (have yb1 := f2.cell 1); simp only [List.getElem?_toArray, List.getElem?_cons_zero, List.getElem?_cons_succ] at yb0 yb1
  have hrA := Lib.hid (rAgrees4 A B ca cb S l a b w5 hA5 hB5 (by omega))
  go_wp2_with (first | ((go_at_call 17); (with_reducible refine Calls.mono hrA.out ?_); rintro e6 w6 ⟨rfl, hb6⟩; (have hbY := bl_call hbX hb6)) | ((go_at_call 13); (with_reducible refine Calls.mono (works4 _) ?_); rintro e w9 ⟨rfl, hb9⟩; (have hbZ := bl_call hbY hb9)))
  go_ret
  exact ⟨rfl, hbZ⟩

section
open Go.ChangeAt
set_option maxRecDepth 100000 in
theorem sheetsAgrees_lifted (os : Os) (started : os.Started) (H : Type) (enc : TypeId × Value → H) :
    ReturnsInHanded {} Try.checked os 3 .any (Rows.sheetsAgreesSpec.pre6 enc Try.prog Try.f3 Rows.sheetsAgreesRow.domain false) (Rows.sheetsAgreesSpec.post enc Try.prog Try.f3 false true false false) := by
  refine returnsInHanded_of_change (C := Try.checked) own_knob started (by kernel_rfl) Try.func3
    (ChangeSpec.witness6 (enc := enc) (C := Try.checked) false ⟨#[], #[.agg #[.int .i64 0, .int .i64 0, .int .i64 0, .int .i64 0, .slice none 0 0, .int .i64 0], .slice none 0 0, .agg #[.int .i64 0, .int .i64 0]], []⟩ 8 (by kernel_rfl) (by kernel_rfl) (by kernel_rfl) (by kernel_rfl)) ?_
  intro W base args ds gs before hval0 hW hcnd _
  have hval : ∀ (j : Nat) t v, Try.f3.params[j]? = some t → args[j]? = some v → Value.okWide Try.prog W .any base t v := hval0
  have hW2 := hW
  obtain ⟨p, q, hA0, hV, rfl, hfz, hnd⟩ := hW
  have hA : DataW.TrodAll enc Try.prog W 0 (fun _ => true) true Try.f3.params.toList args.toList ds p := hA0
  rw [Try.params3] at hA hval
  obtain ⟨v0, v1, v2, d0, d1, d2, p0, p1, p2, rfl, rfl, rfl, h0, h1, h2⟩ := trodAll_three hA; obtain ⟨A, ca, S, rfl, hP0, hl0, hT1, hT2, hT3, hT4, hT5⟩ := open_sheet (hval 0 _ _ rfl rfl) h0; obtain ⟨B, cb, l, rfl, hP1, hl1⟩ := open_points (okWide_slice undPts (hval 1 _ _ rfl rfl)) h1; obtain ⟨xa, xb, rfl, hq1, hq2⟩ := open_deed (hval 2 _ _ rfl rfl) h2
  obtain ⟨rfl, rfl⟩ := trodVars_none hV
  clear hA0 hval0
  simp only [List.append_nil, List.nil_append] at hW2
  (try simp only [List.append_nil, List.nil_append] at hA)
  refine (lawAgrees_any A B ca cb S l xa xb W hP0 hl0 hP1 hl1).mono fun e W2 ⟨he, hb⟩ => ?_
  subst he
  refine ⟨_, rfl, post_of_below (pa := _) (pv := []) hW2 (fun _ _ _ => trodAll_mk1 (shut_bool und_bool _)) (fun sp hs => args_stay hb (by rw [Try.params3]; intro t ht; simp at ht; (try rcases ht with rfl | rfl | rfl) <;> (try rcases ht with rfl | rfl) <;> (try subst ht) <;> exact ⟨by kernel_rfl, by decide +kernel⟩) (by rw [Try.params3]; exact hA) hs) (fun _ _ => rfl) (by simp) hb (ok_one (by kernel_rfl) rfl (okWide_bool_mk und_bool _))⟩

theorem sheetsAgrees_holds : Rows.SheetsAgreesSaid :=
  OpenClaim.holds_of_wide 3 Try.f3 rfl rfl rfl rfl rfl rfl rfl ⟨rfl, rfl, rfl, rfl, rfl⟩ rfl rfl rfl rfl rfl (by kernel_rfl) Try.func3 (by kernel_rfl)
    (of_decide_eq_true (by kernel_rfl)) (by unfold Func.isWrapper; first | (rw [if_pos (by decide +kernel)]; kernel_rfl) | (rw [if_neg (by decide +kernel)]; exact ⟨rfl, rfl⟩))
    (fun os started H enc _ => sheetsAgrees_lifted os started H enc)
end
end Go.Proofs.Ytegdnbceiopklaa
