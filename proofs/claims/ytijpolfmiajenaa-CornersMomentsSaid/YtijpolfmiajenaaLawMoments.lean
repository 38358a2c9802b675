/- The law CornersMoments answers true for any corners, and leaves them as they were. -/
import Derived.Test.YtijpolfmiajenaaRefMom
import Derived.Test.YtijpolfmiajenaaOpen
import Derived.Test.YtijpolfmiajenaaRows
namespace Go.Proofs.Ytijpolfmiajenaa
open Go.ChangeShapes Go.WideShapes Go.RowKit
attribute [local go_sem] After.cell After.frozen

theorem run_eqIn_rat (d : Nat) (a b : Pt) (w : World) : (Op.equalIn (d + 2) 40 (Value.agg #[.int .i64 a.1, .int .i64 a.2]) (Value.agg #[.int .i64 b.1, .int .i64 b.2])).run Try.prog w = .ok (decide (a = b)) w := by
  obtain ⟨a1, a2⟩ := a
  obtain ⟨b1, b2⟩ := b
  rw [run_equalIn_struct w (d + 1) _ _ _ (by kernel_rfl) (by kernel_rfl)]
  by_cases h1 : a1 = b1 <;> by_cases h2 : a2 = b2 <;> simp [go_sem, h1, h2]
theorem run_eql_rat (a b : Pt) (w : World) : (binOp .eql 40 (Value.agg #[.int .i64 a.1, .int .i64 a.2]) (Value.agg #[.int .i64 b.1, .int .i64 b.2])).run Try.prog w = .ok (.bool (decide (a = b))) w := by
  rw [run_eql_struct, show (10000 : Nat) = 9998 + 2 from rfl, run_eqIn_rat]; rfl
attribute [local go_sem high] run_eql_rat

set_option maxRecDepth 100000 in
set_option maxHeartbeats 4000000 in
theorem lawMoments_any (A : Option Addr) (ca : Nat) (l : List Pt) (w : World) (ha : Pts w A l) (hla : l.length ≤ 9223372036854775807) :
    Calls Try.prog 10 #[.slice A l.length ca] w fun e w' => e = .returned (.bool true) ∧ Below w.heap.size w w' := by
  by_cases hfar : 40 < l.length
  · go_enter Try.func10, Try.ntmps10
    go_wp2_with (first | (go_at_call 20; with_reducible refine Calls.mono (Far_any _ _ _ _ hla) ?_; rintro e w' ⟨rfl, rfl⟩) | ((go_at_call 15); (with_reducible refine Calls.mono (works_any _) ?_); rintro e w1 ⟨rfl, hb1⟩))
    go_ret
    exact ⟨rfl, by (repeat (first | with_reducible exact Below.refl _ _ | with_reducible apply bl_alloc | with_reducible apply bl_drew | with_reducible apply bl_after | (with_reducible refine bl_call ?_ (by assumption))))⟩
  · have hl6 : l.length ≤ 1000000 := by omega
    go_enter Try.func10, Try.ntmps10
    go_upto_region 9 with (first | (go_at_call 20; with_reducible refine Calls.mono (Far_any _ _ _ _ hla) ?_; rintro e w' ⟨rfl, rfl⟩) | (go_at_call 21; (with_reducible refine Calls.mono (rCopy_any A ca l _ (ha.below (by (repeat (first | with_reducible exact Below.refl _ _ | with_reducible apply bl_alloc | with_reducible apply bl_drew | with_reducible apply bl_after | (with_reducible refine bl_call ?_ (by assumption)))))) (by omega)) ?_); rintro e w1 ⟨⟨A1, ca1, rfl, hP⟩, hb1⟩; first | ((with_reducible apply kp_in_step (hb := hb1)); (with_reducible assumption); rintro ⟨hk, hc, hf, hzc, hzf⟩) | ((with_reducible refine kp_in_first hb1 ?_); rintro ⟨hk, hc, hf, hzc, hzf⟩)) | (go_at_call 34; with_reducible refine Calls.mono (First_pts _ _ _ _ (hP.below (by (repeat (first | with_reducible exact Below.refl _ _ | with_reducible apply bl_alloc | with_reducible apply bl_drew | with_reducible apply bl_after | (with_reducible refine bl_call ?_ (by assumption)))))) hl6) ?_; rintro e w1 ⟨rfl, hb1⟩; first | ((with_reducible apply kp_in_step (hb := hb1)); (with_reducible assumption); rintro ⟨hk, hc, hf, hzc, hzf⟩) | ((with_reducible refine kp_in_first hb1 ?_); rintro ⟨hk, hc, hf, hzc, hzf⟩)) | (go_at_call 35; with_reducible refine Calls.mono (rFirst_pts _ _ _ _ (ha.below (by (repeat (first | with_reducible exact Below.refl _ _ | with_reducible apply bl_alloc | with_reducible apply bl_drew | with_reducible apply bl_after | (with_reducible refine bl_call ?_ (by assumption)))))) hl6) ?_; rintro e w1 ⟨rfl, hb1⟩; first | ((with_reducible apply kp_in_step (hb := hb1)); (with_reducible assumption); rintro ⟨hk, hc, hf, hzc, hzf⟩) | ((with_reducible refine kp_in_first hb1 ?_); rintro ⟨hk, hc, hf, hzc, hzf⟩)) | (go_at_call 36; with_reducible refine Calls.mono (Second_pts _ _ _ _ (hP.below (by (repeat (first | with_reducible exact Below.refl _ _ | with_reducible apply bl_alloc | with_reducible apply bl_drew | with_reducible apply bl_after | (with_reducible refine bl_call ?_ (by assumption)))))) hl6) ?_; rintro e w1 ⟨rfl, hb1⟩; first | ((with_reducible apply kp_in_step (hb := hb1)); (with_reducible assumption); rintro ⟨hk, hc, hf, hzc, hzf⟩) | ((with_reducible refine kp_in_first hb1 ?_); rintro ⟨hk, hc, hf, hzc, hzf⟩)) | (go_at_call 37; with_reducible refine Calls.mono (rSecond_pts _ _ _ _ (ha.below (by (repeat (first | with_reducible exact Below.refl _ _ | with_reducible apply bl_alloc | with_reducible apply bl_drew | with_reducible apply bl_after | (with_reducible refine bl_call ?_ (by assumption)))))) hl6) ?_; rintro e w1 ⟨rfl, hb1⟩; first | ((with_reducible apply kp_in_step (hb := hb1)); (with_reducible assumption); rintro ⟨hk, hc, hf, hzc, hzf⟩) | ((with_reducible refine kp_in_first hb1 ?_); rintro ⟨hk, hc, hf, hzc, hzf⟩)) | (go_at_call 38; with_reducible refine Calls.mono (Centre_pts _ _ _ _ (hP.below (by (repeat (first | with_reducible exact Below.refl _ _ | with_reducible apply bl_alloc | with_reducible apply bl_drew | with_reducible apply bl_after | (with_reducible refine bl_call ?_ (by assumption)))))) hl6) ?_; rintro e w1 ⟨rfl, hb1⟩; first | ((with_reducible apply kp_in_step (hb := hb1)); (with_reducible assumption); rintro ⟨hk, hc, hf, hzc, hzf⟩) | ((with_reducible refine kp_in_first hb1 ?_); rintro ⟨hk, hc, hf, hzc, hzf⟩)))
    have c18 : Blk ((w1.alloc (.cells #[(Value.int .i64 ((okP l (cenX l)).1)), (Value.int .i64 ((okP l (cenX l)).2))] 40)).alloc (.cells #[(Value.int .i64 ((okP l (cenY l)).1)), (Value.int .i64 ((okP l (cenY l)).2))] 40)) w1.heap.size 40 #[(Value.int .i64 ((okP l (cenX l)).1)), (Value.int .i64 ((okP l (cenX l)).2))] := (Blk.new _ _ _).alloc _
    have c19 : Blk ((w1.alloc (.cells #[(Value.int .i64 ((okP l (cenX l)).1)), (Value.int .i64 ((okP l (cenX l)).2))] 40)).alloc (.cells #[(Value.int .i64 ((okP l (cenY l)).1)), (Value.int .i64 ((okP l (cenY l)).2))] 40)) (w1.heap.size + 1) 40 #[(Value.int .i64 ((okP l (cenY l)).1)), (Value.int .i64 ((okP l (cenY l)).2))] := by
      have h := Blk.new (w1.alloc (.cells #[(Value.int .i64 ((okP l (cenX l)).1)), (Value.int .i64 ((okP l (cenX l)).2))] 40)) 40 #[(Value.int .i64 ((okP l (cenY l)).1)), (Value.int .i64 ((okP l (cenY l)).2))]
      simpa using h
    have hbA : Below w.heap.size w ((w1.alloc (.cells #[(Value.int .i64 ((okP l (cenX l)).1)), (Value.int .i64 ((okP l (cenX l)).2))] 40)).alloc (.cells #[(Value.int .i64 ((okP l (cenY l)).1)), (Value.int .i64 ((okP l (cenY l)).2))] 40)) := by (repeat (first | with_reducible exact Below.refl _ _ | with_reducible apply bl_alloc | with_reducible apply bl_drew | with_reducible apply bl_after | (with_reducible refine bl_call ?_ (by assumption))))
    have hP2 : Pts ((w1.alloc (.cells #[(Value.int .i64 ((okP l (cenX l)).1)), (Value.int .i64 ((okP l (cenX l)).2))] 40)).alloc (.cells #[(Value.int .i64 ((okP l (cenY l)).1)), (Value.int .i64 ((okP l (cenY l)).2))] 40)) A1 l := hP.below (by (repeat (first | with_reducible exact Below.refl _ _ | with_reducible apply bl_alloc | with_reducible apply bl_drew | with_reducible apply bl_after | (with_reducible refine bl_call ?_ (by assumption)))))
    have ha2 := ha.below hbA
    clear hP
    clear hk hc hf hzc hzf hb1
    clear hk hc hf hzc hzf hb1
    clear hk hc hf hzc hzf hb1
    clear hk hc hf hzc hzf hb1
    clear hk hc hf hzc hzf hb1
    clear hk hc hf hzc hzf hb1
    generalize (w1.alloc (.cells #[(Value.int .i64 ((okP l (cenX l)).1)), (Value.int .i64 ((okP l (cenX l)).2))] 40)).alloc (.cells #[(Value.int .i64 ((okP l (cenY l)).1)), (Value.int .i64 ((okP l (cenY l)).2))] 40) = W1 at c18 c19 hbA hP2 ha2 ⊢
    generalize w1.heap.size = g18 at c18 c19 ⊢
    go_upto_region 10 with (go_at_call 39; with_reducible refine Calls.mono (rCentre_pts _ _ _ _ ha2 hl6) ?_; rintro e w1 ⟨rfl, hb1⟩; first | ((with_reducible apply kp_in_step (hb := hb1)); (with_reducible assumption); rintro ⟨hk, hc, hf, hzc, hzf⟩) | ((with_reducible refine kp_in_first hb1 ?_); rintro ⟨hk, hc, hf, hzc, hzf⟩))
    have c21 : Blk ((w1.alloc (.cells #[(Value.int .i64 ((okP l (cenX l)).1)), (Value.int .i64 ((okP l (cenX l)).2))] 40)).alloc (.cells #[(Value.int .i64 ((okP l (cenY l)).1)), (Value.int .i64 ((okP l (cenY l)).2))] 40)) w1.heap.size 40 #[(Value.int .i64 ((okP l (cenX l)).1)), (Value.int .i64 ((okP l (cenX l)).2))] := (Blk.new _ _ _).alloc _
    have c22 : Blk ((w1.alloc (.cells #[(Value.int .i64 ((okP l (cenX l)).1)), (Value.int .i64 ((okP l (cenX l)).2))] 40)).alloc (.cells #[(Value.int .i64 ((okP l (cenY l)).1)), (Value.int .i64 ((okP l (cenY l)).2))] 40)) (w1.heap.size + 1) 40 #[(Value.int .i64 ((okP l (cenY l)).1)), (Value.int .i64 ((okP l (cenY l)).2))] := by
      have h := Blk.new (w1.alloc (.cells #[(Value.int .i64 ((okP l (cenX l)).1)), (Value.int .i64 ((okP l (cenX l)).2))] 40)) 40 #[(Value.int .i64 ((okP l (cenY l)).1)), (Value.int .i64 ((okP l (cenY l)).2))]
      simpa using h
    replace c18 := ((c18.below hb1).alloc (.cells #[(Value.int .i64 ((okP l (cenX l)).1)), (Value.int .i64 ((okP l (cenX l)).2))] 40)).alloc (.cells #[(Value.int .i64 ((okP l (cenY l)).1)), (Value.int .i64 ((okP l (cenY l)).2))] 40)
    replace c19 := ((c19.below hb1).alloc (.cells #[(Value.int .i64 ((okP l (cenX l)).1)), (Value.int .i64 ((okP l (cenX l)).2))] 40)).alloc (.cells #[(Value.int .i64 ((okP l (cenY l)).1)), (Value.int .i64 ((okP l (cenY l)).2))] 40)
    have hbB := bl_alloc (o := .cells #[(Value.int .i64 ((okP l (cenY l)).1)), (Value.int .i64 ((okP l (cenY l)).2))] 40) (bl_alloc (o := .cells #[(Value.int .i64 ((okP l (cenX l)).1)), (Value.int .i64 ((okP l (cenX l)).2))] 40) (bl_call hbA hb1))
    have hP3 := ((hP2.below hb1).alloc (.cells #[(Value.int .i64 ((okP l (cenX l)).1)), (Value.int .i64 ((okP l (cenX l)).2))] 40)).alloc (.cells #[(Value.int .i64 ((okP l (cenY l)).1)), (Value.int .i64 ((okP l (cenY l)).2))] 40)
    have ha3 := ha.below hbB
    clear hP2 ha2
    clear hk hc hf hzc hzf hb1
    generalize (w1.alloc (.cells #[(Value.int .i64 ((okP l (cenX l)).1)), (Value.int .i64 ((okP l (cenX l)).2))] 40)).alloc (.cells #[(Value.int .i64 ((okP l (cenY l)).1)), (Value.int .i64 ((okP l (cenY l)).2))] 40) = W2 at c18 c19 c21 c22 hbB hP3 ha3 ⊢
    generalize w1.heap.size = g21 at c21 c22 ⊢
    have l18 := c18.lt
    have l19 := c19.lt
    have l21 := c21.lt
    have l22 := c22.lt
    have x0 := c18.cell 0
    have x1 := c18.cell 1
    have x2 := c19.cell 0
    have x3 := c19.cell 1
    have x4 := c21.cell 0
    have x5 := c21.cell 1
    have x6 := c22.cell 0
    have x7 := c22.cell 1
    simp only [List.getElem?_toArray, List.getElem?_cons_zero, List.getElem?_cons_succ] at x0 x1 x2 x3 x4 x5 x6 x7
    go_wp2_with (first | (go_at_call 27; with_reducible refine Calls.mono (Same_any _ _ _ _ _ _ _ (hP3.below (by (repeat (first | with_reducible exact Below.refl _ _ | with_reducible apply bl_alloc | with_reducible apply bl_drew | with_reducible apply bl_after | (with_reducible refine bl_call ?_ (by assumption)))))) (ha3.below (by (repeat (first | with_reducible exact Below.refl _ _ | with_reducible apply bl_alloc | with_reducible apply bl_drew | with_reducible apply bl_after | (with_reducible refine bl_call ?_ (by assumption)))))) hl6 hl6) ?_; rintro e w1 ⟨rfl, hb1⟩; first | ((with_reducible apply kp_in_step (hb := hb1)); (with_reducible assumption); rintro ⟨hk, hc, hf, hzc, hzf⟩) | ((with_reducible refine kp_in_first hb1 ?_); rintro ⟨hk, hc, hf, hzc, hzf⟩)) | (go_at_call 15; with_reducible refine Calls.mono (works_any _) ?_; rintro e w1 ⟨rfl, hb1⟩; first | ((with_reducible apply kp_in_step (hb := hb1)); (with_reducible assumption); rintro ⟨hk, hc, hf, hzc, hzf⟩) | ((with_reducible refine kp_in_first hb1 ?_); rintro ⟨hk, hc, hf, hzc, hzf⟩)))
    go_ret
    exact ⟨rfl, by (repeat (first | with_reducible assumption | with_reducible exact Below.refl _ _ | with_reducible apply bl_alloc | with_reducible apply bl_drew | with_reducible apply bl_after | (with_reducible refine bl_call ?_ (by assumption)) | (with_reducible refine bl_setc ?_ (by omega))))⟩
section
open Go.ChangeAt
set_option maxRecDepth 100000 in
theorem cornersMoments_lifted (os : Os) (started : os.Started) (H : Type) (enc : TypeId × Value → H) :
    ReturnsInHanded {} Try.checked os 10 .any (Rows.cornersMomentsSpec.pre6 enc Try.prog Try.f10 Rows.cornersMomentsRow.domain false) (Rows.cornersMomentsSpec.post enc Try.prog Try.f10 false true false false) := by
  refine returnsInHanded_of_change (C := Try.checked) own_knob started (by kernel_rfl) Try.func10
    (ChangeSpec.witness6 (enc := enc) (C := Try.checked) false ⟨#[], #[.slice none 0 0], []⟩ 8 (by kernel_rfl) (by kernel_rfl) (by kernel_rfl) (by kernel_rfl)) ?_
  intro W base args ds gs before hval0 hW hcnd _
  have hval : ∀ (j : Nat) t v, Try.f10.params[j]? = some t → args[j]? = some v → Value.okWide Try.prog W .any base t v := hval0
  have hW2 := hW
  obtain ⟨p, q, hA0, hV, rfl, hfz, hnd⟩ := hW
  have hA : DataW.TrodAll enc Try.prog W 0 (fun _ => true) true Try.f10.params.toList args.toList ds p := hA0
  rw [Try.params10] at hA hval
  obtain ⟨v0, d0, rfl, rfl, h0⟩ := trodAll_one hA
  obtain ⟨rfl, rfl⟩ := trodVars_none hV
  obtain ⟨A, ca, l, rfl, hP, hl⟩ := open_points (okWide_slice undPts (hval 0 _ _ rfl rfl)) h0
  clear hA0 hval0
  simp only [List.append_nil, List.nil_append] at hW2
  (try simp only [List.append_nil, List.nil_append] at hA)
  refine (lawMoments_any A ca l W hP hl).mono fun e W2 ⟨he, hb⟩ => ?_
  subst he
  refine ⟨_, rfl, post_of_below (pa := _) (pv := []) hW2 (fun _ _ _ => trodAll_mk1 (shut_bool und_bool _)) (fun sp hs => args_stay hb (by rw [Try.params10]; intro t ht; simp at ht; (try rcases ht with rfl | rfl | rfl) <;> (try rcases ht with rfl | rfl) <;> (try subst ht) <;> exact ⟨by kernel_rfl, by decide +kernel⟩) (by rw [Try.params10]; exact hA) hs) (fun _ _ => rfl) (by simp) hb (ok_one (by kernel_rfl) rfl (okWide_bool_mk und_bool _))⟩

theorem cornersMoments_holds : Rows.CornersMomentsSaid :=
  OpenClaim.holds_of_wide 10 Try.f10 rfl rfl rfl rfl rfl rfl rfl ⟨rfl, rfl, rfl, rfl, rfl⟩ rfl rfl rfl rfl rfl (by kernel_rfl) Try.func10 (by kernel_rfl)
    (of_decide_eq_true (by kernel_rfl)) (by unfold Func.isWrapper; first | (rw [if_pos (by decide +kernel)]; kernel_rfl) | (rw [if_neg (by decide +kernel)]; exact ⟨rfl, rfl⟩))
    (fun os started H enc _ => cornersMoments_lifted os started H enc)
end
end Go.Proofs.Ytijpolfmiajenaa
