/- The law CornersPick answers true for any corners, and leaves them as they were. -/
import Derived.Test.YtijpolfmiajenaaPts
import Derived.Test.YtijpolfmiajenaaOpen
import Derived.Test.YtijpolfmiajenaaReady
import Derived.Test.YtijpolfmiajenaaArea
import Derived.Test.YtijpolfmiajenaaRows
namespace Go.Proofs.Ytijpolfmiajenaa
open Go.ChangeShapes Go.WideShapes Go.RowKit
attribute [local go_sem] After.cell After.frozen

theorem tw_bd {l : List Pt} (h : Ok l) : -800000000000 ≤ tw l ∧ tw l ≤ 800000000000 := sumOf_bd h.1.2 h.2.1 one_bd
theorem own_bd {l : List Pt} (h : Ok l) : 0 ≤ ownOf l ∧ ownOf l ≤ 4000 := by
  have h1 := ownTo_bd h.2.1 l.length (Nat.le_refl _)
  have h2 := h.1
  unfold ownOf
  omega

set_option maxRecDepth 100000 in
set_option maxHeartbeats 2000000 in
theorem lawPick_any (A : Option Addr) (ca : Nat) (l : List Pt) (w : World) (ha : Pts w A l) (hla : l.length ≤ 9223372036854775807) :
    Calls Try.prog 3 #[.slice A l.length ca] w fun e w' => e = .returned (.bool true) ∧ Below w.heap.size w w' := by
  by_cases hok : Ok l
  · have hr := ready_any A ca l w ha hla
    rw [decide_eq_true hok] at hr
    obtain ⟨b, o, rfl, hp⟩ := ha.ok hok
    have hl10 := hok.1
    have t1 := tw_bd hok
    have t2 := own_bd hok
    obtain ⟨t3, t4⟩ := pick_is hok
    have t5 := own_ge hok
    have m1 := wrap64_in (x := 2 * pickOf l) (by omega) (by omega)
    have m2 := wrap64_in (x := 2 * pickOf l + ownOf l) (by omega) (by omega)
    have m3 := wrap64_in (x := 2 * pickOf l + ownOf l - 2) (by omega) (by omega)
    go_enter Try.func3, Try.ntmps3
    go_wp2_with (first | (go_at_call 14; with_reducible refine Calls.mono (hr) ?_; rintro e w1 ⟨rfl, hb1⟩; first | ((with_reducible apply kp_in_step (hb := hb1)); (with_reducible assumption); rintro ⟨hk, hc, hf, hzc, hzf⟩) | ((with_reducible refine kp_in_first hb1 ?_); rintro ⟨hk, hc, hf, hzc, hzf⟩)) | (go_at_call 16; with_reducible refine Calls.mono (Twice_ok _ _ _ _ _ (hp.below (by (repeat (first | with_reducible exact Below.refl _ _ | with_reducible apply bl_alloc | with_reducible apply bl_drew | with_reducible apply bl_after | (with_reducible refine bl_call ?_ (by assumption)))))) hok) ?_; rintro e w1 ⟨rfl, hb1⟩; first | ((with_reducible apply kp_in_step (hb := hb1)); (with_reducible assumption); rintro ⟨hk, hc, hf, hzc, hzf⟩) | ((with_reducible refine kp_in_first hb1 ?_); rintro ⟨hk, hc, hf, hzc, hzf⟩)) | (go_at_call 17; with_reducible refine Calls.mono (Points_ok _ _ _ _ _ (hp.below (by (repeat (first | with_reducible exact Below.refl _ _ | with_reducible apply bl_alloc | with_reducible apply bl_drew | with_reducible apply bl_after | (with_reducible refine bl_call ?_ (by assumption)))))) hok) ?_; rintro e w1 ⟨rfl, hb1⟩; first | ((with_reducible apply kp_in_step (hb := hb1)); (with_reducible assumption); rintro ⟨hk, hc, hf, hzc, hzf⟩) | ((with_reducible refine kp_in_first hb1 ?_); rintro ⟨hk, hc, hf, hzc, hzf⟩)) | (go_at_call 18; with_reducible refine Calls.mono (sane3 (Blk.new _ _ _) (by unfold big; omega) (by unfold big; omega) (by unfold big; omega)) ?_; rintro e w' ⟨rfl, rfl⟩) | (go_at_call 19; with_reducible refine Calls.mono (abs_any _ _ (by omega) (by omega)) ?_; rintro e w' ⟨rfl, rfl⟩) | (go_at_call 15; with_reducible refine Calls.mono (works_any _) ?_; rintro e w1 ⟨rfl, hb1⟩; first | ((with_reducible apply kp_in_step (hb := hb1)); (with_reducible assumption); rintro ⟨hk, hc, hf, hzc, hzf⟩) | ((with_reducible refine kp_in_first hb1 ?_); rintro ⟨hk, hc, hf, hzc, hzf⟩)))
    go_ret
    exact ⟨rfl, by (repeat (first | with_reducible exact Below.refl _ _ | with_reducible apply bl_alloc | with_reducible apply bl_drew | with_reducible apply bl_after | (with_reducible refine bl_call ?_ (by assumption))))⟩
  · have hr := ready_any A ca l w ha hla
    rw [decide_eq_false hok] at hr
    go_enter Try.func3, Try.ntmps3
    go_wp2_with (first | (go_at_call 14; with_reducible refine Calls.mono (hr) ?_; rintro e w1 ⟨rfl, hb1⟩; first | ((with_reducible apply kp_in_step (hb := hb1)); (with_reducible assumption); rintro ⟨hk, hc, hf, hzc, hzf⟩) | ((with_reducible refine kp_in_first hb1 ?_); rintro ⟨hk, hc, hf, hzc, hzf⟩)) | (go_at_call 15; with_reducible refine Calls.mono (works_any _) ?_; rintro e w1 ⟨rfl, hb1⟩; first | ((with_reducible apply kp_in_step (hb := hb1)); (with_reducible assumption); rintro ⟨hk, hc, hf, hzc, hzf⟩) | ((with_reducible refine kp_in_first hb1 ?_); rintro ⟨hk, hc, hf, hzc, hzf⟩)))
    go_ret
    exact ⟨rfl, by (repeat (first | with_reducible exact Below.refl _ _ | with_reducible apply bl_alloc | with_reducible apply bl_drew | with_reducible apply bl_after | (with_reducible refine bl_call ?_ (by assumption))))⟩
section
open Go.ChangeAt
set_option maxRecDepth 100000 in
theorem cornersPick_lifted (os : Os) (started : os.Started) (H : Type) (enc : TypeId × Value → H) :
    ReturnsInHanded {} Try.checked os 3 .any (Rows.cornersPickSpec.pre6 enc Try.prog Try.f3 Rows.cornersPickRow.domain false) (Rows.cornersPickSpec.post enc Try.prog Try.f3 false true false false) := by
  refine returnsInHanded_of_change (C := Try.checked) own_knob started (by kernel_rfl) Try.func3
    (ChangeSpec.witness6 (enc := enc) (C := Try.checked) false ⟨#[], #[.slice none 0 0], []⟩ 8 (by kernel_rfl) (by kernel_rfl) (by kernel_rfl) (by kernel_rfl)) ?_
  intro W base args ds gs before hval0 hW hcnd _
  have hval : ∀ (j : Nat) t v, Try.f3.params[j]? = some t → args[j]? = some v → Value.okWide Try.prog W .any base t v := hval0
  have hW2 := hW
  obtain ⟨p, q, hA0, hV, rfl, hfz, hnd⟩ := hW
  have hA : DataW.TrodAll enc Try.prog W 0 (fun _ => true) true Try.f3.params.toList args.toList ds p := hA0
  rw [Try.params3] at hA hval
  obtain ⟨v0, d0, rfl, rfl, h0⟩ := trodAll_one hA
  obtain ⟨rfl, rfl⟩ := trodVars_none hV
  obtain ⟨A, ca, l, rfl, hP, hl⟩ := open_points (okWide_slice undPts (hval 0 _ _ rfl rfl)) h0
  clear hA0 hval0
  simp only [List.append_nil] at hW2
  refine (lawPick_any A ca l W hP hl).mono fun e W2 ⟨he, hb⟩ => ?_
  subst he
  refine ⟨_, rfl, post_of_below (pa := _) (pv := []) hW2 (fun _ _ _ => trodAll_mk1 (shut_bool und_bool _)) (fun sp hs => args_stay hb (by rw [Try.params3]; intro t ht; simp at ht; (try rcases ht with rfl | rfl | rfl) <;> (try rcases ht with rfl | rfl) <;> (try subst ht) <;> exact ⟨by kernel_rfl, by decide +kernel⟩) (by rw [Try.params3]; exact hA) hs) (fun _ _ => rfl) (by simp) hb (ok_one (by kernel_rfl) rfl (okWide_bool_mk und_bool _))⟩

theorem cornersPick_holds : Rows.CornersPickSaid :=
  OpenClaim.holds_of_wide 3 Try.f3 rfl rfl rfl rfl rfl rfl rfl ⟨rfl, rfl, rfl, rfl, rfl⟩ rfl rfl rfl rfl rfl (by kernel_rfl) Try.func3 (by kernel_rfl)
    (of_decide_eq_true (by kernel_rfl)) (by unfold Func.isWrapper; first | (rw [if_pos (by decide +kernel)]; kernel_rfl) | (rw [if_neg (by decide +kernel)]; exact ⟨rfl, rfl⟩))
    (fun os started H enc _ => cornersPick_lifted os started H enc)
end
end Go.Proofs.Ytijpolfmiajenaa
