/- The law CornersHull answers true for any points, and leaves them as they were. -/
import Derived.Test.YtijpolfmiajenaaHhl
import Derived.Test.YtijpolfmiajenaaWorks
import Derived.Test.YtijpolfmiajenaaOpen
import Derived.Test.YtijpolfmiajenaaRows
namespace Go.Proofs.Ytijpolfmiajenaa
open Go.ChangeShapes Go.WideShapes Go.RowKit
attribute [local go_sem] After.cell After.frozen

set_option maxRecDepth 100000 in
set_option maxHeartbeats 1000000 in
theorem rHull_no (A : Option Addr) (ca : Nat) (l : List Pt) (w : World) (ha : Pts w A l) (hla : l.length ≤ 1000000) (h : hchk l = 1 ∨ hchk l = 3) :
    Calls Try.prog 43 #[.slice A l.length ca] w fun e w' => e = .returned (.tuple #[.slice none 0 0, (Value.int .i64 (hchk l))]) ∧ Below w.heap.size w w' := by
  have hc := Lib.hid (rCheckPoints_any A ca l w ha hla)
  have hd : (hchk l != 0) = true := by rcases h with h | h <;> rw [h] <;> rfl
  generalize hchk l = n at *
  clear ha
  rcases h with rfl | rfl
  all_goals
    go_enter Try.func43, Try.ntmps43
    go_wp2_with (go_at_call 40; with_reducible refine Calls.mono (hc.out) ?_; rintro e w1 ⟨rfl, hb1⟩; first | ((with_reducible apply kp_in_step (hb := hb1)); (with_reducible assumption); rintro ⟨hk, hc, hf, hzc, hzf⟩) | ((with_reducible refine kp_in_first hb1 ?_); rintro ⟨hk, hc, hf, hzc, hzf⟩))
    go_ret2
    exact ⟨rfl, by (repeat (first | with_reducible exact Below.refl _ _ | with_reducible apply bl_alloc | with_reducible apply bl_drew | with_reducible apply bl_after | (with_reducible refine bl_call ?_ (by assumption))))⟩
theorem rHull_yes (A : Option Addr) (ca : Nat) (l : List Pt) (w : World) (ha : Pts w A l) (hB : PtsB l) (hL : ¬ LineB l) :
    Calls Try.prog 43 #[.slice A l.length ca] w fun e w' => (∃ g c, e = .returned (.tuple #[.slice (some ⟨g, 0, none⟩) (hullL (srt2 l)).length c, (Value.int .i64 (0))]) ∧ PtsAt w' g 0 (hullL (srt2 l))) ∧ Below w.heap.size w w' := by
  obtain ⟨p0, -, hG, h3⟩ := hull_gift hB hL
  have h0 : 0 < l.length := by
    refine Nat.pos_of_ne_zero fun q => hL fun i hi => ?_
    omega
  obtain ⟨b, o, rfl, hp⟩ := ha.at_ h0
  exact rHull_ok b o ca l _ w hp hB hL hG
theorem Hull_yes (A : Option Addr) (ca : Nat) (l : List Pt) (w : World) (ha : Pts w A l) (hB : PtsB l) (hL : ¬ LineB l) :
    Calls Try.prog 41 #[.slice A l.length ca] w fun e w' => (∃ g c, e = .returned (.tuple #[.slice (some ⟨g, 0, none⟩) (hullL (srt2 l)).length c, (Value.int .i64 (0))]) ∧ PtsAt w' g 0 (hullL (srt2 l))) ∧ Below w.heap.size w w' := by
  obtain ⟨p0, -, hG, h3⟩ := hull_gift hB hL
  refine (Hull_ok A ca l w ha hB).mono fun e w' ⟨h1, h2⟩ => ⟨?_, h2⟩
  unfold HullR at h1
  rwa [if_pos h3] at h1
theorem Hull_no (A : Option Addr) (ca : Nat) (l : List Pt) (w : World) (ha : Pts w A l) (hla : l.length ≤ 1000) (h : hchk l = 1 ∨ hchk l = 3) :
    Calls Try.prog 41 #[.slice A l.length ca] w fun e w' => e = .returned (.tuple #[.slice none 0 0, (Value.int .i64 (hchk l))]) ∧ Below w.heap.size w w' := by
  by_cases hB : PtsB l
  · by_cases hL : LineB l
    · have e1 : hchk l = 3 := by unfold hchk; rw [if_pos hB, if_pos hL]
      refine (Hull_ok A ca l w ha hB).mono fun e w' ⟨h1, h2⟩ => ⟨?_, h2⟩
      unfold HullR at h1
      have := hull_line hB hL
      rw [if_neg (by omega)] at h1
      rw [e1]
      exact h1
    · have e1 : hchk l = 0 := by unfold hchk; rw [if_pos hB, if_neg hL]
      rw [e1] at h
      rcases h with h | h <;> cases h
  · have e1 : hchk l = 1 := by unfold hchk; rw [if_neg hB]
    rw [e1]
    exact Hull_bad A ca l w ha hla hB
theorem hchk_cases (l : List Pt) : (hchk l = 1 ∨ hchk l = 3) ∨ (PtsB l ∧ ¬ LineB l) := by
  unfold hchk
  by_cases hB : PtsB l
  · by_cases hL : LineB l
    · rw [if_pos hB, if_pos hL]; exact .inl (.inr rfl)
    · exact .inr ⟨hB, hL⟩
  · rw [if_neg hB]; exact .inl (.inl rfl)

theorem PtsAt.toPts {w : World} {b o : Nat} {l : List Pt} (h : PtsAt w b o l) : Pts w (some ⟨b, o, none⟩) l := .inr ⟨b, o, rfl, h⟩
set_option maxRecDepth 100000 in
set_option maxHeartbeats 4000000 in
theorem lawHull_any (A : Option Addr) (ca : Nat) (l : List Pt) (w : World) (ha : Pts w A l) (hla : l.length ≤ 9223372036854775807) :
    Calls Try.prog 12 #[.slice A l.length ca] w fun e w' => e = .returned (.bool true) ∧ Below w.heap.size w w' := by
  by_cases hfar : 40 < l.length
  · go_enter Try.func12, Try.ntmps12
    go_wp2_with (first | (go_at_call 20; with_reducible refine Calls.mono (Far_any _ _ _ _ hla) ?_; rintro e w' ⟨rfl, rfl⟩) | ((go_at_call 15); (with_reducible refine Calls.mono (works_any _) ?_); rintro e w1 ⟨rfl, hb1⟩))
    go_ret
    exact ⟨rfl, by (repeat (first | with_reducible exact Below.refl _ _ | with_reducible apply bl_alloc | with_reducible apply bl_drew | with_reducible apply bl_after | (with_reducible refine bl_call ?_ (by assumption))))⟩
  · have hl6 : l.length ≤ 1000000 := by omega
    rcases hchk_cases l with hno | ⟨hB, hL⟩
    · have hs0 := Lib.hid fun V => Same_any none none 0 0 [] [] V (.inl rfl) (.inl rfl) (by decide) (by decide)
      simp only [List.length_nil] at hs0
      have hnH := Lib.hid hno
      clear hno
      go_enter Try.func12, Try.ntmps12
      go_wp2_with (first | (go_at_call 20; with_reducible refine Calls.mono (Far_any _ _ _ _ hla) ?_; rintro e w' ⟨rfl, rfl⟩) | (go_at_call 21; (with_reducible refine Calls.mono (rCopy_any A ca l _ (ha.below (by (repeat (first | with_reducible exact Below.refl _ _ | with_reducible apply bl_alloc | with_reducible apply bl_drew | with_reducible apply bl_after | (with_reducible refine bl_call ?_ (by assumption)))))) (by omega)) ?_); rintro e w1 ⟨⟨A1, ca1, rfl, hP⟩, hb1⟩; first | ((with_reducible apply kp_in_step (hb := hb1)); (with_reducible assumption); rintro ⟨hk, hc, hf, hzc, hzf⟩) | ((with_reducible refine kp_in_first hb1 ?_); rintro ⟨hk, hc, hf, hzc, hzf⟩)) | (go_at_call 41; with_reducible refine Calls.mono (Hull_no _ _ _ _ (hP.below (by (repeat (first | with_reducible exact Below.refl _ _ | with_reducible apply bl_alloc | with_reducible apply bl_drew | with_reducible apply bl_after | (with_reducible refine bl_call ?_ (by assumption)))))) (by omega) hnH.out) ?_; rintro e w1 ⟨rfl, hb1⟩; first | ((with_reducible apply kp_in_step (hb := hb1)); (with_reducible assumption); rintro ⟨hk, hc, hf, hzc, hzf⟩) | ((with_reducible refine kp_in_first hb1 ?_); rintro ⟨hk, hc, hf, hzc, hzf⟩)) | (go_at_call 43; with_reducible refine Calls.mono (rHull_no _ _ _ _ (ha.below (by (repeat (first | with_reducible exact Below.refl _ _ | with_reducible apply bl_alloc | with_reducible apply bl_drew | with_reducible apply bl_after | (with_reducible refine bl_call ?_ (by assumption)))))) hl6 hnH.out) ?_; rintro e w1 ⟨rfl, hb1⟩; first | ((with_reducible apply kp_in_step (hb := hb1)); (with_reducible assumption); rintro ⟨hk, hc, hf, hzc, hzf⟩) | ((with_reducible refine kp_in_first hb1 ?_); rintro ⟨hk, hc, hf, hzc, hzf⟩)) | (go_at_call 27; with_reducible refine Calls.mono (hs0.out _) ?_; rintro e w1 ⟨rfl, hb1⟩; first | ((with_reducible apply kp_in_step (hb := hb1)); (with_reducible assumption); rintro ⟨hk, hc, hf, hzc, hzf⟩) | ((with_reducible refine kp_in_first hb1 ?_); rintro ⟨hk, hc, hf, hzc, hzf⟩)) | (go_at_call 27; with_reducible refine Calls.mono (Same_any _ _ _ _ _ _ _ (hP.below (by (repeat (first | with_reducible exact Below.refl _ _ | with_reducible apply bl_alloc | with_reducible apply bl_drew | with_reducible apply bl_after | (with_reducible refine bl_call ?_ (by assumption)))))) (ha.below (by (repeat (first | with_reducible exact Below.refl _ _ | with_reducible apply bl_alloc | with_reducible apply bl_drew | with_reducible apply bl_after | (with_reducible refine bl_call ?_ (by assumption)))))) hl6 hl6) ?_; rintro e w1 ⟨rfl, hb1⟩; first | ((with_reducible apply kp_in_step (hb := hb1)); (with_reducible assumption); rintro ⟨hk, hc, hf, hzc, hzf⟩) | ((with_reducible refine kp_in_first hb1 ?_); rintro ⟨hk, hc, hf, hzc, hzf⟩)) | (go_at_call 15; with_reducible refine Calls.mono (works_any _) ?_; rintro e w1 ⟨rfl, hb1⟩; first | ((with_reducible apply kp_in_step (hb := hb1)); (with_reducible assumption); rintro ⟨hk, hc, hf, hzc, hzf⟩) | ((with_reducible refine kp_in_first hb1 ?_); rintro ⟨hk, hc, hf, hzc, hzf⟩)))
      go_ret
      exact ⟨rfl, by (repeat (first | with_reducible exact Below.refl _ _ | with_reducible apply bl_alloc | with_reducible apply bl_drew | with_reducible apply bl_after | (with_reducible refine bl_call ?_ (by assumption))))⟩
    · have hBH := Lib.hid (And.intro hB hL)
      clear hB hL
      have hK : (hullL (srt2 l)).length ≤ 1000000 := by
        obtain ⟨p0, -, hG, h3⟩ := hull_gift hBH.out.1 hBH.out.2
        have := hG.le
        omega
      go_enter Try.func12, Try.ntmps12
      go_wp2_with (first | (go_at_call 20; with_reducible refine Calls.mono (Far_any _ _ _ _ hla) ?_; rintro e w' ⟨rfl, rfl⟩) | (go_at_call 21; (with_reducible refine Calls.mono (rCopy_any A ca l _ (ha.below (by (repeat (first | with_reducible exact Below.refl _ _ | with_reducible apply bl_alloc | with_reducible apply bl_drew | with_reducible apply bl_after | (with_reducible refine bl_call ?_ (by assumption)))))) (by omega)) ?_); rintro e w1 ⟨⟨A1, ca1, rfl, hP⟩, hb1⟩; first | ((with_reducible apply kp_in_step (hb := hb1)); (with_reducible assumption); rintro ⟨hk, hc, hf, hzc, hzf⟩) | ((with_reducible refine kp_in_first hb1 ?_); rintro ⟨hk, hc, hf, hzc, hzf⟩)) | ((go_at_call 41); (with_reducible refine Calls.mono (Hull_yes _ _ _ _ (hP.below (by (repeat (first | with_reducible exact Below.refl _ _ | with_reducible apply bl_alloc | with_reducible apply bl_drew | with_reducible apply bl_after | (with_reducible refine bl_call ?_ (by assumption)))))) hBH.out.1 hBH.out.2) ?_); rintro e w2 ⟨⟨g2, d2, rfl, H2⟩, hb2⟩; first | ((with_reducible apply kp_in_step (hb := hb2)); (with_reducible assumption); rintro ⟨hk, hc, hf, hzc, hzf⟩) | ((with_reducible refine kp_in_first hb2 ?_); rintro ⟨hk, hc, hf, hzc, hzf⟩)) | ((go_at_call 43); (with_reducible refine Calls.mono (rHull_yes _ _ _ _ (ha.below (by (repeat (first | with_reducible exact Below.refl _ _ | with_reducible apply bl_alloc | with_reducible apply bl_drew | with_reducible apply bl_after | (with_reducible refine bl_call ?_ (by assumption)))))) hBH.out.1 hBH.out.2) ?_); rintro e w3 ⟨⟨g3, d3, rfl, H3⟩, hb3⟩; first | ((with_reducible apply kp_in_step (hb := hb3)); (with_reducible assumption); rintro ⟨hk, hc, hf, hzc, hzf⟩) | ((with_reducible refine kp_in_first hb3 ?_); rintro ⟨hk, hc, hf, hzc, hzf⟩)) | (go_at_call 27; with_reducible refine Calls.mono (Same_any (some ⟨g2, 0, none⟩) (some ⟨g3, 0, none⟩) _ _ (hullL (srt2 l)) (hullL (srt2 l)) _ (PtsAt.toPts (H2.below hb3)) (PtsAt.toPts H3) hK hK) ?_; rintro e w1 ⟨rfl, hb1⟩; first | ((with_reducible apply kp_in_step (hb := hb1)); (with_reducible assumption); rintro ⟨hk, hc, hf, hzc, hzf⟩) | ((with_reducible refine kp_in_first hb1 ?_); rintro ⟨hk, hc, hf, hzc, hzf⟩)) | (go_at_call 27; with_reducible refine Calls.mono (Same_any _ _ _ _ _ _ _ (hP.below (by (repeat (first | with_reducible exact Below.refl _ _ | with_reducible apply bl_alloc | with_reducible apply bl_drew | with_reducible apply bl_after | (with_reducible refine bl_call ?_ (by assumption)))))) (ha.below (by (repeat (first | with_reducible exact Below.refl _ _ | with_reducible apply bl_alloc | with_reducible apply bl_drew | with_reducible apply bl_after | (with_reducible refine bl_call ?_ (by assumption)))))) hl6 hl6) ?_; rintro e w1 ⟨rfl, hb1⟩; first | ((with_reducible apply kp_in_step (hb := hb1)); (with_reducible assumption); rintro ⟨hk, hc, hf, hzc, hzf⟩) | ((with_reducible refine kp_in_first hb1 ?_); rintro ⟨hk, hc, hf, hzc, hzf⟩)) | (go_at_call 15; with_reducible refine Calls.mono (works_any _) ?_; rintro e w1 ⟨rfl, hb1⟩; first | ((with_reducible apply kp_in_step (hb := hb1)); (with_reducible assumption); rintro ⟨hk, hc, hf, hzc, hzf⟩) | ((with_reducible refine kp_in_first hb1 ?_); rintro ⟨hk, hc, hf, hzc, hzf⟩)))
      go_ret
      exact ⟨rfl, by (repeat (first | with_reducible exact Below.refl _ _ | with_reducible apply bl_alloc | with_reducible apply bl_drew | with_reducible apply bl_after | (with_reducible refine bl_call ?_ (by assumption))))⟩

section
open Go.ChangeAt
set_option maxRecDepth 100000 in
theorem cornersHull_lifted (os : Os) (started : os.Started) (H : Type) (enc : TypeId × Value → H) :
    ReturnsInHanded {} Try.checked os 12 .any (Rows.cornersHullSpec.pre6 enc Try.prog Try.f12 Rows.cornersHullRow.domain false) (Rows.cornersHullSpec.post enc Try.prog Try.f12 false true false false) := by
  refine returnsInHanded_of_change (C := Try.checked) own_knob started (by kernel_rfl) Try.func12
    (ChangeSpec.witness6 (enc := enc) (C := Try.checked) false ⟨#[], #[.slice none 0 0], []⟩ 8 (by kernel_rfl) (by kernel_rfl) (by kernel_rfl) (by kernel_rfl)) ?_
  intro W base args ds gs before hval0 hW hcnd _
  have hval : ∀ (j : Nat) t v, Try.f12.params[j]? = some t → args[j]? = some v → Value.okWide Try.prog W .any base t v := hval0
  have hW2 := hW
  obtain ⟨p, q, hA0, hV, rfl, hfz, hnd⟩ := hW
  have hA : DataW.TrodAll enc Try.prog W 0 (fun _ => true) true Try.f12.params.toList args.toList ds p := hA0
  rw [Try.params12] at hA hval
  obtain ⟨v0, d0, rfl, rfl, h0⟩ := trodAll_one hA
  obtain ⟨rfl, rfl⟩ := trodVars_none hV
  obtain ⟨A, ca, l, rfl, hP, hl⟩ := open_points (okWide_slice undPts (hval 0 _ _ rfl rfl)) h0
  clear hA0 hval0
  simp only [List.append_nil, List.nil_append] at hW2
  (try simp only [List.append_nil, List.nil_append] at hA)
  refine (lawHull_any A ca l W hP hl).mono fun e W2 ⟨he, hb⟩ => ?_
  subst he
  refine ⟨_, rfl, post_of_below (pa := _) (pv := []) hW2 (fun _ _ _ => trodAll_mk1 (shut_bool und_bool _)) (fun sp hs => args_stay hb (by rw [Try.params12]; intro t ht; simp at ht; (try rcases ht with rfl | rfl | rfl) <;> (try rcases ht with rfl | rfl) <;> (try subst ht) <;> exact ⟨by kernel_rfl, by decide +kernel⟩) (by rw [Try.params12]; exact hA) hs) (fun _ _ => rfl) (by simp) hb (ok_one (by kernel_rfl) rfl (okWide_bool_mk und_bool _))⟩

theorem cornersHull_holds : Rows.CornersHullSaid :=
  OpenClaim.holds_of_wide 12 Try.f12 rfl rfl rfl rfl rfl rfl rfl ⟨rfl, rfl, rfl, rfl, rfl⟩ rfl rfl rfl rfl rfl (by kernel_rfl) Try.func12 (by kernel_rfl)
    (of_decide_eq_true (by kernel_rfl)) (by unfold Func.isWrapper; first | (rw [if_pos (by decide +kernel)]; kernel_rfl) | (rw [if_neg (by decide +kernel)]; exact ⟨rfl, rfl⟩))
    (fun os started H enc _ => cornersHull_lifted os started H enc)
end
end Go.Proofs.Ytijpolfmiajenaa
