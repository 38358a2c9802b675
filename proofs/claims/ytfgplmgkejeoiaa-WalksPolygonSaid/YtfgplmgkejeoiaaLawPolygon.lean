/- The law WalksPolygon answers true for any points, and leaves them as they were. -/
import Derived.Test.YtfgplmgkejeoiaaCheck
import Derived.Test.YtfgplmgkejeoiaaWorks5
import Derived.Test.YtfgplmgkejeoiaaOpw
import Derived.Test.YtfgplmgkejeoiaaRows
namespace Go.Proofs.Ytfgplmgkejeoiaa
open Go.ChangeShapes Go.WideShapes Go.RowKit
attribute [local go_sem] After.cell After.frozen

def oneF (_ _ : Pt) : Int := 1
theorem one_bd (a b : Pt) (_ : isPt a = true) (_ : isPt b = true) : -1000000 ≤ oneF a b ∧ oneF a b ≤ 1000000 := by unfold oneF; omega
theorem sum_dbl (l : List Pt) : ∀ k, sumTo oneF l k = dblTo l k
  | 0 => rfl
  | k + 1 => by rw [sumTo, dblTo, sum_dbl l k, oneF, Int.one_mul]
theorem sumOf_dbl (l : List Pt) : sumOf oneF l = dbl l := sum_dbl l _
set_option maxHeartbeats 400000 in
theorem twice1_any (a b : Pt) (w : World) : Calls Try.prog 87 #[(Value.agg #[.int .i64 a.1, .int .i64 a.2]), (Value.agg #[.int .i64 b.1, .int .i64 b.2])] w fun e w' => e = .returned (Value.int .i64 (oneF a b)) ∧ Below w.heap.size w w' := by
  go_enter Try.func87, Try.ntmps87
  go_wp2
  go_ret
  exact ⟨rfl, by (repeat (first | with_reducible exact Below.refl _ _ | with_reducible apply bl_alloc | with_reducible apply bl_drew | with_reducible apply bl_after | (with_reducible refine bl_call ?_ (by assumption))))⟩
set_option maxHeartbeats 400000 in
theorem tw_any (b o ca : Nat) (l : List Pt) (w : World) (hn : 0 < l.length) (hl : l.length ≤ 10) (hp : PtsAt w b o l) (hpt : ∀ i, i < l.length → isPt (pat l i) = true) :
    Calls Try.prog 65 #[.slice (some ⟨b, o, none⟩) l.length ca] w fun e w' => e = .returned (Value.int .i64 (dbl l)) ∧ Below w.heap.size w w' := by
  have hs := sum_any b o ca l 87 #[] oneF w hn hl hp hpt one_bd (enters_of Try.func87 (by kernel_rfl) rfl) (fun p q W _ _ _ => twice1_any p q W)
  rw [sumOf_dbl] at hs
  clear hp hpt
  go_enter Try.func65, Try.ntmps65
  go_wp2_with ((with_reducible refine Calls.mono hs ?_); rintro e w1 ⟨rfl, hb1⟩)
  go_ret
  exact ⟨rfl, by (repeat (first | with_reducible exact Below.refl _ _ | with_reducible apply bl_alloc | with_reducible apply bl_drew | with_reducible apply bl_after | (with_reducible refine bl_call ?_ (by assumption))))⟩
set_option maxHeartbeats 400000 in
theorem Twice_ok (b o ca : Nat) (l : List Pt) (w : World) (hp : PtsAt w b o l) (hok : Ok l) :
    Calls Try.prog 30 #[.slice (some ⟨b, o, none⟩) l.length ca] w fun e w' => e = .returned (.tuple #[(Value.int .i64 (dbl l)), (Value.int .i64 (0))]) ∧ Below w.heap.size w w' := by
  have hc := Check_any (some ⟨b, o, none⟩) ca l w (.inr ⟨b, o, rfl, hp⟩) (by have := hok.1; omega)
  rw [chk_ok hok] at hc
  have ht : ∀ W, Below w.heap.size w W → _ := fun W hW => tw_any b o ca l W (by have := hok.1; omega) hok.1.2 (hp.below hW) hok.2.1
  replace ht := Lib.hid ht
  clear hp hok
  go_enter Try.func30, Try.ntmps30
  go_wp2_with (first | ((with_reducible refine Calls.mono hc ?_); rintro e w1 ⟨rfl, hb1⟩) | (go_at_call 65; (with_reducible refine Calls.mono (ht.out _ (by assumption)) ?_); rintro e w2 ⟨rfl, hb2⟩))
  go_ret2
  exact ⟨rfl, by (repeat (first | with_reducible exact Below.refl _ _ | with_reducible apply bl_alloc | with_reducible apply bl_drew | with_reducible apply bl_after | (with_reducible refine bl_call ?_ (by assumption))))⟩
set_option maxHeartbeats 400000 in
theorem Twice_no (A : Option Addr) (ca : Nat) (l : List Pt) (w : World) (ha : Pts w A l) (hla : l.length ≤ 1000000) (hok : ¬ Ok l) :
    Calls Try.prog 30 #[.slice A l.length ca] w fun e w' => e = .returned (.tuple #[(Value.int .i64 (0)), (Value.int .i64 (20))]) ∧ Below w.heap.size w w' := by
  have hc := Check_any A ca l w ha hla
  rw [chk_no hok] at hc
  clear ha hok
  go_enter Try.func30, Try.ntmps30
  go_wp2_with ((with_reducible refine Calls.mono hc ?_); rintro e w1 ⟨rfl, hb1⟩)
  go_ret2
  exact ⟨rfl, by (repeat (first | with_reducible exact Below.refl _ _ | with_reducible apply bl_alloc | with_reducible apply bl_drew | with_reducible apply bl_after | (with_reducible refine bl_call ?_ (by assumption))))⟩

set_option maxRecDepth 100000 in
set_option maxHeartbeats 4000000 in
theorem lawPolygon_any (A : Option Addr) (ca : Nat) (l : List Pt) (w : World) (ha : Pts w A l) (hla : l.length ≤ 9223372036854775807) :
    Calls Try.prog 6 #[.slice A l.length ca] w fun e w' => e = .returned (.bool true) ∧ Below w.heap.size w w' := by
  by_cases hfar : 40 < l.length
  · clear ha
    go_enter Try.func6, Try.ntmps6
    go_wp2_with ((go_at_call 14); (with_reducible refine Calls.mono (works_any _) ?_); rintro e w1 ⟨rfl, hb1⟩)
    go_ret
    exact ⟨rfl, by (repeat (first | with_reducible exact Below.refl _ _ | with_reducible apply bl_alloc | with_reducible apply bl_drew | with_reducible apply bl_after | (with_reducible refine bl_call ?_ (by assumption))))⟩
  · have g1 : l.length ≤ 1000000 := by omega
    have hi := r5IsWalk_any A ca l w ha g1
    cases hw : walkB l with
    | false =>
      rw [hw] at hi
      replace hi := Lib.hid hi
      clear ha hw
      go_enter Try.func6, Try.ntmps6
      go_wp2_with (first | ((go_at_call 13); (with_reducible refine Calls.mono hi.out ?_); rintro e w1 ⟨rfl, hb1⟩; first | ((with_reducible apply kp_in_step (hb := hb1)); (with_reducible assumption); rintro ⟨hk, hc, hf, hzc, hzf⟩) | ((with_reducible refine kp_in_first hb1 ?_); rintro ⟨hk, hc, hf, hzc, hzf⟩)) | ((go_at_call 14); (with_reducible refine Calls.mono (works_any _) ?_); rintro e w2 ⟨rfl, hb2⟩; first | ((with_reducible apply kp_in_step (hb := hb2)); (with_reducible assumption); rintro ⟨hk, hc, hf, hzc, hzf⟩) | ((with_reducible refine kp_in_first hb2 ?_); rintro ⟨hk, hc, hf, hzc, hzf⟩)))
      go_ret
      exact ⟨rfl, by (repeat (first | with_reducible exact Below.refl _ _ | with_reducible apply bl_alloc | with_reducible apply bl_drew | with_reducible apply bl_after | (with_reducible refine bl_call ?_ (by assumption))))⟩
    | true =>
      rw [hw] at hi
      replace hi := Lib.hid hi
      have h1 := fun (W : World) (h : Below w.heap.size w W) => wArea_any A ca l W (ha.below h) g1
      rw [arV, arE, if_pos hw, if_pos hw] at h1
      replace h1 := Lib.hid h1
      have h3 := fun (W : World) (h : Below w.heap.size w W) => Check_any A ca l W (ha.below h) g1
      by_cases hok : Ok l
      · obtain ⟨b, o, rfl, hp⟩ := ha.at_ (k := 0) (by have := hok.1; omega)
        have h2 := Lib.hid fun (W : World) (h : Below w.heap.size w W) => Twice_ok b o ca l W (hp.below h) hok
        rw [chk_ok hok] at h3
        replace h3 := Lib.hid h3
        clear ha hw hok hp
        go_enter Try.func6, Try.ntmps6
        go_wp2_with (first | (go_at_call 13; with_reducible refine Calls.mono (hi.out) ?_; rintro e w1 ⟨rfl, hb1⟩; first | ((with_reducible apply kp_in_step (hb := hb1)); (with_reducible assumption); rintro ⟨hk, hc, hf, hzc, hzf⟩) | ((with_reducible refine kp_in_first hb1 ?_); rintro ⟨hk, hc, hf, hzc, hzf⟩)) | (go_at_call 15; with_reducible refine Calls.mono (h1.out _ (by (repeat (first | with_reducible exact Below.refl _ _ | with_reducible apply bl_alloc | with_reducible apply bl_drew | with_reducible apply bl_after | (with_reducible refine bl_call ?_ (by assumption)))))) ?_; rintro e w1 ⟨rfl, hb1⟩; first | ((with_reducible apply kp_in_step (hb := hb1)); (with_reducible assumption); rintro ⟨hk, hc, hf, hzc, hzf⟩) | ((with_reducible refine kp_in_first hb1 ?_); rintro ⟨hk, hc, hf, hzc, hzf⟩)) | (go_at_call 30; with_reducible refine Calls.mono (h2.out _ (by (repeat (first | with_reducible exact Below.refl _ _ | with_reducible apply bl_alloc | with_reducible apply bl_drew | with_reducible apply bl_after | (with_reducible refine bl_call ?_ (by assumption)))))) ?_; rintro e w1 ⟨rfl, hb1⟩; first | ((with_reducible apply kp_in_step (hb := hb1)); (with_reducible assumption); rintro ⟨hk, hc, hf, hzc, hzf⟩) | ((with_reducible refine kp_in_first hb1 ?_); rintro ⟨hk, hc, hf, hzc, hzf⟩)) | (go_at_call 31; with_reducible refine Calls.mono (h3.out _ (by (repeat (first | with_reducible exact Below.refl _ _ | with_reducible apply bl_alloc | with_reducible apply bl_drew | with_reducible apply bl_after | (with_reducible refine bl_call ?_ (by assumption)))))) ?_; rintro e w1 ⟨rfl, hb1⟩; first | ((with_reducible apply kp_in_step (hb := hb1)); (with_reducible assumption); rintro ⟨hk, hc, hf, hzc, hzf⟩) | ((with_reducible refine kp_in_first hb1 ?_); rintro ⟨hk, hc, hf, hzc, hzf⟩)) | (go_at_call 14; with_reducible refine Calls.mono (works_any _) ?_; rintro e w1 ⟨rfl, hb1⟩; first | ((with_reducible apply kp_in_step (hb := hb1)); (with_reducible assumption); rintro ⟨hk, hc, hf, hzc, hzf⟩) | ((with_reducible refine kp_in_first hb1 ?_); rintro ⟨hk, hc, hf, hzc, hzf⟩)))
        go_ret
        exact ⟨rfl, by (repeat (first | with_reducible exact Below.refl _ _ | with_reducible apply bl_alloc | with_reducible apply bl_drew | with_reducible apply bl_after | (with_reducible refine bl_call ?_ (by assumption))))⟩
      · have h2 := Lib.hid fun (W : World) (h : Below w.heap.size w W) => Twice_no A ca l W (ha.below h) g1 hok
        rw [chk_no hok] at h3
        replace h3 := Lib.hid h3
        clear ha hw hok
        go_enter Try.func6, Try.ntmps6
        go_wp2_with (first | (go_at_call 13; with_reducible refine Calls.mono (hi.out) ?_; rintro e w1 ⟨rfl, hb1⟩; first | ((with_reducible apply kp_in_step (hb := hb1)); (with_reducible assumption); rintro ⟨hk, hc, hf, hzc, hzf⟩) | ((with_reducible refine kp_in_first hb1 ?_); rintro ⟨hk, hc, hf, hzc, hzf⟩)) | (go_at_call 15; with_reducible refine Calls.mono (h1.out _ (by (repeat (first | with_reducible exact Below.refl _ _ | with_reducible apply bl_alloc | with_reducible apply bl_drew | with_reducible apply bl_after | (with_reducible refine bl_call ?_ (by assumption)))))) ?_; rintro e w1 ⟨rfl, hb1⟩; first | ((with_reducible apply kp_in_step (hb := hb1)); (with_reducible assumption); rintro ⟨hk, hc, hf, hzc, hzf⟩) | ((with_reducible refine kp_in_first hb1 ?_); rintro ⟨hk, hc, hf, hzc, hzf⟩)) | (go_at_call 30; with_reducible refine Calls.mono (h2.out _ (by (repeat (first | with_reducible exact Below.refl _ _ | with_reducible apply bl_alloc | with_reducible apply bl_drew | with_reducible apply bl_after | (with_reducible refine bl_call ?_ (by assumption)))))) ?_; rintro e w1 ⟨rfl, hb1⟩; first | ((with_reducible apply kp_in_step (hb := hb1)); (with_reducible assumption); rintro ⟨hk, hc, hf, hzc, hzf⟩) | ((with_reducible refine kp_in_first hb1 ?_); rintro ⟨hk, hc, hf, hzc, hzf⟩)) | (go_at_call 31; with_reducible refine Calls.mono (h3.out _ (by (repeat (first | with_reducible exact Below.refl _ _ | with_reducible apply bl_alloc | with_reducible apply bl_drew | with_reducible apply bl_after | (with_reducible refine bl_call ?_ (by assumption)))))) ?_; rintro e w1 ⟨rfl, hb1⟩; first | ((with_reducible apply kp_in_step (hb := hb1)); (with_reducible assumption); rintro ⟨hk, hc, hf, hzc, hzf⟩) | ((with_reducible refine kp_in_first hb1 ?_); rintro ⟨hk, hc, hf, hzc, hzf⟩)) | (go_at_call 14; with_reducible refine Calls.mono (works_any _) ?_; rintro e w1 ⟨rfl, hb1⟩; first | ((with_reducible apply kp_in_step (hb := hb1)); (with_reducible assumption); rintro ⟨hk, hc, hf, hzc, hzf⟩) | ((with_reducible refine kp_in_first hb1 ?_); rintro ⟨hk, hc, hf, hzc, hzf⟩)))
        go_ret
        exact ⟨rfl, by (repeat (first | with_reducible exact Below.refl _ _ | with_reducible apply bl_alloc | with_reducible apply bl_drew | with_reducible apply bl_after | (with_reducible refine bl_call ?_ (by assumption))))⟩

section
open Go.ChangeAt
set_option maxRecDepth 100000 in
theorem walksPolygon_lifted (os : Os) (started : os.Started) (H : Type) (enc : TypeId × Value → H) :
    ReturnsInHanded {} Try.checked os 6 .any (Rows.walksPolygonSpec.pre6 enc Try.prog Try.f6 Rows.walksPolygonRow.domain false) (Rows.walksPolygonSpec.post enc Try.prog Try.f6 false true false false) := by
  refine returnsInHanded_of_change (C := Try.checked) own_knob started (by kernel_rfl) Try.func6
    (ChangeSpec.witness6 (enc := enc) (C := Try.checked) false ⟨#[], #[.slice none 0 0], []⟩ 8 (by kernel_rfl) (by kernel_rfl) (by kernel_rfl) (by kernel_rfl)) ?_
  intro W base args ds gs before hval0 hW hcnd _
  have hval : ∀ (j : Nat) t v, Try.f6.params[j]? = some t → args[j]? = some v → Value.okWide Try.prog W .any base t v := hval0
  have hW2 := hW
  obtain ⟨p, q, hA0, hV, rfl, hfz, hnd⟩ := hW
  have hA : DataW.TrodAll enc Try.prog W 0 (fun _ => true) true Try.f6.params.toList args.toList ds p := hA0
  rw [Try.params6] at hA hval
  obtain ⟨v0, d0, rfl, rfl, h0⟩ := trodAll_one hA; obtain ⟨A, ca, l, rfl, hP0, hl0⟩ := open_points (okWide_slice undPts (hval 0 _ _ rfl rfl)) h0
  obtain ⟨rfl, rfl⟩ := trodVars_none hV
  clear hA0 hval0
  simp only [List.append_nil, List.nil_append] at hW2
  (try simp only [List.append_nil, List.nil_append] at hA)
  refine (lawPolygon_any A ca l W hP0 hl0).mono fun e W2 ⟨he, hb⟩ => ?_
  subst he
  refine ⟨_, rfl, post_of_below (pa := _) (pv := []) hW2 (fun _ _ _ => trodAll_mk1 (shut_bool und_bool _)) (fun sp hs => args_stay hb (by rw [Try.params6]; intro t ht; simp at ht; (try rcases ht with rfl | rfl | rfl) <;> (try rcases ht with rfl | rfl) <;> (try subst ht) <;> exact ⟨by kernel_rfl, by decide +kernel⟩) (by rw [Try.params6]; exact hA) hs) (fun _ _ => rfl) (by simp) hb (ok_one (by kernel_rfl) rfl (okWide_bool_mk und_bool _))⟩

theorem walksPolygon_holds : Rows.WalksPolygonSaid :=
  OpenClaim.holds_of_wide 6 Try.f6 rfl rfl rfl rfl rfl rfl rfl ⟨rfl, rfl, rfl, rfl, rfl⟩ rfl rfl rfl rfl rfl (by kernel_rfl) Try.func6 (by kernel_rfl)
    (of_decide_eq_true (by kernel_rfl)) (by unfold Func.isWrapper; first | (rw [if_pos (by decide +kernel)]; kernel_rfl) | (rw [if_neg (by decide +kernel)]; exact ⟨rfl, rfl⟩))
    (fun os started H enc _ => walksPolygon_lifted os started H enc)
end
end Go.Proofs.Ytfgplmgkejeoiaa
