/- The functions knurlref02.Copy, knurllaw02.Far and Same answer a copy, the size and the equality, for points in memory. -/
import Derived.Test.YtijpolfmiajenaaRefCheck
import Derived.Test.YtijpolfmiajenaaPv
namespace Go.Proofs.Ytijpolfmiajenaa
open Go.RowKit
attribute [local go_sem] After.cell After.frozen
attribute [local go_sem high] run_eql_pt run_neq_pt

set_option maxRecDepth 100000 in
set_option maxHeartbeats 1000000 in
theorem rCopy_any (A : Option Addr) (ca : Nat) (l : List Pt) (w : World) (ha : Pts w A l) (hl : l.length ≤ 1000) :
    Calls Try.prog 21 #[.slice A l.length ca] w fun e w' => (∃ A' ca', e = .returned (.slice A' l.length ca') ∧ Pts w' A' l) ∧ Below w.heap.size w w' := by
  obtain ⟨i0, hi, hz0, hz1, hz2⟩ := info_parts infoPt
  rcases A with _ | ad
  · have := ha.nil
    subst this
    go_enter Try.func21, Try.ntmps21
    go_wp2
    go_ret
    exact ⟨⟨_, _, rfl, .inl rfl⟩, by (repeat (first | with_reducible exact Below.refl _ _ | with_reducible apply bl_alloc | with_reducible apply bl_drew | with_reducible apply bl_after | (with_reducible refine bl_call ?_ (by assumption))))⟩
  · go_enter Try.func21, Try.ntmps21
    have ho := World.ownsRow_made (base := w.heap.size) (e := 33) (size := 2) w #[] 0 (Nat.le_refl _) (by decide) rfl
    go_wp2_with (at_builtin; refine wpList_append_own _ rfl (.tmp 3) (.tmp 4) 22 rfl w.heap.size 33 i0 _ 2 16 undPts hi hz0 hz1 hz2 rfl (by decide) _ 0 [] rfl ho ad l.length ca (ptsV l) rfl (ptsV_len l) (ha.alloc _).cellsV (ptsV_one l) (by unfold maxLen; omega) (by omega) (by simp) ?_)
    intro v' w1 hown hgrow _
    have hb : Below w.heap.size w w1 := bl_grown (by (repeat (first | with_reducible exact Below.refl _ _ | with_reducible apply bl_alloc | with_reducible apply bl_drew | with_reducible apply bl_after | (with_reducible refine bl_call ?_ (by assumption))))) ho hgrow
    obtain ⟨_, A', ca', rfl, hP⟩ := own_parts hown
    go_wp2
    go_ret
    first | exact ⟨⟨_, _, rfl, hP⟩, hb⟩ | exact ⟨⟨A', ⟨ca', rfl⟩, hP⟩, hb⟩

set_option maxRecDepth 100000 in
set_option maxHeartbeats 1000000 in
theorem Far_any (A : Option Addr) (ca n : Nat) (w : World) (hn : n ≤ 9223372036854775807) :
    Calls Try.prog 20 #[.slice A n ca] w fun e w' => e = .returned (.bool (decide (40 < n))) ∧ w = w' := by
  go_enter Try.func20, Try.ntmps20
  go_wp2
  go_ret
  exact ⟨ret_bool (decide_eq_decide.2 (by omega)), rfl⟩

theorem pt_ext {l m : List Pt} (h : l.length = m.length) (e : ∀ j, j < l.length → pat l j = pat m j) : l = m := by
  refine List.ext_getElem h fun i h1 h2 => ?_
  rw [pat_eq h1, pat_eq h2]
  exact e i h1

set_option maxRecDepth 100000 in
set_option maxHeartbeats 1000000 in
theorem Same_any (A B : Option Addr) (ca cb : Nat) (l m : List Pt) (w : World) (ha : Pts w A l) (hb : Pts w B m) (hl : l.length ≤ 1000000) (hm : m.length ≤ 1000000) :
    Calls Try.prog 27 #[.slice A l.length ca, .slice B m.length cb] w fun e w' => e = .returned (.bool (decide (l = m))) ∧ Below w.heap.size w w' := by
  by_cases hlm : l.length = m.length
  · go_enter Try.func27, Try.ntmps27
    go_wp2
    go_loopw [5] (fun i wr => ∃ k : Nat, k ≤ l.length ∧ i = (Value.int .i64 ((k : Int))) ∧ (∀ j, j < k → pat l j = pat m j) ∧ Below w.heap.size w wr) (fun i _ => l.length - (intOf i).toNat)
    case atStart => exact ⟨0, Nat.zero_le _, rfl, (fun j hj => by omega), by (repeat (first | with_reducible exact Below.refl _ _ | with_reducible apply bl_alloc | with_reducible apply bl_drew | with_reducible apply bl_after | (with_reducible refine bl_call ?_ (by assumption))))⟩
    case round =>
      obtain ⟨k, kn, rfl, HR, hbw⟩ := hrel
      replace HR := Lib.hid HR
      by_cases hlt : k < l.length
      · obtain ⟨b, o, rfl, pa⟩ := (ha.below hbw).at_ hlt
        have hlt2 : k < m.length := by omega
        obtain ⟨b', o', rfl, pb⟩ := (hb.below hbw).at_ hlt2
        have x1 := pa.xp hlt
        have x2 := pa.yp hlt
        have lb := pa.lt
        have x3 := pb.xp hlt2
        have x4 := pb.yp hlt2
        have lb2 := pb.lt
        by_cases he : pat l k = pat m k
        · have he' : decide (pat l k = pat m k) = true := by simpa using he
          go_wp2
          refine wp_region_after (by kernel_rfl) (by kernel_rfl) ?_; (repeat (go_big_quiet_step ((fail)))); refine wpQuiet_nil ?_; rintro _ ⟨z, rfl⟩; (first | ((with_reducible apply kp_in_after (z := z)); (with_reducible assumption); rintro ⟨hk, hc, hf, hzc, hzf⟩) | ((with_reducible refine kp_in_after0 z ?_); rintro ⟨hk, hc, hf, hzc, hzf⟩))
          go_wp2
          go_roundw
          case rel => exact ⟨k + 1, by omega, by go_num, (fun j hj => by rcases Nat.lt_succ_iff_lt_or_eq.1 hj with h | h; exact HR.out j h; subst h; exact he), by (repeat (first | with_reducible exact Below.refl _ _ | with_reducible apply bl_alloc | with_reducible apply bl_drew | with_reducible apply bl_after | (with_reducible refine bl_call ?_ (by assumption))))⟩
          case measure => simp [intOf]; omega
        · have he' : decide (pat l k = pat m k) = false := by simpa using he
          go_wp2
          refine wp_region_after (by kernel_rfl) (by kernel_rfl) ?_; (repeat (go_big_quiet_step ((fail)))); refine wpQuiet_nil ?_; rintro _ ⟨z, rfl⟩; (first | ((with_reducible apply kp_in_after (z := z)); (with_reducible assumption); rintro ⟨hk, hc, hf, hzc, hzf⟩) | ((with_reducible refine kp_in_after0 z ?_); rintro ⟨hk, hc, hf, hzc, hzf⟩))
          go_wp2
          go_ret
          refine ⟨ret_bool (decide_eq_false fun h => he (by rw [h])).symm, by (repeat (first | with_reducible exact Below.refl _ _ | with_reducible apply bl_alloc | with_reducible apply bl_drew | with_reducible apply bl_after | (with_reducible refine bl_call ?_ (by assumption))))⟩
      · go_wp2
        go_ret
        obtain rfl : k = l.length := by omega
        refine ⟨ret_bool (decide_eq_true (pt_ext hlm HR.out)).symm, by (repeat (first | with_reducible exact Below.refl _ _ | with_reducible apply bl_alloc | with_reducible apply bl_drew | with_reducible apply bl_after | (with_reducible refine bl_call ?_ (by assumption))))⟩
  · go_enter Try.func27, Try.ntmps27
    have h : ¬ l = m := fun h => hlm (by rw [h])
    go_wp2
    go_ret
    refine ⟨ret_bool (decide_eq_false h).symm, by (repeat (first | with_reducible exact Below.refl _ _ | with_reducible apply bl_alloc | with_reducible apply bl_drew | with_reducible apply bl_after | (with_reducible refine bl_call ?_ (by assumption))))⟩
end Go.Proofs.Ytijpolfmiajenaa
