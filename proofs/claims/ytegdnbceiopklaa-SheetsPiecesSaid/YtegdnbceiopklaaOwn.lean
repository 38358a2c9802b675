/- The functions knurlref02.Copy, knurllaw02.Far and Same answer a copy, the size and the equality, for points in memory. -/
import Derived.Test.YtegdnbceiopklaaRefCheck
import Derived.Test.YtegdnbceiopklaaPv
namespace Go.Proofs.Ytegdnbceiopklaa
open Go.RowKit
attribute [local go_sem] After.cell After.frozen
attribute [local go_sem high] run_eql_pt run_neq_pt

set_option maxRecDepth 100000 in
set_option maxHeartbeats 1000000 in
theorem rCopy_any (A : Option Addr) (ca : Nat) (l : List Pt) (w : World) (ha : Pts w A l) (hl : l.length ≤ 1000) :
    Calls Try.prog 16 #[.slice A l.length ca] w fun e w' => (∃ A' ca', e = .returned (.slice A' l.length ca') ∧ Pts w' A' l) ∧ Below w.heap.size w w' := by
  obtain ⟨i0, hi, hz0, hz1, hz2⟩ := info_parts infoPt
  rcases A with _ | ad
  · have := ha.nil
    subst this
    go_enter Try.func16, Try.ntmps16
    go_wp2
    go_ret
    exact ⟨⟨_, _, rfl, .inl rfl⟩, by (repeat (first | with_reducible exact Below.refl _ _ | with_reducible apply bl_alloc | with_reducible apply bl_drew | with_reducible apply bl_after | (with_reducible refine bl_call ?_ (by assumption))))⟩
  · go_enter Try.func16, Try.ntmps16
    have ho := World.ownsRow_made (base := w.heap.size) (e := 42) (size := 2) w #[] 0 (Nat.le_refl _) (by decide) rfl
    go_wp2_with (at_builtin; refine wpList_append_own _ rfl (.tmp 3) (.tmp 4) 27 rfl w.heap.size 42 i0 _ 2 16 undPts hi hz0 hz1 hz2 rfl (by decide) _ 0 [] rfl ho ad l.length ca (ptsV l) rfl (ptsV_len l) (ha.alloc _).cellsV (ptsV_one l) (by unfold maxLen; omega) (by omega) (by simp) ?_)
    intro v' w1 hown hgrow _
    have hb : Below w.heap.size w w1 := bl_grown (by (repeat (first | with_reducible exact Below.refl _ _ | with_reducible apply bl_alloc | with_reducible apply bl_drew | with_reducible apply bl_after | (with_reducible refine bl_call ?_ (by assumption))))) ho hgrow
    obtain ⟨_, A', ca', rfl, hP⟩ := own_parts hown
    go_wp2
    go_ret
    first | exact ⟨⟨_, _, rfl, hP⟩, hb⟩ | exact ⟨⟨A', ⟨ca', rfl⟩, hP⟩, hb⟩

set_option maxRecDepth 100000 in
set_option maxHeartbeats 1000000 in
theorem Far_any (A : Option Addr) (ca n : Nat) (w : World) (hn : n ≤ 9223372036854775807) :
    Calls Try.prog 12 #[.slice A n ca] w fun e w' => e = .returned (.bool (decide (40 < n))) ∧ w = w' := by
  go_enter Try.func12, Try.ntmps12
  go_wp2
  go_ret
  exact ⟨ret_bool (decide_eq_decide.2 (by omega)), rfl⟩

theorem pt_ext {l m : List Pt} (h : l.length = m.length) (e : ∀ j, j < l.length → pat l j = pat m j) : l = m := by
  refine List.ext_getElem h fun i h1 h2 => ?_
  rw [pat_eq h1, pat_eq h2]
  exact e i h1

end Go.Proofs.Ytegdnbceiopklaa
