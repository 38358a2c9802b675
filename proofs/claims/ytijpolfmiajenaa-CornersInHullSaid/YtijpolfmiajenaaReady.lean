/- The functions ready, abs and sane of knurllaw02 answer whether a polygon is valid, a number without its sign, and true for numbers that are not too great. -/
import Derived.Test.YtijpolfmiajenaaOwn
namespace Go.Proofs.Ytijpolfmiajenaa
open Go.RowKit
attribute [local go_sem] After.cell After.frozen

set_option maxHeartbeats 1000000 in
theorem ready_any (A : Option Addr) (ca : Nat) (l : List Pt) (w : World) (ha : Pts w A l) (hla : l.length ≤ 9223372036854775807) :
    Calls Try.prog 14 #[.slice A l.length ca] w fun e w' => e = .returned (.bool (decide (Ok l))) ∧ Below w.heap.size w w' := by
  by_cases hfar : 40 < l.length
  · have hno : ¬ Ok l := fun h => by have := h.1; omega
    go_enter Try.func14, Try.ntmps14
    go_wp2_with (go_at_call 20; with_reducible refine Calls.mono (Far_any _ _ _ _ hla) ?_; rintro e w' ⟨rfl, rfl⟩)
    go_ret
    exact ⟨ret_bool (decide_eq_false hno).symm, by (repeat (first | with_reducible exact Below.refl _ _ | with_reducible apply bl_alloc | with_reducible apply bl_drew | with_reducible apply bl_after | (with_reducible refine bl_call ?_ (by assumption))))⟩
  · by_cases hok : Ok l
    · have hc := rCheck_any A ca l w ha (by omega)
      rw [chk_ok hok] at hc
      go_enter Try.func14, Try.ntmps14
      go_wp2_with (first | (go_at_call 20; with_reducible refine Calls.mono (Far_any _ _ _ _ hla) ?_; rintro e w' ⟨rfl, rfl⟩) | (go_at_call 23; with_reducible refine Calls.mono (hc) ?_; rintro e w1 ⟨rfl, hb1⟩; first | ((with_reducible apply kp_in_step (hb := hb1)); (with_reducible assumption); rintro ⟨hk, hc, hf, hzc, hzf⟩) | ((with_reducible refine kp_in_first hb1 ?_); rintro ⟨hk, hc, hf, hzc, hzf⟩)))
      go_ret
      exact ⟨ret_bool (decide_eq_true hok).symm, by (repeat (first | with_reducible exact Below.refl _ _ | with_reducible apply bl_alloc | with_reducible apply bl_drew | with_reducible apply bl_after | (with_reducible refine bl_call ?_ (by assumption))))⟩
    · have hc := rCheck_any A ca l w ha (by omega)
      rw [chk_no hok] at hc
      go_enter Try.func14, Try.ntmps14
      go_wp2_with (first | (go_at_call 20; with_reducible refine Calls.mono (Far_any _ _ _ _ hla) ?_; rintro e w' ⟨rfl, rfl⟩) | (go_at_call 23; with_reducible refine Calls.mono (hc) ?_; rintro e w1 ⟨rfl, hb1⟩; first | ((with_reducible apply kp_in_step (hb := hb1)); (with_reducible assumption); rintro ⟨hk, hc, hf, hzc, hzf⟩) | ((with_reducible refine kp_in_first hb1 ?_); rintro ⟨hk, hc, hf, hzc, hzf⟩)))
      go_ret
      exact ⟨ret_bool (decide_eq_false hok).symm, by (repeat (first | with_reducible exact Below.refl _ _ | with_reducible apply bl_alloc | with_reducible apply bl_drew | with_reducible apply bl_after | (with_reducible refine bl_call ?_ (by assumption))))⟩

theorem abs_any (n : Int) (w : World) (h1 : -9223372036854775807 ≤ n) (h2 : n ≤ 9223372036854775807) :
    Calls Try.prog 19 #[(Value.int .i64 (n))] w fun e w' => e = .returned (Value.int .i64 (max n (-n))) ∧ w = w' := by
  go_enter Try.func19, Try.ntmps19
  go_wp2
  go_ret
  exact ⟨rfl, rfl⟩

def big : Int := 1125899906842624
set_option maxRecDepth 100000 in
set_option maxHeartbeats 1000000 in
theorem sane_any (b ca : Nat) (vs : List Int) (w : World) (hb : Blk w b 3 (vs.map fun n => (Value.int .i64 (n))).toArray) (hv : ∀ n ∈ vs, -big ≤ n ∧ n ≤ big) (hl : vs.length ≤ 1000) :
    Calls Try.prog 18 #[.slice (some ⟨b, 0, none⟩) vs.length ca] w fun e w' => e = .returned (.bool true) ∧ w = w' := by
  have hlt := hb.lt
  have hx : ∀ k, k < vs.length → ∃ n, w.cell? ⟨b, k, none⟩ = some (Value.int .i64 (n)) ∧ -big ≤ n ∧ n ≤ big := by
    intro k hk
    have := hb.cell k
    rw [List.getElem?_toArray, List.getElem?_map, List.getElem?_eq_getElem hk] at this
    exact ⟨vs[k], this, hv _ (List.getElem_mem hk)⟩
  replace hx := Lib.hid hx
  clear hv hb
  go_enter Try.func18, Try.ntmps18
  go_wp2
  go_loopw [3] (fun i wr => ∃ k : Nat, k ≤ vs.length ∧ i = (Value.int .i64 ((k : Int))) ∧ wr = w) (fun i _ => vs.length - (intOf i).toNat)
  case atStart => exact ⟨0, Nat.zero_le _, rfl, rfl⟩
  case round =>
    obtain ⟨k, kn, rfl, rfl⟩ := hrel
    by_cases hlt2 : k < vs.length
    · obtain ⟨n, x1, n1, n2⟩ := hx.out k hlt2
      unfold big at n1 n2
      have y1 : ¬ n < -1125899906842624 := by omega
      have y2 : ¬ 1125899906842624 < n := by omega
      go_wp2
      go_roundw
      case rel => exact ⟨k + 1, by omega, by go_num, by first | rfl | trivial⟩
      case measure => simp [intOf]; omega
    · go_wp2
      go_ret
      exact ⟨rfl, rfl⟩
theorem sane3 {b : Nat} {x y z : Int} {w : World} (hb : Blk w b 3 #[(Value.int .i64 (x)), (Value.int .i64 (y)), (Value.int .i64 (z))]) (hx : -big ≤ x ∧ x ≤ big) (hy : -big ≤ y ∧ y ≤ big) (hz : -big ≤ z ∧ z ≤ big) :
    Calls Try.prog 18 #[.slice (some ⟨b, 0, none⟩) 3 3] w fun e w' => e = .returned (.bool true) ∧ w = w' :=
  sane_any b 3 [x, y, z] w hb (by intro n hn; simp at hn; rcases hn with rfl | rfl | rfl <;> assumption) (by simp)
theorem sane2 {b : Nat} {x y : Int} {w : World} (hb : Blk w b 3 #[(Value.int .i64 (x)), (Value.int .i64 (y))]) (hx : -big ≤ x ∧ x ≤ big) (hy : -big ≤ y ∧ y ≤ big) :
    Calls Try.prog 18 #[.slice (some ⟨b, 0, none⟩) 2 2] w fun e w' => e = .returned (.bool true) ∧ w = w' :=
  sane_any b 2 [x, y] w hb (by intro n hn; simp at hn; rcases hn with rfl | rfl <;> assumption) (by simp)
theorem sane4 {b : Nat} {x y z u : Int} {w : World} (hb : Blk w b 3 #[(Value.int .i64 (x)), (Value.int .i64 (y)), (Value.int .i64 (z)), (Value.int .i64 (u))]) (hx : -big ≤ x ∧ x ≤ big) (hy : -big ≤ y ∧ y ≤ big) (hz : -big ≤ z ∧ z ≤ big) (hu : -big ≤ u ∧ u ≤ big) :
    Calls Try.prog 18 #[.slice (some ⟨b, 0, none⟩) 4 4] w fun e w' => e = .returned (.bool true) ∧ w = w' :=
  sane_any b 4 [x, y, z, u] w hb (by intro n hn; simp at hn; rcases hn with rfl | rfl | rfl | rfl <;> assumption) (by simp)
theorem sane6 {b : Nat} {x y z u v t : Int} {w : World} (hb : Blk w b 3 #[(Value.int .i64 (x)), (Value.int .i64 (y)), (Value.int .i64 (z)), (Value.int .i64 (u)), (Value.int .i64 (v)), (Value.int .i64 (t))]) (hx : -big ≤ x ∧ x ≤ big) (hy : -big ≤ y ∧ y ≤ big) (hz : -big ≤ z ∧ z ≤ big) (hu : -big ≤ u ∧ u ≤ big) (hv : -big ≤ v ∧ v ≤ big) (ht : -big ≤ t ∧ t ≤ big) :
    Calls Try.prog 18 #[.slice (some ⟨b, 0, none⟩) 6 6] w fun e w' => e = .returned (.bool true) ∧ w = w' :=
  sane_any b 6 [x, y, z, u, v, t] w hb (by intro n hn; simp at hn; rcases hn with rfl | rfl | rfl | rfl | rfl | rfl <;> assumption) (by simp)
end Go.Proofs.Ytijpolfmiajenaa
