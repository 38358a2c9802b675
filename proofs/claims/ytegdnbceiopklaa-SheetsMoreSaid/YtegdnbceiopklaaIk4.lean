/- The functions isKnown, in and subset of the laws of sheets. -/
import Derived.Test.YtegdnbceiopklaaLa4
import Derived.Test.YtegdnbceiopklaaMo4
namespace Go.Proofs.Ytegdnbceiopklaa
open Go.RowKit
attribute [local go_sem] After.cell After.frozen

set_option maxHeartbeats 1000000 in
theorem isKnown4 (n : Int) (h : n = 0 ∨ n = 3) (w : World) :
    Calls Try.prog 40 #[(Value.int .i64 (n))] w fun e w' => e = .returned (.bool true) ∧ w = w' := by
  rcases h with rfl | rfl
  all_goals
    go_enter Try.func40, Try.ntmps40
    go_wp2
    go_ret
    exact ⟨rfl, rfl⟩
set_option maxRecDepth 100000 in
set_option maxHeartbeats 1000000 in
theorem in4 (A : Option Addr) (ca : Nat) (l : List Int) (x : Int) (hx : x ∈ l) (w : World) (ha : Ints w A l) (hl : l.length ≤ 1000000) :
    Calls Try.prog 105 #[.slice A l.length ca, (Value.int .i64 (x))] w fun e w' => e = .returned (.bool true) ∧ Below w.heap.size w w' := by
  have HX := Lib.hid hx
  clear hx
  go_enter Try.func105, Try.ntmps105
  go_wp2
  go_loopw [5] (fun i wr => ∃ k : Nat, k ≤ l.length ∧ i = (Value.int .i64 ((k : Int))) ∧ (∀ j, j < k → iat l j ≠ x) ∧ Below w.heap.size w wr) (fun i _ => l.length - (intOf i).toNat)
  case atStart => exact ⟨0, Nat.zero_le _, rfl, (fun j hj => by omega), by (repeat (first | with_reducible exact Below.refl _ _ | with_reducible apply bl_alloc | with_reducible apply bl_drew | with_reducible apply bl_after | (with_reducible refine bl_call ?_ (by assumption))))⟩
  case round =>
    obtain ⟨k, kn, rfl, HR, hbw⟩ := hrel
    replace HR := Lib.hid HR
    by_cases hlt : k < l.length
    · obtain ⟨b, o, rfl, pa⟩ := (ha.below hbw).at_ hlt
      have x1 := pa.xi hlt
      have lb := pa.lt
      have i1 : (k : Int) < (l.length : Int) := by omega
      by_cases he : iat l k = x
      · have he' : (iat l k == x) = true := by rw [he]; simp
        clear he
        go_wp2
        go_ret
        exact ⟨rfl, by (repeat (first | with_reducible exact Below.refl _ _ | with_reducible apply bl_alloc | with_reducible apply bl_drew | with_reducible apply bl_after | (with_reducible refine bl_call ?_ (by assumption))))⟩
      · have he' : (iat l k == x) = false := by rw [beq_eq_false_iff_ne]; exact he
        have hfin : Hid (∀ j, j < k + 1 → iat l j ≠ x) := Lib.hid fun j hj => by
          rcases Nat.lt_succ_iff_lt_or_eq.1 hj with h | h
          · exact HR.out j h
          · rw [h]; exact he
        clear he
        go_wp2
        go_roundw
        case rel => exact ⟨k + 1, by omega, by go_num, hfin.out, by (repeat (first | with_reducible exact Below.refl _ _ | with_reducible apply bl_alloc | with_reducible apply bl_drew | with_reducible apply bl_after | (with_reducible refine bl_call ?_ (by assumption))))⟩
        case measure => simp [intOf]; omega
    · exfalso
      obtain ⟨j, hj, e⟩ := List.getElem_of_mem HX.out
      rw [iat_eq hj] at e
      exact HR.out j (by omega) e
set_option maxRecDepth 100000 in
set_option maxHeartbeats 1000000 in
theorem subset4 (A B : Option Addr) (ca cb : Nat) (l m : List Int) (hs : ∀ x ∈ l, x ∈ m) (hlm : l.length ≤ m.length) (w : World) (ha : Ints w A l) (hb : Ints w B m) (hm : m.length ≤ 1000000) :
    Calls Try.prog 83 #[.slice A l.length ca, .slice B m.length cb] w fun e w' => e = .returned (.bool true) ∧ Below w.heap.size w w' := by
  have HI := Lib.hid fun (x : Int) (hx : x ∈ l) (W : World) (h : Below w.heap.size w W) => in4 B cb m x (hs x hx) W (hb.below h) hm
  have i0 : (l.length : Int) ≤ (m.length : Int) := by omega
  clear hs hb
  go_enter Try.func83, Try.ntmps83
  go_wp2
  go_loopw [5] (fun i wr => ∃ k : Nat, k ≤ l.length ∧ i = (Value.int .i64 ((k : Int))) ∧ Below w.heap.size w wr) (fun i _ => l.length - (intOf i).toNat)
  case atStart => exact ⟨0, Nat.zero_le _, rfl, by (repeat (first | with_reducible exact Below.refl _ _ | with_reducible apply bl_alloc | with_reducible apply bl_drew | with_reducible apply bl_after | (with_reducible refine bl_call ?_ (by assumption))))⟩
  case round =>
    obtain ⟨k, kn, rfl, hbw⟩ := hrel
    by_cases hlt : k < l.length
    · obtain ⟨b, o, rfl, pa⟩ := (ha.below hbw).at_ hlt
      have x1 := pa.xi hlt
      have lb := pa.lt
      have i1 : (k : Int) < (l.length : Int) := by omega
      have hc := Lib.hid (HI.out (iat l k) (by rw [← iat_eq hlt]; exact List.getElem_mem hlt) wr hbw)
      go_wp2_with ((go_at_call 105); (with_reducible refine Calls.mono hc.out ?_); rintro e w1 ⟨rfl, hb1⟩; (have hbx := bl_call hbw hb1); first | ((with_reducible apply kp_in_step (hb := hb1)); (with_reducible assumption); rintro ⟨hk, hc, hf, hzc, hzf⟩) | ((with_reducible refine kp_in_first hb1 ?_); rintro ⟨hk, hc, hf, hzc, hzf⟩))
      go_roundw
      case rel => exact ⟨k + 1, by omega, by go_num, hbx⟩
      case measure => simp [intOf]; omega
    · obtain rfl : k = l.length := by omega
      go_wp2
      go_ret
      exact ⟨rfl, by (repeat (first | with_reducible exact Below.refl _ _ | with_reducible apply bl_alloc | with_reducible apply bl_drew | with_reducible apply bl_after | (with_reducible refine bl_call ?_ (by assumption))))⟩
end Go.Proofs.Ytegdnbceiopklaa
