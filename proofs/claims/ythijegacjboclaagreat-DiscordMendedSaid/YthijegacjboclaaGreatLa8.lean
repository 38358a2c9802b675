/- The functions sameInts, in, subset and isKnown of the laws of disputes. -/
import Derived.Test.YthijegacjboclaaGreatQt
import Derived.Test.YthijegacjboclaaGreatInts
namespace Go.Proofs.YthijegacjboclaaGreat
open Go.RowKit
attribute [local go_sem] After.cell After.frozen

theorem int_ext {l m : List Int} (h : l.length = m.length) (e : ∀ j, j < l.length → iat l j = iat m j) : l = m := by
  refine List.ext_getElem h fun i h1 h2 => ?_
  rw [iat_eq h1, iat_eq h2]
  exact e i h1
set_option maxRecDepth 100000 in
set_option maxHeartbeats 1000000 in
theorem sameInts8 (A B : Option Addr) (ca cb : Nat) (l m : List Int) (w : World) (ha : Ints w A l) (hb : Ints w B m) (hl : l.length ≤ 1000000) (_ : m.length ≤ 1000000) :
    Calls Tryz.prog 14 #[.slice A l.length ca, .slice B m.length cb] w fun e w' => e = .returned (.bool (decide (l = m))) ∧ Below w.heap.size w w' := by
  by_cases hlm : l.length = m.length
  · have hne : ((l.length : Int) != (m.length : Int)) = false := by rw [hlm]; simp
    have HL := Lib.hid hlm
    clear hlm
    go_enter Tryz.func14, Tryz.ntmps14
    go_wp2
    go_loopw [5] (fun i wr => ∃ k : Nat, k ≤ l.length ∧ i = (Value.int .i64 ((k : Int))) ∧ (∀ j, j < k → iat l j = iat m j) ∧ Below w.heap.size w wr) (fun i _ => l.length - (intOf i).toNat)
    case atStart => exact ⟨0, Nat.zero_le _, rfl, (fun j hj => by omega), by (repeat (first | with_reducible exact Below.refl _ _ | with_reducible apply bl_alloc | with_reducible apply bl_drew | with_reducible apply bl_after | (with_reducible refine bl_call ?_ (by assumption))))⟩
    case round =>
      obtain ⟨k, kn, rfl, HR, hbw⟩ := hrel
      replace HR := Lib.hid HR
      by_cases hlt : k < l.length
      · obtain ⟨b, o, rfl, pa⟩ := (ha.below hbw).at_ hlt
        have hlt2 : k < m.length := by have := HL.out; omega
        obtain ⟨b', o', rfl, pb⟩ := (hb.below hbw).at_ hlt2
        have x1 := pa.xi hlt
        have lb := pa.lt
        have x3 := pb.xi hlt2
        have lb2 := pb.lt
        have i1 : (k : Int) < (l.length : Int) := by omega
        have i2 : (k : Int) < (m.length : Int) := by omega
        by_cases he : iat l k = iat m k
        · have he' : (iat l k != iat m k) = false := by rw [he]; simp
          have hfin : Hid (∀ j, j < k + 1 → iat l j = iat m j) := Lib.hid fun j hj => by
            rcases Nat.lt_succ_iff_lt_or_eq.1 hj with h | h
            · exact HR.out j h
            · rw [h]; exact he
          clear he
          go_wp2
          refine wp_region_after (by kernel_rfl) (by kernel_rfl) ?_; (repeat (go_big_quiet_step ((fail)))); refine wpQuiet_nil ?_; rintro _ ⟨z, rfl⟩; (first | ((with_reducible apply kp_in_after (z := z)); (with_reducible assumption); rintro ⟨hk, hc, hf, hzc, hzf⟩) | ((with_reducible refine kp_in_after0 z ?_); rintro ⟨hk, hc, hf, hzc, hzf⟩))
          go_wp2
          go_roundw
          case rel => exact ⟨k + 1, by omega, by go_num, hfin.out, by (repeat (first | with_reducible exact Below.refl _ _ | with_reducible apply bl_alloc | with_reducible apply bl_drew | with_reducible apply bl_after | (with_reducible refine bl_call ?_ (by assumption))))⟩
          case measure => simp [intOf]; omega
        · have he' : (iat l k != iat m k) = true := by rw [bne_iff_ne]; exact he
          have hfin : Hid (decide (l = m) = false) := Lib.hid (decide_eq_false fun h => he (by rw [h]))
          clear he
          go_wp2
          refine wp_region_after (by kernel_rfl) (by kernel_rfl) ?_; (repeat (go_big_quiet_step ((fail)))); refine wpQuiet_nil ?_; rintro _ ⟨z, rfl⟩; (first | ((with_reducible apply kp_in_after (z := z)); (with_reducible assumption); rintro ⟨hk, hc, hf, hzc, hzf⟩) | ((with_reducible refine kp_in_after0 z ?_); rintro ⟨hk, hc, hf, hzc, hzf⟩))
          go_wp2
          go_ret
          refine ⟨ret_bool hfin.out.symm, by (repeat (first | with_reducible exact Below.refl _ _ | with_reducible apply bl_alloc | with_reducible apply bl_drew | with_reducible apply bl_after | (with_reducible refine bl_call ?_ (by assumption))))⟩
      · have hfin : Hid (decide (l = m) = true) := Lib.hid (decide_eq_true (int_ext HL.out fun j hj => HR.out j (by omega)))
        obtain rfl : k = l.length := by omega
        go_wp2
        go_ret
        refine ⟨ret_bool hfin.out.symm, by (repeat (first | with_reducible exact Below.refl _ _ | with_reducible apply bl_alloc | with_reducible apply bl_drew | with_reducible apply bl_after | (with_reducible refine bl_call ?_ (by assumption))))⟩
  · have hne : ((l.length : Int) != (m.length : Int)) = true := by rw [bne_iff_ne]; omega
    have hfin : Hid (decide (l = m) = false) := Lib.hid (decide_eq_false fun h => hlm (by rw [h]))
    clear hlm
    go_enter Tryz.func14, Tryz.ntmps14
    go_wp2
    go_ret
    exact ⟨ret_bool hfin.out.symm, by (repeat (first | with_reducible exact Below.refl _ _ | with_reducible apply bl_alloc | with_reducible apply bl_drew | with_reducible apply bl_after | (with_reducible refine bl_call ?_ (by assumption))))⟩

set_option maxRecDepth 100000 in
set_option maxHeartbeats 1000000 in
theorem in8_any (A : Option Addr) (ca : Nat) (l : List Int) (n : Int) (w : World) (ha : Ints w A l) (hl : l.length ≤ 1000000) :
    Calls Tryz.prog 20 #[.slice A l.length ca, (Value.int .i64 (n))] w fun e w' => e = .returned (.bool (decide (n ∈ l))) ∧ Below w.heap.size w w' := by
  go_enter Tryz.func20, Tryz.ntmps20
  go_wp2
  go_loopw [5] (fun i wr => ∃ k : Nat, k ≤ l.length ∧ i = (Value.int .i64 ((k : Int))) ∧ Hid (∀ j, j < k → iat l j ≠ n) ∧ Below w.heap.size w wr) (fun i _ => l.length - (intOf i).toNat)
  case atStart => exact ⟨0, Nat.zero_le _, rfl, Lib.hid fun j hj => absurd hj (Nat.not_lt_zero _), Below.refl _ _⟩
  case round =>
    obtain ⟨k, kn, rfl, hall, hbw⟩ := hrel
    by_cases hlt : k < l.length
    · obtain ⟨b, o, rfl, pa⟩ := (ha.below hbw).at_ hlt
      have x1 := pa.xi hlt
      have lb := pa.lt
      have i0 : (0 : Int) ≤ (k : Int) := by omega
      have i1 : (k : Int) < (l.length : Int) := by omega
      clear pa
      by_cases he : iat l k = n
      · have hd : (iat l k == n) = true := beq_iff_eq.2 he
        have hfin : Hid (decide (n ∈ l) = true) := Lib.hid (decide_eq_true (by rw [← he, ← iat_eq hlt]; exact List.getElem_mem hlt))
        clear he
        go_wp2
        go_ret
        exact ⟨ret_bool hfin.out.symm, hbw⟩
      · have hd : (iat l k == n) = false := beq_eq_false_iff_ne.2 he
        have hfin : Hid (∀ j, j < k + 1 → iat l j ≠ n) := Lib.hid fun j hj => by
          rcases Nat.lt_succ_iff_lt_or_eq.1 hj with h | h
          · exact hall.out j h
          · rw [h]; exact he
        clear he
        go_wp2
        go_roundw
        case rel => exact ⟨k + 1, by omega, by go_num, hfin, hbw⟩
        case measure => simp [intOf]; omega
    · obtain rfl : k = l.length := by omega
      have hfin : Hid (decide (n ∈ l) = false) := Lib.hid (decide_eq_false fun h => by
        obtain ⟨i, hi, e⟩ := List.getElem_of_mem h
        rw [iat_eq hi] at e
        exact hall.out i hi e)
      go_wp2
      go_ret
      exact ⟨ret_bool hfin.out.symm, hbw⟩
def subB (l m : List Int) : Bool := (l.all fun n => decide (n ∈ m)) && decide (l.length ≤ m.length)
set_option maxRecDepth 100000 in
set_option maxHeartbeats 1000000 in
theorem subset8_any (A B : Option Addr) (ca cb : Nat) (l m : List Int) (w : World) (ha : Ints w A l) (hl : l.length ≤ 1000000) (hb : Ints w B m) (hlm : m.length ≤ 1000000) :
    Calls Tryz.prog 26 #[.slice A l.length ca, .slice B m.length cb] w fun e w' => e = .returned (.bool (subB l m)) ∧ Below w.heap.size w w' := by
  have HI := Lib.hid fun (W : World) (h : Below w.heap.size w W) (n : Int) => in8_any B cb m n W (hb.below h) hlm
  clear hb
  go_enter Tryz.func26, Tryz.ntmps26
  go_wp2
  go_loopw [5] (fun i wr => ∃ k : Nat, k ≤ l.length ∧ i = (Value.int .i64 ((k : Int))) ∧ Hid (∀ j, j < k → iat l j ∈ m) ∧ Below w.heap.size w wr) (fun i _ => l.length - (intOf i).toNat)
  case atStart => exact ⟨0, Nat.zero_le _, rfl, Lib.hid fun j hj => absurd hj (Nat.not_lt_zero _), Below.refl _ _⟩
  case round =>
    obtain ⟨k, kn, rfl, hall, hbw⟩ := hrel
    by_cases hlt : k < l.length
    · obtain ⟨b, o, rfl, pa⟩ := (ha.below hbw).at_ hlt
      have x1 := pa.xi hlt
      have lb := pa.lt
      have i0 : (0 : Int) ≤ (k : Int) := by omega
      have i1 : (k : Int) < (l.length : Int) := by omega
      have hI := HI.out wr hbw (iat l k)
      clear pa
      by_cases he : iat l k ∈ m
      · have hfin : Hid (∀ j, j < k + 1 → iat l j ∈ m) := Lib.hid fun j hj => by
          rcases Nat.lt_succ_iff_lt_or_eq.1 hj with h | h
          · exact hall.out j h
          · rw [h]; exact he
        rw [decide_eq_true he] at hI
        replace hI := Lib.hid hI
        clear he
        go_wp2_with ((go_at_call 20); (with_reducible refine Calls.mono hI.out ?_); rintro e w1 ⟨rfl, hb1⟩)
        go_roundw
        case rel => exact ⟨k + 1, by omega, by go_num, hfin, hbw.trans (hb1.mono hbw.size)⟩
        case measure => simp [intOf]; omega
      · have hfin : Hid (subB l m = false) := Lib.hid (by
          have : (l.all fun n => decide (n ∈ m)) = false := by
            rw [List.all_eq_false]
            exact ⟨iat l k, by rw [← iat_eq hlt]; exact List.getElem_mem hlt, by simp [he]⟩
          rw [subB, this, Bool.false_and])
        rw [decide_eq_false he] at hI
        replace hI := Lib.hid hI
        clear he
        go_wp2_with ((go_at_call 20); (with_reducible refine Calls.mono hI.out ?_); rintro e w1 ⟨rfl, hb1⟩)
        go_ret
        exact ⟨ret_bool hfin.out.symm, hbw.trans (hb1.mono hbw.size)⟩
    · obtain rfl : k = l.length := by omega
      have hfin : Hid (subB l m = decide (l.length ≤ m.length)) := Lib.hid (by
        have : (l.all fun n => decide (n ∈ m)) = true := by
          rw [List.all_eq_true]
          intro x hx
          obtain ⟨i, hi, rfl⟩ := List.getElem_of_mem hx
          rw [iat_eq hi]
          exact decide_eq_true (hall.out i hi)
        rw [subB, this, Bool.true_and])
      go_wp2
      go_ret
      exact ⟨ret_bool hfin.out.symm, hbw⟩
/-- Whether an error is none, or that there is nothing. -/
def knE (e : Int) : Bool := (e == 0) || (e == 3)
set_option maxHeartbeats 400000 in
theorem isKnown8_any (e : Int) (w : World) :
    Calls Tryz.prog 29 #[(Value.int .i64 (e))] w fun r w' => r = .returned (.bool (knE e)) ∧ w = w' := by
  go_enter Tryz.func29, Tryz.ntmps29
  go_wp2
  all_goals (go_ret; refine ⟨ret_bool ?_, rfl⟩; first | (simp [knE, *]; done) | (simp [knE]; omega) | trace_state)
end Go.Proofs.YthijegacjboclaaGreat
