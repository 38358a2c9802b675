/- The function that looks for a point that is none, as corners.Check calls it, finds the first one, for points in memory. -/
import Derived.Test.YthijegacjboclaaGreatSl
import Derived.Deep.LoopGhost
namespace Go.Proofs.YthijegacjboclaaGreat
open Go.RowKit
attribute [local go_sem] After.cell After.frozen

/-- The first place from k on at which g holds, of n more; -1: none. -/
def findFrom (g : Pt → Bool) (l : List Pt) : Int := match l.findIdx? g with | some i => (i : Int) | none => -1

set_option maxRecDepth 100000 in
set_option maxHeartbeats 1000000 in
theorem IndexFunc_any (A : Option Addr) (ca cf : Nat) (lb : Array Value) (g : Pt → Bool) (l : List Pt) (w : World) (ha : Pts w A l) (hla : l.length ≤ 1000000)
    (eg : ∀ args w, (callFunc cf args).run Tryz.prog w = .ok (.enter cf args) w)
    (hof : ∀ (p : Pt) (W : World), Below w.heap.size w W → Calls Tryz.prog cf (#[(Value.agg #[.int .i64 p.1, .int .i64 p.2])] ++ lb) W fun e w' => e = .returned (.bool (g p)) ∧ Below W.heap.size W w') :
    Calls Tryz.prog 100 #[.slice A l.length ca, .func (.func cf) #[] lb] w fun e w' => e = .returned (Value.int .i64 (findFrom g l)) ∧ Below w.heap.size w w' := by
  go_enter Tryz.func100, Tryz.ntmps100
  go_wp2
  go_loopg [8] l.length (fun n i wr => ∃ k : Nat, k ≤ l.length ∧ n = l.length - k ∧ i = (Value.int .i64 ((k : Int))) ∧ (∀ j, j < k → g (pat l j) = false) ∧ Below w.heap.size w wr)
  case atStart => exact ⟨0, Nat.zero_le _, rfl, rfl, (fun j hj => by omega), by (repeat (first | with_reducible exact Below.refl _ _ | with_reducible apply bl_alloc | with_reducible apply bl_drew | with_reducible apply bl_after | (with_reducible refine bl_call ?_ (by assumption))))⟩
  case round =>
    obtain ⟨k, kn, rfl, rfl, HS, hbw⟩ := hrel
    replace HS := Lib.hid HS
    by_cases hlt : k < l.length
    · obtain ⟨b, o, rfl, pa⟩ := (ha.below hbw).at_ hlt
      have x1 := pa.xp hlt
      have x2 := pa.yp hlt
      have lb' := pa.lt
      have hc0 := hof (pat l k) wr hbw
      by_cases hg : g (pat l k) = true
      · rw [hg] at hc0
        go_wp2_with ((with_reducible refine Calls.mono hc0 ?_); rintro e w1 ⟨rfl, hb1⟩)
        go_ret
        refine ⟨ret_int ?_, by (repeat (first | with_reducible exact Below.refl _ _ | with_reducible apply bl_alloc | with_reducible apply bl_drew | with_reducible apply bl_after | (with_reducible refine bl_call ?_ (by assumption))))⟩
        have : l.findIdx? g = some k := by
          rw [List.findIdx?_eq_some_iff_getElem]
          exact ⟨hlt, by rw [pat_eq hlt]; exact hg, fun j hj => by rw [pat_eq (by omega)]; simp [HS.out j hj]⟩
        simp [findFrom, this]
      · have hg' : g (pat l k) = false := by simpa using hg
        rw [hg'] at hc0
        go_wp2_with ((with_reducible refine Calls.mono hc0 ?_); rintro e w1 ⟨rfl, hb1⟩)
        go_roundg (l.length - (k + 1))
        case measure => omega
        case rel => exact ⟨k + 1, by omega, rfl, by go_num, (fun j hj => by rcases Nat.lt_succ_iff_lt_or_eq.1 hj with h | h; exact HS.out j h; subst h; exact hg'), by (repeat (first | with_reducible exact Below.refl _ _ | with_reducible apply bl_alloc | with_reducible apply bl_drew | with_reducible apply bl_after | (with_reducible refine bl_call ?_ (by assumption))))⟩
    · go_wp2
      obtain rfl : k = l.length := by omega
      go_ret
      refine ⟨ret_int ?_, by (repeat (first | with_reducible exact Below.refl _ _ | with_reducible apply bl_alloc | with_reducible apply bl_drew | with_reducible apply bl_after | (with_reducible refine bl_call ?_ (by assumption))))⟩
      have : l.findIdx? g = none := by
        rw [List.findIdx?_eq_none_iff]
        intro x hx
        obtain ⟨i, hi, rfl⟩ := List.getElem_of_mem hx
        rw [pat_eq hi]
        exact HS.out i hi
      simp [findFrom, this]

theorem findFrom_nonneg (g : Pt → Bool) (l : List Pt) : decide (0 ≤ findFrom g l) = l.any g := by
  unfold findFrom
  cases h : l.findIdx? g with
  | some i =>
    rw [List.findIdx?_eq_some_iff_getElem] at h
    obtain ⟨hi, hg, _⟩ := h
    have : l.any g = true := List.any_eq_true.2 ⟨l[i], List.getElem_mem hi, hg⟩
    rw [this]
    simp
  | none =>
    rw [List.findIdx?_eq_none_iff] at h
    have : l.any g = false := by rw [List.any_eq_false]; intro x hx; simp [h x hx]
    rw [this]
    simp

set_option maxHeartbeats 400000 in
theorem ContainsFunc_any (A : Option Addr) (ca cf : Nat) (lb : Array Value) (g : Pt → Bool) (l : List Pt) (w : World) (ha : Pts w A l) (hla : l.length ≤ 1000000)
    (eg : ∀ args w, (callFunc cf args).run Tryz.prog w = .ok (.enter cf args) w)
    (hof : ∀ (p : Pt) (W : World), Below w.heap.size w W → Calls Tryz.prog cf (#[(Value.agg #[.int .i64 p.1, .int .i64 p.2])] ++ lb) W fun e w' => e = .returned (.bool (g p)) ∧ Below W.heap.size W w') :
    Calls Tryz.prog 82 #[.slice A l.length ca, .func (.func cf) #[] lb] w fun e w' => e = .returned (.bool (l.any g)) ∧ Below w.heap.size w w' := by
  have hI := IndexFunc_any A ca cf lb g l w ha hla eg hof
  clear hof eg
  go_enter Tryz.func82, Tryz.ntmps82
  go_wp2_with ((with_reducible refine Calls.mono hI ?_); rintro e w1 ⟨rfl, hb1⟩)
  go_ret
  exact ⟨by rw [← findFrom_nonneg]; rfl, by (repeat (first | with_reducible exact Below.refl _ _ | with_reducible apply bl_alloc | with_reducible apply bl_drew | with_reducible apply bl_after | (with_reducible refine bl_call ?_ (by assumption))))⟩

set_option maxHeartbeats 400000 in
theorem Check1_any (p : Pt) (w : World) :
    Calls Tryz.prog 83 #[(Value.agg #[.int .i64 p.1, .int .i64 p.2])] w fun e w' => e = .returned (.bool (!isPt p)) ∧ Below w.heap.size w w' := by
  go_enter Tryz.func83, Tryz.ntmps83
  go_wp2_with (go_at_call 84; with_reducible refine Calls.mono (isPoint_any _ _) ?_; rintro e w1 ⟨rfl, hb1⟩; first | ((with_reducible apply kp_in_step (hb := hb1)); (with_reducible assumption); rintro ⟨hk, hc, hf, hzc, hzf⟩) | ((with_reducible refine kp_in_first hb1 ?_); rintro ⟨hk, hc, hf, hzc, hzf⟩))
  go_ret
  exact ⟨rfl, by (repeat (first | with_reducible exact Below.refl _ _ | with_reducible apply bl_alloc | with_reducible apply bl_drew | with_reducible apply bl_after | (with_reducible refine bl_call ?_ (by assumption))))⟩
end Go.Proofs.YthijegacjboclaaGreat
