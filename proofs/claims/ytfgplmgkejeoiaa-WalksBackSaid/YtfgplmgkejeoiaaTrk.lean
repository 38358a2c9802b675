/- The functions of walks and of its reference that tell whether a track and a walk are valid, for at most a million points. -/
import Derived.Test.YtfgplmgkejeoiaaFind
import Derived.Test.YtfgplmgkejeoiaaSum
namespace Go.Proofs.Ytfgplmgkejeoiaa
open Go.RowKit
attribute [local go_sem] After.cell After.frozen

structure Trk where
  pts : List Pt
  closed : Int
  lo : Int
  hi : Int
/-- From 1 to m points, with such numbers. -/
def arePts (l : List Pt) (m : Int) : Bool := l.all isPt && within l.length 1 m
def walkB (l : List Pt) : Bool := arePts l 8
def trkB (T : Trk) : Bool := arePts T.pts 8 && within T.closed 0 1 && (T.closed == 0 || decide (3 ≤ T.pts.length)) && within T.lo 0 T.hi && decide (T.hi ≤ 320000)
def chkT (T : Trk) (m : List Pt) : Int := if trkB T = true then (if walkB m = true then 0 else 51) else 50
theorem any_all (l : List Pt) : (l.any fun p => !isPt p) = !l.all isPt := by
  induction l with
  | nil => rfl
  | cons a t ih => simp only [List.any_cons, List.all_cons, ih]; cases isPt a <;> simp
theorem walkB_bd {l : List Pt} (h : walkB l = true) : (1 ≤ l.length ∧ l.length ≤ 8) ∧ ∀ i, i < l.length → isPt (pat l i) = true := by
  simp only [walkB, arePts, within, Bool.and_eq_true, decide_eq_true_eq, List.all_eq_true] at h
  refine ⟨by omega, fun i hi => h.1 _ ?_⟩
  rw [← pat_eq hi]
  exact List.getElem_mem hi
theorem trkB_bd {T : Trk} (h : trkB T = true) : ((1 ≤ T.pts.length ∧ T.pts.length ≤ 8) ∧ ∀ i, i < T.pts.length → isPt (pat T.pts i) = true) ∧ (T.closed = 0 ∨ T.closed = 1) ∧ (T.closed = 0 ∨ 3 ≤ T.pts.length) ∧ 0 ≤ T.lo ∧ T.lo ≤ T.hi ∧ T.hi ≤ 320000 := by
  simp only [trkB, Bool.and_eq_true, Bool.or_eq_true, beq_iff_eq, decide_eq_true_eq] at h
  obtain ⟨⟨⟨⟨h1, h2⟩, h3⟩, h4⟩, h5⟩ := h
  refine ⟨walkB_bd h1, ?_, h3, ?_⟩
  · simp only [within, Bool.and_eq_true, decide_eq_true_eq] at h2; omega
  · simp only [within, Bool.and_eq_true, decide_eq_true_eq] at h4; omega

set_option maxHeartbeats 400000 in
theorem wWithin_any (n l h : Int) (w : World) :
    Calls Try.prog 81 #[(Value.int .i64 (n)), (Value.int .i64 (l)), (Value.int .i64 (h))] w fun e w' => e = .returned (.bool (within n l h)) ∧ w = w' := by
  go_enter Try.func81, Try.ntmps81
  go_wp2
  all_goals (go_ret; refine ⟨?_, rfl⟩; unfold within; simp; try omega)
set_option maxHeartbeats 400000 in
theorem r1Within_any (n l h : Int) (w : World) :
    Calls Try.prog 98 #[(Value.int .i64 (n)), (Value.int .i64 (l)), (Value.int .i64 (h))] w fun e w' => e = .returned (.bool (within n l h)) ∧ w = w' := by
  go_enter Try.func98, Try.ntmps98
  go_wp2
  all_goals (go_ret; refine ⟨?_, rfl⟩; unfold within; simp; try omega)
set_option maxHeartbeats 400000 in
theorem r5Within_any (n l h : Int) (w : World) :
    Calls Try.prog 77 #[(Value.int .i64 (n)), (Value.int .i64 (l)), (Value.int .i64 (h))] w fun e w' => e = .returned (.bool (within n l h)) ∧ w = w' := by
  go_enter Try.func77, Try.ntmps77
  go_wp2_with (go_at_call 98; with_reducible refine Calls.mono (r1Within_any _ _ _ _) ?_; rintro e w' ⟨rfl, rfl⟩)
  go_ret
  exact ⟨rfl, rfl⟩

set_option maxHeartbeats 400000 in
theorem isStrange_any (p : Pt) (w : World) :
    Calls Try.prog 62 #[(Value.agg #[.int .i64 p.1, .int .i64 p.2])] w fun e w' => e = .returned (.bool (!isPt p)) ∧ Below w.heap.size w w' := by
  go_enter Try.func62, Try.ntmps62
  go_wp2_with (go_at_call 81; with_reducible refine Calls.mono (wWithin_any _ _ _ _) ?_; rintro e w' ⟨rfl, rfl⟩)
  all_goals (go_ret; refine ⟨?_, (Below.refl _ _).alloc (Nat.le_refl _) _⟩; simp [isPt, *])
set_option maxHeartbeats 400000 in
theorem r5IsPoint_any (p : Pt) (w : World) :
    Calls Try.prog 45 #[(Value.agg #[.int .i64 p.1, .int .i64 p.2])] w fun e w' => e = .returned (.bool (isPt p)) ∧ Below w.heap.size w w' := by
  go_enter Try.func45, Try.ntmps45
  go_wp2_with (go_at_call 77; with_reducible refine Calls.mono (r5Within_any _ _ _ _) ?_; rintro e w' ⟨rfl, rfl⟩)
  all_goals (go_ret; refine ⟨?_, (Below.refl _ _).alloc (Nat.le_refl _) _⟩; simp [isPt, *])

theorem noStrange (A : Option Addr) (ca : Nat) (l : List Pt) (w : World) (ha : Pts w A l) (hla : l.length ≤ 1000000) :
    Calls Try.prog 67 #[.slice A l.length ca, .func (.func 62) #[] #[]] w fun e w' => e = .returned (.bool (!l.all isPt)) ∧ Below w.heap.size w w' := by
  have h := ContainsFunc_any A ca 62 #[] (fun p => !isPt p) l w ha hla (enters_of Try.func62 (by kernel_rfl) rfl) (fun p W _ => isStrange_any p W)
  rw [any_all] at h
  exact h
set_option maxHeartbeats 400000 in
theorem isWalk_any (A : Option Addr) (ca : Nat) (l : List Pt) (w : World) (ha : Pts w A l) (hla : l.length ≤ 1000000) :
    Calls Try.prog 51 #[.slice A l.length ca] w fun e w' => e = .returned (.bool (walkB l)) ∧ Below w.heap.size w w' := by
  have hs := Lib.hid (noStrange A ca l w ha hla)
  go_enter Try.func51, Try.ntmps51
  go_wp2_with (first | (go_at_call 81; with_reducible refine Calls.mono (wWithin_any _ _ _ _) ?_; rintro e w' ⟨rfl, rfl⟩) | (go_at_call 67; with_reducible refine Calls.mono (hs.out) ?_; rintro e w1 ⟨rfl, hb1⟩; first | ((with_reducible apply kp_in_step (hb := hb1)); (with_reducible assumption); rintro ⟨hk, hc, hf, hzc, hzf⟩) | ((with_reducible refine kp_in_first hb1 ?_); rintro ⟨hk, hc, hf, hzc, hzf⟩)))
  all_goals go_ret
  all_goals refine ⟨?_, by (repeat (first | with_reducible exact Below.refl _ _ | with_reducible apply bl_alloc | with_reducible apply bl_drew | with_reducible apply bl_after | (with_reducible refine bl_call ?_ (by assumption))))⟩
  all_goals (apply ret_bool; simp [walkB, arePts, *])
set_option maxHeartbeats 1000000 in
theorem isTrack_any (A : Option Addr) (ca : Nat) (T : Trk) (w : World) (ha : Pts w A T.pts) (hla : T.pts.length ≤ 1000000) :
    Calls Try.prog 59 #[(Value.agg #[.slice A T.pts.length ca, (Value.int .i64 (T.closed)), (Value.int .i64 (T.lo)), (Value.int .i64 (T.hi))])] w fun e w' => e = .returned (.bool (trkB T)) ∧ Below w.heap.size w w' := by
  have hs := fun (W : World) (h : Below w.heap.size w W) => noStrange A ca T.pts W (ha.below h) hla
  cases hall : T.pts.all isPt <;> rw [hall] at hs <;> simp only [Bool.not_true, Bool.not_false] at hs <;> replace hs := Lib.hid hs
  all_goals
    have hall' := Lib.hid hall
    clear hall
    go_enter Try.func59, Try.ntmps59
    go_wp2_with (first | (go_at_call 81; with_reducible refine Calls.mono (wWithin_any _ _ _ _) ?_; rintro e w' ⟨rfl, rfl⟩) | (go_at_call 67; with_reducible refine Calls.mono (hs.out _ (by (repeat (first | with_reducible exact Below.refl _ _ | with_reducible apply bl_alloc | with_reducible apply bl_drew | with_reducible apply bl_after | (with_reducible refine bl_call ?_ (by assumption)))))) ?_; rintro e w1 ⟨rfl, hb1⟩; first | ((with_reducible apply kp_in_step (hb := hb1)); (with_reducible assumption); rintro ⟨hk, hc, hf, hzc, hzf⟩) | ((with_reducible refine kp_in_first hb1 ?_); rintro ⟨hk, hc, hf, hzc, hzf⟩)))
    all_goals go_ret
    all_goals refine ⟨?_, by (repeat (first | with_reducible exact Below.refl _ _ | with_reducible apply bl_alloc | with_reducible apply bl_drew | with_reducible apply bl_after | (with_reducible refine bl_call ?_ (by assumption))))⟩
    all_goals (apply ret_bool; simp [trkB, arePts, hall'.out, *] <;> first | omega | (intro _; first | omega | simp [within]) | simp [within])

set_option maxHeartbeats 1000000 in
theorem arePoints_any (A : Option Addr) (ca : Nat) (l : List Pt) (m : Int) (w : World) (ha : Pts w A l) (hla : l.length ≤ 1000000) :
    Calls Try.prog 49 #[.slice A l.length ca, (Value.int .i64 (m))] w fun e w' => e = .returned (.bool (arePts l m)) ∧ Below w.heap.size w w' := by
  go_enter Try.func49, Try.ntmps49
  go_wp2
  go_loopw [5] (fun i wr => ∃ k : Nat, k ≤ l.length ∧ i = (Value.int .i64 ((k : Int))) ∧ Hid (∀ j, j < k → isPt (pat l j) = true) ∧ Below w.heap.size w wr) (fun i _ => l.length - (intOf i).toNat)
  case atStart => exact ⟨0, Nat.zero_le _, rfl, Lib.hid fun j hj => absurd hj (Nat.not_lt_zero _), by (repeat (first | with_reducible exact Below.refl _ _ | with_reducible apply bl_alloc | with_reducible apply bl_drew | with_reducible apply bl_after | (with_reducible refine bl_call ?_ (by assumption))))⟩
  case round =>
    obtain ⟨k, kn, rfl, hall, hbw⟩ := hrel
    by_cases hlt : k < l.length
    · obtain ⟨b, o, rfl, pa⟩ := (ha.below hbw).at_ hlt
      have x1 := pa.xp hlt
      have x2 := pa.yp hlt
      have lb := pa.lt
      clear pa
      cases hp : isPt (pat l k) with
      | true =>
        have hc0 := r5IsPoint_any (pat l k) wr
        rw [hp] at hc0
        have hfin : Hid (∀ j, j < k + 1 → isPt (pat l j) = true) := Lib.hid fun j hj => by
          rcases Nat.lt_succ_iff_lt_or_eq.1 hj with h | h
          · exact hall.out j h
          · rw [h]; exact hp
        clear hp
        go_wp2_with ((with_reducible refine Calls.mono hc0 ?_); rintro e w1 ⟨rfl, hb1⟩)
        go_roundw
        case rel => exact ⟨k + 1, by omega, by go_num, hfin, hbw.trans (hb1.mono hbw.size)⟩
        case measure => simp [intOf]; omega
      | false =>
        have hc0 := r5IsPoint_any (pat l k) wr
        rw [hp] at hc0
        have hfin : Hid (arePts l m = false) := Lib.hid (by
          have : l.all isPt = false := by
            rw [List.all_eq_false]
            exact ⟨pat l k, by rw [← pat_eq hlt]; exact List.getElem_mem hlt, by rw [hp]; exact Bool.false_ne_true⟩
          unfold arePts
          rw [this, Bool.false_and])
        clear hp
        go_wp2_with ((with_reducible refine Calls.mono hc0 ?_); rintro e w1 ⟨rfl, hb1⟩)
        go_ret
        exact ⟨ret_bool hfin.out.symm, hbw.trans (hb1.mono hbw.size)⟩
    · obtain rfl : k = l.length := by omega
      have hfin : Hid (arePts l m = within (l.length : Int) 1 m) := Lib.hid (by
        have : l.all isPt = true := by
          rw [List.all_eq_true]
          intro x hx
          obtain ⟨i, hi, rfl⟩ := List.getElem_of_mem hx
          rw [pat_eq hi]
          exact hall.out i hi
        unfold arePts
        rw [this, Bool.true_and])
      go_wp2_with (go_at_call 77; with_reducible refine Calls.mono (r5Within_any _ _ _ _) ?_; rintro e w' ⟨rfl, rfl⟩)
      go_ret
      exact ⟨ret_bool hfin.out.symm, hbw⟩
set_option maxHeartbeats 400000 in
theorem r5IsWalk_any (A : Option Addr) (ca : Nat) (l : List Pt) (w : World) (ha : Pts w A l) (hla : l.length ≤ 1000000) :
    Calls Try.prog 13 #[.slice A l.length ca] w fun e w' => e = .returned (.bool (walkB l)) ∧ Below w.heap.size w w' := by
  have hs := Lib.hid (arePoints_any A ca l 8 w ha hla)
  go_enter Try.func13, Try.ntmps13
  go_wp2_with (go_at_call 49; with_reducible refine Calls.mono (hs.out) ?_; rintro e w1 ⟨rfl, hb1⟩; first | ((with_reducible apply kp_in_step (hb := hb1)); (with_reducible assumption); rintro ⟨hk, hc, hf, hzc, hzf⟩) | ((with_reducible refine kp_in_first hb1 ?_); rintro ⟨hk, hc, hf, hzc, hzf⟩))
  go_ret
  exact ⟨rfl, by (repeat (first | with_reducible exact Below.refl _ _ | with_reducible apply bl_alloc | with_reducible apply bl_drew | with_reducible apply bl_after | (with_reducible refine bl_call ?_ (by assumption))))⟩
set_option maxHeartbeats 1000000 in
theorem r5isTrack_any (A : Option Addr) (ca : Nat) (T : Trk) (w : World) (ha : Pts w A T.pts) (hla : T.pts.length ≤ 1000000) :
    Calls Try.prog 60 #[(Value.agg #[.slice A T.pts.length ca, (Value.int .i64 (T.closed)), (Value.int .i64 (T.lo)), (Value.int .i64 (T.hi))])] w fun e w' => e = .returned (.bool (trkB T)) ∧ Below w.heap.size w w' := by
  have hs := Lib.hid fun (W : World) (h : Below w.heap.size w W) => arePoints_any A ca T.pts 8 W (ha.below h) hla
  go_enter Try.func60, Try.ntmps60
  go_wp2_with (first | (go_at_call 77; with_reducible refine Calls.mono (r5Within_any _ _ _ _) ?_; rintro e w' ⟨rfl, rfl⟩) | (go_at_call 49; with_reducible refine Calls.mono (hs.out _ (by (repeat (first | with_reducible exact Below.refl _ _ | with_reducible apply bl_alloc | with_reducible apply bl_drew | with_reducible apply bl_after | (with_reducible refine bl_call ?_ (by assumption)))))) ?_; rintro e w1 ⟨rfl, hb1⟩; first | ((with_reducible apply kp_in_step (hb := hb1)); (with_reducible assumption); rintro ⟨hk, hc, hf, hzc, hzf⟩) | ((with_reducible refine kp_in_first hb1 ?_); rintro ⟨hk, hc, hf, hzc, hzf⟩)))
  all_goals go_ret
  all_goals refine ⟨?_, by (repeat (first | with_reducible exact Below.refl _ _ | with_reducible apply bl_alloc | with_reducible apply bl_drew | with_reducible apply bl_after | (with_reducible refine bl_call ?_ (by assumption))))⟩
  all_goals (apply ret_bool; simp [trkB, *] <;> first | omega | (intro _; first | omega | simp [within]) | simp [within])

set_option maxHeartbeats 400000 in
theorem wCheck_any (A B : Option Addr) (ca cb : Nat) (T : Trk) (m : List Pt) (w : World) (ha : Pts w A T.pts) (hla : T.pts.length ≤ 1000000) (hb : Pts w B m) (hlb : m.length ≤ 1000000) :
    Calls Try.prog 23 #[(Value.agg #[.slice A T.pts.length ca, (Value.int .i64 (T.closed)), (Value.int .i64 (T.lo)), (Value.int .i64 (T.hi))]), .slice B m.length cb] w fun e w' => e = .returned (Value.int .i64 (chkT T m)) ∧ Below w.heap.size w w' := by
  have h1 := fun (W : World) (h : Below w.heap.size w W) => isTrack_any A ca T W (ha.below h) hla
  have h2 := fun (W : World) (h : Below w.heap.size w W) => isWalk_any B cb m W (hb.below h) hlb
  cases ht : trkB T <;> cases hw : walkB m <;> rw [ht] at h1 <;> rw [hw] at h2 <;> simp only [chkT, ht, hw, Bool.false_eq_true, if_false, if_true] <;> clear ht hw <;> replace h1 := Lib.hid h1 <;> replace h2 := Lib.hid h2
  all_goals
    go_enter Try.func23, Try.ntmps23
    go_wp2_with (first | (go_at_call 59; with_reducible refine Calls.mono (h1.out _ (by (repeat (first | with_reducible exact Below.refl _ _ | with_reducible apply bl_alloc | with_reducible apply bl_drew | with_reducible apply bl_after | (with_reducible refine bl_call ?_ (by assumption)))))) ?_; rintro e w1 ⟨rfl, hb1⟩; first | ((with_reducible apply kp_in_step (hb := hb1)); (with_reducible assumption); rintro ⟨hk, hc, hf, hzc, hzf⟩) | ((with_reducible refine kp_in_first hb1 ?_); rintro ⟨hk, hc, hf, hzc, hzf⟩)) | (go_at_call 51; with_reducible refine Calls.mono (h2.out _ (by (repeat (first | with_reducible exact Below.refl _ _ | with_reducible apply bl_alloc | with_reducible apply bl_drew | with_reducible apply bl_after | (with_reducible refine bl_call ?_ (by assumption)))))) ?_; rintro e w1 ⟨rfl, hb1⟩; first | ((with_reducible apply kp_in_step (hb := hb1)); (with_reducible assumption); rintro ⟨hk, hc, hf, hzc, hzf⟩) | ((with_reducible refine kp_in_first hb1 ?_); rintro ⟨hk, hc, hf, hzc, hzf⟩)))
    go_ret
    exact ⟨rfl, by (repeat (first | with_reducible exact Below.refl _ _ | with_reducible apply bl_alloc | with_reducible apply bl_drew | with_reducible apply bl_after | (with_reducible refine bl_call ?_ (by assumption))))⟩
set_option maxHeartbeats 400000 in
theorem r5Check_any (A B : Option Addr) (ca cb : Nat) (T : Trk) (m : List Pt) (w : World) (ha : Pts w A T.pts) (hla : T.pts.length ≤ 1000000) (hb : Pts w B m) (hlb : m.length ≤ 1000000) :
    Calls Try.prog 24 #[(Value.agg #[.slice A T.pts.length ca, (Value.int .i64 (T.closed)), (Value.int .i64 (T.lo)), (Value.int .i64 (T.hi))]), .slice B m.length cb] w fun e w' => e = .returned (Value.int .i64 (chkT T m)) ∧ Below w.heap.size w w' := by
  have h1 := fun (W : World) (h : Below w.heap.size w W) => r5isTrack_any A ca T W (ha.below h) hla
  have h2 := fun (W : World) (h : Below w.heap.size w W) => r5IsWalk_any B cb m W (hb.below h) hlb
  cases ht : trkB T <;> cases hw : walkB m <;> rw [ht] at h1 <;> rw [hw] at h2 <;> simp only [chkT, ht, hw, Bool.false_eq_true, if_false, if_true] <;> clear ht hw <;> replace h1 := Lib.hid h1 <;> replace h2 := Lib.hid h2
  all_goals
    go_enter Try.func24, Try.ntmps24
    go_wp2_with (first | (go_at_call 60; with_reducible refine Calls.mono (h1.out _ (by (repeat (first | with_reducible exact Below.refl _ _ | with_reducible apply bl_alloc | with_reducible apply bl_drew | with_reducible apply bl_after | (with_reducible refine bl_call ?_ (by assumption)))))) ?_; rintro e w1 ⟨rfl, hb1⟩; first | ((with_reducible apply kp_in_step (hb := hb1)); (with_reducible assumption); rintro ⟨hk, hc, hf, hzc, hzf⟩) | ((with_reducible refine kp_in_first hb1 ?_); rintro ⟨hk, hc, hf, hzc, hzf⟩)) | (go_at_call 13; with_reducible refine Calls.mono (h2.out _ (by (repeat (first | with_reducible exact Below.refl _ _ | with_reducible apply bl_alloc | with_reducible apply bl_drew | with_reducible apply bl_after | (with_reducible refine bl_call ?_ (by assumption)))))) ?_; rintro e w1 ⟨rfl, hb1⟩; first | ((with_reducible apply kp_in_step (hb := hb1)); (with_reducible assumption); rintro ⟨hk, hc, hf, hzc, hzf⟩) | ((with_reducible refine kp_in_first hb1 ?_); rintro ⟨hk, hc, hf, hzc, hzf⟩)))
    go_ret
    exact ⟨rfl, by (repeat (first | with_reducible exact Below.refl _ _ | with_reducible apply bl_alloc | with_reducible apply bl_drew | with_reducible apply bl_after | (with_reducible refine bl_call ?_ (by assumption))))⟩
end Go.Proofs.Ytfgplmgkejeoiaa
