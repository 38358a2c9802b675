/- The small functions of sheets and of its reference, and slices of controls in memory. -/
import Derived.Test.YtegdnbceiopklaaSht
import Derived.Test.YtegdnbceiopklaaRec
import Derived.Test.YtegdnbceiopklaaRefLeaf
import Derived.Deep.LoopGhost
import Derived.Shelf.Abstract
import Derived.OwnWalkIn
import Derived.TacticsInMore
import Derived.LoopNIn
import Derived.LoopIn
import Derived.Sort.LoopGhostIn
import Derived.Lib.MinMax
namespace Go.Proofs.Ytegdnbceiopklaa
open Go.RowKit Go.Shelf
attribute [local go_sem] After.cell After.frozen

abbrev Cts (w : World) (A : Option Addr) (l : List Ctl) : Prop := Recs ctlE w A l
theorem ctl_cells {w : World} {b o : Nat} {l : List Ctl} (h : RecAt ctlE w b o l) {k : Nat} (hk : k < l.length) :
    b < w.heap.size ∧ w.cell? ⟨b, o + k * 4, none⟩ = some (Value.int .i64 ((cat l k).way)) ∧ w.cell? ⟨b, o + k * 4 + 1, none⟩ = some (Value.int .i64 ((cat l k).tru)) ∧ w.cell? ⟨b, o + k * 4 + 2, none⟩ = some (Value.int .i64 ((cat l k).read)) ∧ w.cell? ⟨b, o + k * 4 + 3, none⟩ = some (Value.int .i64 ((cat l k).off)) :=
  ⟨h.lt, h.cell ctlE_len (j := 0) (cat_get hk) (by decide) rfl, h.cell ctlE_len (j := 1) (cat_get hk) (by decide) rfl, h.cell ctlE_len (j := 2) (cat_get hk) (by decide) rfl, h.cell ctlE_len (j := 3) (cat_get hk) (by decide) rfl⟩

set_option maxHeartbeats 400000 in
theorem sWithin_any (n l h : Int) (w : World) :
    Calls Try.prog 52 #[(Value.int .i64 (n)), (Value.int .i64 (l)), (Value.int .i64 (h))] w fun e w' => e = .returned (.bool (within n l h)) ∧ w = w' := by
  go_enter Try.func52, Try.ntmps52
  go_wp2
  all_goals (go_ret; refine ⟨?_, rfl⟩; unfold within; simp; try omega)
set_option maxHeartbeats 400000 in
theorem r4Within_any (n l h : Int) (w : World) :
    Calls Try.prog 58 #[(Value.int .i64 (n)), (Value.int .i64 (l)), (Value.int .i64 (h))] w fun e w' => e = .returned (.bool (within n l h)) ∧ w = w' := by
  go_enter Try.func58, Try.ntmps58
  go_wp2_with (go_at_call 78; with_reducible refine Calls.mono (rWithin_any _ _ _ _) ?_; rintro e w' ⟨rfl, rfl⟩)
  go_ret
  exact ⟨rfl, rfl⟩
set_option maxHeartbeats 400000 in
theorem isWay_any (n : Int) (w : World) :
    Calls Try.prog 68 #[(Value.int .i64 (n))] w fun e w' => e = .returned (.bool (wayB n)) ∧ w = w' := by
  go_enter Try.func68, Try.ntmps68
  go_wp2
  all_goals (go_ret; refine ⟨?_, rfl⟩; apply ret_bool; simp [wayB, *])
set_option maxHeartbeats 400000 in
theorem rIsWay_any (n : Int) (w : World) :
    Calls Try.prog 71 #[(Value.int .i64 (n))] w fun e w' => e = .returned (.bool (wayB n)) ∧ w = w' := by
  go_enter Try.func71, Try.ntmps71
  go_wp2
  all_goals (go_ret; refine ⟨?_, rfl⟩; apply ret_bool; simp [wayB, *])
set_option maxHeartbeats 400000 in
theorem badSpan_any (lo hi : Int) (w : World) :
    Calls Try.prog 66 #[.agg #[(Value.int .i64 (lo)), (Value.int .i64 (hi))]] w fun e w' => e = .returned (.bool (!spnB lo hi)) ∧ Below w.heap.size w w' := by
  go_enter Try.func66, Try.ntmps66
  go_wp2_with (go_at_call 52; with_reducible refine Calls.mono (sWithin_any _ _ _ _) ?_; rintro e w' ⟨rfl, rfl⟩)
  all_goals (go_ret; refine ⟨?_, by (repeat (first | with_reducible exact Below.refl _ _ | with_reducible apply bl_alloc | with_reducible apply bl_drew | with_reducible apply bl_after | (with_reducible refine bl_call ?_ (by assumption))))⟩; apply ret_bool; simp only [spnB, *]; rw [Bool.eq_iff_iff]; simp <;> omega)
set_option maxHeartbeats 400000 in
theorem rIsSpan_any (lo hi : Int) (w : World) :
    Calls Try.prog 70 #[.agg #[(Value.int .i64 (lo)), (Value.int .i64 (hi))]] w fun e w' => e = .returned (.bool (spnB lo hi)) ∧ Below w.heap.size w w' := by
  go_enter Try.func70, Try.ntmps70
  go_wp2
  all_goals (go_ret; refine ⟨?_, by (repeat (first | with_reducible exact Below.refl _ _ | with_reducible apply bl_alloc | with_reducible apply bl_drew | with_reducible apply bl_after | (with_reducible refine bl_call ?_ (by assumption))))⟩; apply ret_bool; simp only [spnB, within]; rw [Bool.eq_iff_iff]; simp <;> omega)
set_option maxHeartbeats 1000000 in
theorem badControl_any (c : Ctl) (w : World) :
    Calls Try.prog 67 #[(Value.agg #[(Value.int .i64 (c.way)), (Value.int .i64 (c.tru)), (Value.int .i64 (c.read)), (Value.int .i64 (c.off))])] w fun e w' => e = .returned (.bool (!ctlB c)) ∧ Below w.heap.size w w' := by
  go_enter Try.func67, Try.ntmps67
  go_wp2_with (first | (go_at_call 52; with_reducible refine Calls.mono (sWithin_any _ _ _ _) ?_; rintro e w' ⟨rfl, rfl⟩) | (go_at_call 68; with_reducible refine Calls.mono (isWay_any _ _) ?_; rintro e w' ⟨rfl, rfl⟩))
  all_goals (go_ret; refine ⟨?_, by (repeat (first | with_reducible exact Below.refl _ _ | with_reducible apply bl_alloc | with_reducible apply bl_drew | with_reducible apply bl_after | (with_reducible refine bl_call ?_ (by assumption))))⟩; apply ret_bool; simp [ctlB, *] <;> try omega)

def findFromC (g : Ctl → Bool) (l : List Ctl) : Int := match l.findIdx? g with | some i => (i : Int) | none => -1
set_option maxRecDepth 100000 in
set_option maxHeartbeats 1000000 in
theorem IndexFuncC_any (A : Option Addr) (ca cf : Nat) (lb : Array Value) (g : Ctl → Bool) (l : List Ctl) (w : World) (ha : Cts w A l) (hla : l.length ≤ 1000000)
    (eg : ∀ args w, (callFunc cf args).run Try.prog w = .ok (.enter cf args) w)
    (hof : ∀ (p : Ctl) (W : World), Below w.heap.size w W → Calls Try.prog cf (#[(Value.agg #[(Value.int .i64 (p.way)), (Value.int .i64 (p.tru)), (Value.int .i64 (p.read)), (Value.int .i64 (p.off))])] ++ lb) W fun e w' => e = .returned (.bool (g p)) ∧ Below W.heap.size W w') :
    Calls Try.prog 95 #[.slice A l.length ca, .func (.func cf) #[] lb] w fun e w' => e = .returned (Value.int .i64 (findFromC g l)) ∧ Below w.heap.size w w' := by
  go_enter Try.func95, Try.ntmps95
  go_wp2
  go_loopg [8] l.length (fun n i wr => ∃ k : Nat, k ≤ l.length ∧ n = l.length - k ∧ i = (Value.int .i64 ((k : Int))) ∧ (∀ j, j < k → g (cat l j) = false) ∧ Below w.heap.size w wr)
  case atStart => exact ⟨0, Nat.zero_le _, rfl, rfl, (fun j hj => by omega), by (repeat (first | with_reducible exact Below.refl _ _ | with_reducible apply bl_alloc | with_reducible apply bl_drew | with_reducible apply bl_after | (with_reducible refine bl_call ?_ (by assumption))))⟩
  case round =>
    obtain ⟨k, kn, rfl, rfl, HS, hbw⟩ := hrel
    replace HS := Lib.hid HS
    by_cases hlt : k < l.length
    · obtain ⟨b, o, rfl, pa⟩ := (ha.below hbw).at_ hlt
      obtain ⟨lb', x1, x2, x3, x4⟩ := ctl_cells pa hlt
      have hc0 := hof (cat l k) wr hbw
      by_cases hg : g (cat l k) = true
      · rw [hg] at hc0
        go_wp2_with ((with_reducible refine Calls.mono hc0 ?_); rintro e w1 ⟨rfl, hb1⟩)
        go_ret
        refine ⟨ret_int ?_, by (repeat (first | with_reducible exact Below.refl _ _ | with_reducible apply bl_alloc | with_reducible apply bl_drew | with_reducible apply bl_after | (with_reducible refine bl_call ?_ (by assumption))))⟩
        have : l.findIdx? g = some k := by
          rw [List.findIdx?_eq_some_iff_getElem]
          exact ⟨hlt, by rw [cat_eq hlt]; exact hg, fun j hj => by rw [cat_eq (by omega)]; simp [HS.out j hj]⟩
        simp [findFromC, this]
      · have hg' : g (cat l k) = false := by simpa using hg
        rw [hg'] at hc0
        go_wp2_with ((with_reducible refine Calls.mono hc0 ?_); rintro e w1 ⟨rfl, hb1⟩)
        go_roundg (l.length - (k + 1))
        case measure => omega
        case rel => exact ⟨k + 1, by omega, rfl, by go_num, (fun j hj => by rcases Nat.lt_succ_iff_lt_or_eq.1 hj with h | h; exact HS.out j h; subst h; exact hg'), by (repeat (first | with_reducible exact Below.refl _ _ | with_reducible apply bl_alloc | with_reducible apply bl_drew | with_reducible apply bl_after | (with_reducible refine bl_call ?_ (by assumption))))⟩
    · go_wp2
      obtain rfl : k = l.length := by omega
      go_ret
      refine ⟨ret_int ?_, by (repeat (first | with_reducible exact Below.refl _ _ | with_reducible apply bl_alloc | with_reducible apply bl_drew | with_reducible apply bl_after | (with_reducible refine bl_call ?_ (by assumption))))⟩
      have : l.findIdx? g = none := by
        rw [List.findIdx?_eq_none_iff]
        intro x hx
        obtain ⟨i, hi, rfl⟩ := List.getElem_of_mem hx
        rw [cat_eq hi]
        exact HS.out i hi
      simp [findFromC, this]
theorem findFromC_nonneg (g : Ctl → Bool) (l : List Ctl) : decide (0 ≤ findFromC g l) = l.any g := by
  unfold findFromC
  cases h : l.findIdx? g with
  | some i =>
    rw [List.findIdx?_eq_some_iff_getElem] at h
    obtain ⟨hi, hg, _⟩ := h
    have : l.any g = true := List.any_eq_true.2 ⟨l[i], List.getElem_mem hi, hg⟩
    rw [this]
    simp
  | none =>
    rw [List.findIdx?_eq_none_iff] at h
    have : l.any g = false := by rw [List.any_eq_false]; intro x hx; simp [h x hx]
    rw [this]
    simp
set_option maxHeartbeats 400000 in
theorem ContainsFuncC_any (A : Option Addr) (ca cf : Nat) (lb : Array Value) (g : Ctl → Bool) (l : List Ctl) (w : World) (ha : Cts w A l) (hla : l.length ≤ 1000000)
    (eg : ∀ args w, (callFunc cf args).run Try.prog w = .ok (.enter cf args) w)
    (hof : ∀ (p : Ctl) (W : World), Below w.heap.size w W → Calls Try.prog cf (#[(Value.agg #[(Value.int .i64 (p.way)), (Value.int .i64 (p.tru)), (Value.int .i64 (p.read)), (Value.int .i64 (p.off))])] ++ lb) W fun e w' => e = .returned (.bool (g p)) ∧ Below W.heap.size W w') :
    Calls Try.prog 69 #[.slice A l.length ca, .func (.func cf) #[] lb] w fun e w' => e = .returned (.bool (l.any g)) ∧ Below w.heap.size w w' := by
  have hI := IndexFuncC_any A ca cf lb g l w ha hla eg hof
  clear hof eg
  go_enter Try.func69, Try.ntmps69
  go_wp2_with ((with_reducible refine Calls.mono hI ?_); rintro e w1 ⟨rfl, hb1⟩)
  go_ret
  exact ⟨by rw [← findFromC_nonneg]; rfl, by (repeat (first | with_reducible exact Below.refl _ _ | with_reducible apply bl_alloc | with_reducible apply bl_drew | with_reducible apply bl_after | (with_reducible refine bl_call ?_ (by assumption))))⟩
theorem any_allC (l : List Ctl) : (l.any fun p => !ctlB p) = !l.all ctlB := by
  induction l with
  | nil => rfl
  | cons a t ih => simp only [List.any_cons, List.all_cons, ih]; cases ctlB a <;> simp
theorem noBad (A : Option Addr) (ca : Nat) (l : List Ctl) (w : World) (ha : Cts w A l) (hla : l.length ≤ 1000000) :
    Calls Try.prog 69 #[.slice A l.length ca, .func (.func 67) #[] #[]] w fun e w' => e = .returned (.bool (!l.all ctlB)) ∧ Below w.heap.size w w' := by
  have h := ContainsFuncC_any A ca 67 #[] (fun p => !ctlB p) l w ha hla (enters_of Try.func67 (by kernel_rfl) rfl) (fun p W _ => badControl_any p W)
  rw [any_allC] at h
  exact h
set_option maxRecDepth 100000 in
set_option maxHeartbeats 2000000 in
theorem sCheck_any (A : Option Addr) (ca : Nat) (S : Sht) (w : World) (ha : Cts w A S.cs) :
    Calls Try.prog 28 #[(Value.agg #[(Value.int .i64 (S.xlo)), (Value.int .i64 (S.xhi)), (Value.int .i64 (S.ylo)), (Value.int .i64 (S.yhi)), .slice A S.cs.length ca, (Value.int .i64 (S.wrong))])] w fun e w' => e = .returned (Value.int .i64 (chkS S)) ∧ Below w.heap.size w w' := by
  have e0 : Blk (w.alloc (.cells #[(Value.int .i64 (S.xlo)), (Value.int .i64 (S.xhi)), (Value.int .i64 (S.ylo)), (Value.int .i64 (S.yhi)), .slice A S.cs.length ca, (Value.int .i64 (S.wrong))] 26)) w.heap.size 26 #[(Value.int .i64 (S.xlo)), (Value.int .i64 (S.xhi)), (Value.int .i64 (S.ylo)), (Value.int .i64 (S.yhi)), .slice A S.cs.length ca, (Value.int .i64 (S.wrong))] := Blk.new _ _ _
  (have la := e0.lt); (have ya0 := e0.cell 0); (have ya1 := e0.cell 1); (have ya2 := e0.cell 2); (have ya3 := e0.cell 3); (have ya4 := e0.cell 4); (have ya5 := e0.cell 5); simp only [List.getElem?_toArray, List.getElem?_cons_zero, List.getElem?_cons_succ] at ya0 ya1 ya2 ya3 ya4 ya5
  have hN := fun (W : World) (h : Below w.heap.size w W) (hl : S.cs.length ≤ 1000000) => noBad A ca S.cs W (ha.below h) hl
  have hF : chkS S = if (spnB S.xlo S.xhi && spnB S.ylo S.yhi && decide (S.cs.length ≤ 8) && S.cs.all ctlB && within S.wrong 0 8) = true then 0 else 40 := rfl
  have HF := Lib.hid hF
  clear hF ha
  cases hw : within S.wrong 0 8 <;> cases hall : S.cs.all ctlB <;> rw [hall] at hN <;> simp only [Bool.not_true, Bool.not_false] at hN <;> rw [hall] at HF <;> replace hN := Lib.hid hN
  all_goals
    clear hall
    go_enter Try.func28, Try.ntmps28
    go_wp2_with (first | ((go_at_call 66); (with_reducible refine Calls.mono (badSpan_any _ _ _) ?_); rintro e wn ⟨rfl, hbn⟩; first | ((with_reducible apply kp_in_step (hb := hbn)); (with_reducible assumption); rintro ⟨hk, hc, hf, hzc, hzf⟩) | ((with_reducible refine kp_in_first hbn ?_); rintro ⟨hk, hc, hf, hzc, hzf⟩)) | (go_at_call 52; with_reducible refine Calls.mono (sWithin_any _ _ _ _) ?_; rintro e w' ⟨rfl, rfl⟩) | ((go_at_call 69); (with_reducible refine Calls.mono (hN.out _ (by (repeat (first | with_reducible exact Below.refl _ _ | with_reducible apply bl_alloc | with_reducible apply bl_drew | with_reducible apply bl_after | (with_reducible refine bl_call ?_ (by assumption))))) (by omega)) ?_); rintro e wn ⟨rfl, hbn⟩; first | ((with_reducible apply kp_in_step (hb := hbn)); (with_reducible assumption); rintro ⟨hk, hc, hf, hzc, hzf⟩) | ((with_reducible refine kp_in_first hbn ?_); rintro ⟨hk, hc, hf, hzc, hzf⟩)))
    all_goals go_ret
    all_goals refine ⟨?_, by (repeat (first | with_reducible exact Below.refl _ _ | with_reducible apply bl_alloc | with_reducible apply bl_drew | with_reducible apply bl_after | (with_reducible refine bl_call ?_ (by assumption))))⟩
    all_goals (apply ret_int; rw [HF.out]; first | (simp [*]; done) | (simp [*]; omega) | trace_state)
set_option maxRecDepth 100000 in
set_option maxHeartbeats 2000000 in
theorem of_any (f : Pt) (n : Int) (w : World) :
    Calls Try.prog 74 #[(Value.agg #[.int .i64 f.1, .int .i64 f.2]), (Value.int .i64 (n))] w fun e w' => e = .returned (Value.int .i64 (fac f n)) ∧ Below w.heap.size w w' := by
  go_enter Try.func74, Try.ntmps74
  go_wp2
  all_goals (go_ret; refine ⟨?_, by (repeat (first | with_reducible exact Below.refl _ _ | with_reducible apply bl_alloc | with_reducible apply bl_drew | with_reducible apply bl_after | (with_reducible refine bl_call ?_ (by assumption))))⟩; apply ret_int; simp only [beq_iff_eq, beq_eq_false_iff_ne] at *; simp [fac, *])
set_option maxHeartbeats 2000000 in
theorem rOf_any (f : Pt) (n : Int) (w : World) :
    Calls Try.prog 77 #[(Value.agg #[.int .i64 f.1, .int .i64 f.2]), (Value.int .i64 (n))] w fun e w' => e = .returned (Value.int .i64 (fac f n)) ∧ Below w.heap.size w w' := by
  go_enter Try.func77, Try.ntmps77
  go_wp2
  all_goals (go_ret; refine ⟨?_, by (repeat (first | with_reducible exact Below.refl _ _ | with_reducible apply bl_alloc | with_reducible apply bl_drew | with_reducible apply bl_after | (with_reducible refine bl_call ?_ (by assumption))))⟩; apply ret_int; simp only [beq_iff_eq, beq_eq_false_iff_ne] at *; simp [fac, *])
theorem rAbs_any (n : Int) (hn : -4000000000000000000 ≤ n ∧ n ≤ 4000000000000000000) (w : World) :
    Calls Try.prog 94 #[(Value.int .i64 (n))] w fun e w' => e = .returned (Value.int .i64 (max n (-n))) ∧ w = w' := by
  have z := wrap64_in (x := -n) (by omega) (by omega)
  go_enter Try.func94, Try.ntmps94
  go_wp2
  go_ret
  exact ⟨rfl, rfl⟩
/-- The factors that a sheet can have, and a control's numbers, are small. -/
def FacOk (f : Pt) : Prop := (900 ≤ f.1 ∧ f.1 ≤ 1100) ∧ (900 ≤ f.2 ∧ f.2 ≤ 1100)
def CtlOk (c : Ctl) : Prop := (1 ≤ c.tru ∧ c.tru ≤ 9999) ∧ (0 ≤ c.read ∧ c.read ≤ 9999) ∧ (0 ≤ c.off ∧ c.off ≤ 9999)
theorem fac_bd {f : Pt} (h : FacOk f) (n : Int) : 900 ≤ fac f n ∧ fac f n ≤ 1100 := by
  unfold fac; split
  · exact h.1
  · exact h.2
theorem rst_bd {f : Pt} {c : Ctl} (h : FacOk f) (hc : CtlOk c) : (-20000000 ≤ c.tru * fac f c.way ∧ c.tru * fac f c.way ≤ 20000000) ∧ -40000000 ≤ rst c f ∧ rst c f ≤ 40000000 := by
  have h1 := fac_bd h c.way
  obtain ⟨h2, h3, h4⟩ := hc
  have h5 := mul_bd (x := c.tru) (y := fac f c.way) (A := 9999) (B := 1100) (by omega) (by omega) (by omega) (by omega)
  unfold rst
  omega
set_option maxHeartbeats 2000000 in
theorem isRight_any (f : Pt) (c : Ctl) (hf : FacOk f) (hc : CtlOk c) (w : World) :
    Calls Try.prog 85 #[(Value.agg #[.int .i64 f.1, .int .i64 f.2]), (Value.agg #[(Value.int .i64 (c.way)), (Value.int .i64 (c.tru)), (Value.int .i64 (c.read)), (Value.int .i64 (c.off))])] w fun e w' => e = .returned (.bool (rightB c f)) ∧ Below w.heap.size w w' := by
  obtain ⟨b1, b2⟩ := rst_bd hf hc
  obtain ⟨h2, h3, h4⟩ := hc
  have hr : rst c f = c.tru * fac f c.way - 1000 * c.read := rfl
  have z1 := wrap64_in (x := c.tru * fac f c.way) (by omega) (by omega)
  have z2 := wrap64_in (x := 1000 * c.read) (by omega) (by omega)
  have z3 := wrap64_in (x := c.tru * fac f c.way - 1000 * c.read) (by omega) (by omega)
  have z4 := wrap64_in (x := -(c.tru * fac f c.way - 1000 * c.read)) (by omega) (by omega)
  have z5 := wrap64_in (x := 1000 * c.off) (by omega) (by omega)
  clear hf b1 b2 h2 h3 h4 hr
  go_enter Try.func85, Try.ntmps85
  go_wp2
  refine wp_region_after (by kernel_rfl) (by kernel_rfl) ?_; (repeat (go_big_quiet_step (((go_at_call 74; with_reducible exact calls_after (of_any _ _ _)))))); refine wpQuiet_nil ?_; rintro _ ⟨z, rfl⟩; (first | ((with_reducible apply kp_in_after (z := z)); (with_reducible assumption); rintro ⟨hk, hc, hf, hzc, hzf⟩) | ((with_reducible refine kp_in_after0 z ?_); rintro ⟨hk, hc, hf, hzc, hzf⟩))
  go_wp2
  go_ret
  exact ⟨ret_bool (by unfold rightB rst; rfl), by (repeat (first | with_reducible exact Below.refl _ _ | with_reducible apply bl_alloc | with_reducible apply bl_drew | with_reducible apply bl_after | (with_reducible refine bl_call ?_ (by assumption))))⟩
set_option maxHeartbeats 2000000 in
theorem rIsRight_any (f : Pt) (c : Ctl) (hf : FacOk f) (hc : CtlOk c) (w : World) :
    Calls Try.prog 86 #[(Value.agg #[(Value.int .i64 (c.way)), (Value.int .i64 (c.tru)), (Value.int .i64 (c.read)), (Value.int .i64 (c.off))]), (Value.agg #[.int .i64 f.1, .int .i64 f.2])] w fun e w' => e = .returned (.bool (rightB c f)) ∧ Below w.heap.size w w' := by
  obtain ⟨b1, b2⟩ := rst_bd hf hc
  obtain ⟨h2, h3, h4⟩ := hc
  have hr : rst c f = c.tru * fac f c.way - 1000 * c.read := rfl
  have z1 := wrap64_in (x := c.tru * fac f c.way) (by omega) (by omega)
  have z2 := wrap64_in (x := 1000 * c.read) (by omega) (by omega)
  have z3 := wrap64_in (x := c.tru * fac f c.way - 1000 * c.read) (by omega) (by omega)
  have z5 := wrap64_in (x := 1000 * c.off) (by omega) (by omega)
  have HB := Lib.hid (show -4000000000000000000 ≤ c.tru * fac f c.way - 1000 * c.read ∧ c.tru * fac f c.way - 1000 * c.read ≤ 4000000000000000000 by omega)
  clear hf b1 b2 h2 h3 h4 hr
  go_enter Try.func86, Try.ntmps86
  go_wp2_with (first | ((go_at_call 77); (with_reducible refine Calls.mono (rOf_any _ _ _) ?_); rintro e wn ⟨rfl, hbn⟩; first | ((with_reducible apply kp_in_step (hb := hbn)); (with_reducible assumption); rintro ⟨hk, hc, hf, hzc, hzf⟩) | ((with_reducible refine kp_in_first hbn ?_); rintro ⟨hk, hc, hf, hzc, hzf⟩)) | (go_at_call 94; with_reducible refine Calls.mono (rAbs_any _ HB.out _) ?_; rintro e w' ⟨rfl, rfl⟩))
  refine wp_region_after (by kernel_rfl) (by kernel_rfl) ?_; (repeat (go_big_quiet_step (((first | (go_at_call 77; with_reducible exact calls_after (rOf_any _ _ _)) | (go_at_call 94; with_reducible exact calls_after_same (rAbs_any _ HB.out _))))))); refine wpQuiet_nil ?_; rintro _ ⟨z, rfl⟩; (first | ((with_reducible apply kp_in_after (z := z)); (with_reducible assumption); rintro ⟨hk, hc, hf, hzc, hzf⟩) | ((with_reducible refine kp_in_after0 z ?_); rintro ⟨hk, hc, hf, hzc, hzf⟩))
  go_wp2
  go_ret
  exact ⟨ret_bool (by unfold rightB rst; rfl), by (repeat (first | with_reducible exact Below.refl _ _ | with_reducible apply bl_alloc | with_reducible apply bl_drew | with_reducible apply bl_after | (with_reducible refine bl_call ?_ (by assumption))))⟩
end Go.Proofs.Ytegdnbceiopklaa
