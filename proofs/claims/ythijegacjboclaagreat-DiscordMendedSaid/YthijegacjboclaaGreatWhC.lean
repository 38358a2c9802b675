/- The functions Check and right of wheels, and those of its reference, answer what a valid wheel and a right walk are. -/
import Derived.Test.YthijegacjboclaaGreatWhl
import Derived.Test.YthijegacjboclaaGreatRec
import Derived.Test.YthijegacjboclaaGreatRefLeaf
import Derived.Deep.LoopGhost
import Derived.Shelf.Abstract
import Derived.Lib.MinMax
namespace Go.Proofs.YthijegacjboclaaGreat
open Go.RowKit Go.Shelf
attribute [local go_sem] After.cell After.frozen

abbrev Wks (w : World) (A : Option Addr) (l : List Wk) : Prop := Recs wkE w A l
theorem wk_cells {w : World} {b o : Nat} {l : List Wk} (h : RecAt wkE w b o l) {k : Nat} (hk : k < l.length) :
    b < w.heap.size ∧ w.cell? ⟨b, o + k * 5, none⟩ = some (Value.int .i64 ((wat l k).sense)) ∧ w.cell? ⟨b, o + k * 5 + 1, none⟩ = some (Value.int .i64 ((wat l k).side)) ∧ w.cell? ⟨b, o + k * 5 + 2, none⟩ = some (Value.int .i64 ((wat l k).inside)) ∧ w.cell? ⟨b, o + k * 5 + 3, none⟩ = some (Value.int .i64 ((wat l k).start)) ∧ w.cell? ⟨b, o + k * 5 + 4, none⟩ = some (Value.int .i64 ((wat l k).fin)) :=
  ⟨h.lt, h.cell wkE_len (j := 0) (wat_get hk) (by decide) rfl, h.cell wkE_len (j := 1) (wat_get hk) (by decide) rfl, h.cell wkE_len (j := 2) (wat_get hk) (by decide) rfl, h.cell wkE_len (j := 3) (wat_get hk) (by decide) rfl, h.cell wkE_len (j := 4) (wat_get hk) (by decide) rfl⟩

theorem blk_new_at {w : World} {g : Nat} {t : TypeId} {cs : Array Value} (h : w.heap.size = g) : Blk (w.alloc (.cells cs t)) g t cs := by subst h; exact Blk.new w t cs
set_option maxHeartbeats 400000 in
theorem wWithin3_any (n l h : Int) (w : World) :
    Calls Tryz.prog 90 #[(Value.int .i64 (n)), (Value.int .i64 (l)), (Value.int .i64 (h))] w fun e w' => e = .returned (.bool (within n l h)) ∧ w = w' := by
  go_enter Tryz.func90, Tryz.ntmps90
  go_wp2
  all_goals (go_ret; refine ⟨?_, rfl⟩; unfold within; simp; try omega)
set_option maxHeartbeats 400000 in
theorem isOne_any (n : Int) (w : World) :
    Calls Tryz.prog 89 #[(Value.int .i64 (n))] w fun e w' => e = .returned (.bool (oneB n)) ∧ w = w' := by
  go_enter Tryz.func89, Tryz.ntmps89
  go_wp2
  all_goals (go_ret; refine ⟨?_, rfl⟩; apply ret_bool; simp [oneB, *])
set_option maxRecDepth 100000 in
set_option maxHeartbeats 2000000 in
theorem isWheel_any (x : Whl) (w : World) :
    Calls Tryz.prog 87 #[(Value.agg #[(Value.int .i64 (x.full)), (Value.int .i64 (x.read)), (Value.int .i64 (x.slip)), (Value.int .i64 (x.skew)), (Value.int .i64 (x.circle)), (Value.int .i64 (x.glo)), (Value.int .i64 (x.ghi)), (Value.int .i64 (x.wrong))])] w fun e w' => e = .returned (.bool (whlB x)) ∧ Below w.heap.size w w' := by
  have e0 : Blk (w.alloc (.cells #[(Value.int .i64 (x.full)), (Value.int .i64 (x.read)), (Value.int .i64 (x.slip)), (Value.int .i64 (x.skew)), (Value.int .i64 (x.circle)), (Value.int .i64 (x.glo)), (Value.int .i64 (x.ghi)), (Value.int .i64 (x.wrong))] 27)) w.heap.size 27 #[(Value.int .i64 (x.full)), (Value.int .i64 (x.read)), (Value.int .i64 (x.slip)), (Value.int .i64 (x.skew)), (Value.int .i64 (x.circle)), (Value.int .i64 (x.glo)), (Value.int .i64 (x.ghi)), (Value.int .i64 (x.wrong))] := Blk.new _ _ _
  (have la := e0.lt); (have ya0 := e0.cell 0); (have ya1 := e0.cell 1); (have ya2 := e0.cell 2); (have ya3 := e0.cell 3); (have ya4 := e0.cell 4); (have ya5 := e0.cell 5); (have ya6 := e0.cell 6); (have ya7 := e0.cell 7); simp only [List.getElem?_toArray, List.getElem?_cons_zero, List.getElem?_cons_succ] at ya0 ya1 ya2 ya3 ya4 ya5 ya6 ya7
  have HF := Lib.hid (show whlB x = (within x.full 10 10000 && within x.read 0 20 && within x.slip 0 20 && within x.skew 0 20 && within x.circle 0 9999 && within x.glo 0 x.ghi && decide (x.ghi ≤ 9999) && within x.wrong 0 8) from rfl)
  go_enter Tryz.func87, Tryz.ntmps87
  go_wp2_with (go_at_call 90; with_reducible refine Calls.mono (wWithin3_any _ _ _ _) ?_; rintro e w' ⟨rfl, rfl⟩)
  all_goals go_ret
  all_goals refine ⟨?_, by (repeat (first | with_reducible exact Below.refl _ _ | with_reducible apply bl_alloc | with_reducible apply bl_drew | with_reducible apply bl_after | (with_reducible refine bl_call ?_ (by assumption))))⟩
  all_goals (apply ret_bool; rw [HF.out]; first | (simp [*]; done) | (simp [*]; omega) | trace_state)
set_option maxRecDepth 100000 in
set_option maxHeartbeats 2000000 in
theorem strange3_any (v : Whl) (g : Nat) (x : Wk) (w : World) (hv : 0 ≤ v.full ∧ v.full ≤ 10000) (e0 : Blk w g 27 #[(Value.int .i64 (v.full)), (Value.int .i64 (v.read)), (Value.int .i64 (v.slip)), (Value.int .i64 (v.skew)), (Value.int .i64 (v.circle)), (Value.int .i64 (v.glo)), (Value.int .i64 (v.ghi)), (Value.int .i64 (v.wrong))]) :
    Calls Tryz.prog 88 #[(Value.agg #[(Value.int .i64 (x.sense)), (Value.int .i64 (x.side)), (Value.int .i64 (x.inside)), (Value.int .i64 (x.start)), (Value.int .i64 (x.fin))]), .pointer (some ⟨g, 0, none⟩)] w fun e w' => e = .returned (.bool (!wkB v x)) ∧ Below w.heap.size w w' := by
  have c1 : Blk (w.alloc (.cells #[(Value.int .i64 (x.sense)), (Value.int .i64 (x.side)), (Value.int .i64 (x.inside)), (Value.int .i64 (x.start)), (Value.int .i64 (x.fin))] 88)) w.heap.size 88 #[(Value.int .i64 (x.sense)), (Value.int .i64 (x.side)), (Value.int .i64 (x.inside)), (Value.int .i64 (x.start)), (Value.int .i64 (x.fin))] := Blk.new _ _ _
  have z1 := wrap64_in (x := v.full - 1) (by omega) (by omega)
  have HF := Lib.hid (show wkB v x = (oneB x.sense && oneB x.side && within x.inside 0 1 && within x.start 0 (v.full - 1) && within x.fin 0 (v.full - 1)) from rfl)
  have e0' := e0.alloc (.cells #[(Value.int .i64 (x.sense)), (Value.int .i64 (x.side)), (Value.int .i64 (x.inside)), (Value.int .i64 (x.start)), (Value.int .i64 (x.fin))] 88)
  (have la := e0.lt); (have ya0 := e0.cell 0); simp only [List.getElem?_toArray, List.getElem?_cons_zero] at ya0
  (have lc := e0'.lt); (have yc0 := e0'.cell 0); simp only [List.getElem?_toArray, List.getElem?_cons_zero] at yc0
  (have lb := c1.lt); (have yb0 := c1.cell 0); (have yb1 := c1.cell 1); (have yb2 := c1.cell 2); (have yb3 := c1.cell 3); (have yb4 := c1.cell 4); simp only [List.getElem?_toArray, List.getElem?_cons_zero, List.getElem?_cons_succ] at yb0 yb1 yb2 yb3 yb4
  go_enter Tryz.func88, Tryz.ntmps88
  go_wp2_with (first | (go_at_call 90; with_reducible refine Calls.mono (wWithin3_any _ _ _ _) ?_; rintro e w' ⟨rfl, rfl⟩) | (go_at_call 89; with_reducible refine Calls.mono (isOne_any _ _) ?_; rintro e w' ⟨rfl, rfl⟩))
  all_goals go_ret
  all_goals refine ⟨?_, by (repeat (first | with_reducible exact Below.refl _ _ | with_reducible apply bl_alloc | with_reducible apply bl_drew | with_reducible apply bl_after | (with_reducible refine bl_call ?_ (by assumption))))⟩
  all_goals (apply ret_bool; rw [HF.out]; first | (simp [*]; done) | (simp [*]; omega) | trace_state)

def findFromK (g : Wk → Bool) (l : List Wk) : Int := match l.findIdx? g with | some i => (i : Int) | none => -1
set_option maxRecDepth 100000 in
set_option maxHeartbeats 1000000 in
theorem IndexFuncK_any (A : Option Addr) (ca cf : Nat) (lb : Array Value) (g : Wk → Bool) (l : List Wk) (w : World) (ha : Wks w A l) (hla : l.length ≤ 1000000)
    (eg : ∀ args w, (callFunc cf args).run Tryz.prog w = .ok (.enter cf args) w)
    (hof : ∀ (p : Wk) (W : World), Below w.heap.size w W → Calls Tryz.prog cf (#[(Value.agg #[(Value.int .i64 (p.sense)), (Value.int .i64 (p.side)), (Value.int .i64 (p.inside)), (Value.int .i64 (p.start)), (Value.int .i64 (p.fin))])] ++ lb) W fun e w' => e = .returned (.bool (g p)) ∧ Below W.heap.size W w') :
    Calls Tryz.prog 104 #[.slice A l.length ca, .func (.func cf) #[] lb] w fun e w' => e = .returned (Value.int .i64 (findFromK g l)) ∧ Below w.heap.size w w' := by
  go_enter Tryz.func104, Tryz.ntmps104
  go_wp2
  go_loopg [8] l.length (fun n i wr => ∃ k : Nat, k ≤ l.length ∧ n = l.length - k ∧ i = (Value.int .i64 ((k : Int))) ∧ (∀ j, j < k → g (wat l j) = false) ∧ Below w.heap.size w wr)
  case atStart => exact ⟨0, Nat.zero_le _, rfl, rfl, (fun j hj => by omega), by (repeat (first | with_reducible exact Below.refl _ _ | with_reducible apply bl_alloc | with_reducible apply bl_drew | with_reducible apply bl_after | (with_reducible refine bl_call ?_ (by assumption))))⟩
  case round =>
    obtain ⟨k, kn, rfl, rfl, HS, hbw⟩ := hrel
    replace HS := Lib.hid HS
    by_cases hlt : k < l.length
    · obtain ⟨b, o, rfl, pa⟩ := (ha.below hbw).at_ hlt
      obtain ⟨lb', x1, x2, x3, x4, x5⟩ := wk_cells pa hlt
      have hc0 := hof (wat l k) wr hbw
      by_cases hg : g (wat l k) = true
      · rw [hg] at hc0
        go_wp2_with ((with_reducible refine Calls.mono hc0 ?_); rintro e w1 ⟨rfl, hb1⟩)
        go_ret
        refine ⟨ret_int ?_, by (repeat (first | with_reducible exact Below.refl _ _ | with_reducible apply bl_alloc | with_reducible apply bl_drew | with_reducible apply bl_after | (with_reducible refine bl_call ?_ (by assumption))))⟩
        have : l.findIdx? g = some k := by
          rw [List.findIdx?_eq_some_iff_getElem]
          exact ⟨hlt, by rw [wat_eq hlt]; exact hg, fun j hj => by rw [wat_eq (by omega)]; simp [HS.out j hj]⟩
        simp [findFromK, this]
      · have hg' : g (wat l k) = false := by simpa using hg
        rw [hg'] at hc0
        go_wp2_with ((with_reducible refine Calls.mono hc0 ?_); rintro e w1 ⟨rfl, hb1⟩)
        go_roundg (l.length - (k + 1))
        case measure => omega
        case rel => exact ⟨k + 1, by omega, rfl, by go_num, (fun j hj => by rcases Nat.lt_succ_iff_lt_or_eq.1 hj with h | h; exact HS.out j h; subst h; exact hg'), by (repeat (first | with_reducible exact Below.refl _ _ | with_reducible apply bl_alloc | with_reducible apply bl_drew | with_reducible apply bl_after | (with_reducible refine bl_call ?_ (by assumption))))⟩
    · go_wp2
      obtain rfl : k = l.length := by omega
      go_ret
      refine ⟨ret_int ?_, by (repeat (first | with_reducible exact Below.refl _ _ | with_reducible apply bl_alloc | with_reducible apply bl_drew | with_reducible apply bl_after | (with_reducible refine bl_call ?_ (by assumption))))⟩
      have : l.findIdx? g = none := by
        rw [List.findIdx?_eq_none_iff]
        intro x hx
        obtain ⟨i, hi, rfl⟩ := List.getElem_of_mem hx
        rw [wat_eq hi]
        exact HS.out i hi
      simp [findFromK, this]
theorem findFromK_nonneg (g : Wk → Bool) (l : List Wk) : decide (0 ≤ findFromK g l) = l.any g := by
  unfold findFromK
  cases h : l.findIdx? g with
  | some i =>
    rw [List.findIdx?_eq_some_iff_getElem] at h
    obtain ⟨hi, hg, _⟩ := h
    have : l.any g = true := List.any_eq_true.2 ⟨l[i], List.getElem_mem hi, hg⟩
    rw [this]
    simp
  | none =>
    rw [List.findIdx?_eq_none_iff] at h
    have : l.any g = false := by rw [List.any_eq_false]; intro x hx; simp [h x hx]
    rw [this]
    simp
set_option maxHeartbeats 400000 in
theorem ContainsFuncK_any (A : Option Addr) (ca cf : Nat) (lb : Array Value) (g : Wk → Bool) (l : List Wk) (w : World) (ha : Wks w A l) (hla : l.length ≤ 1000000)
    (eg : ∀ args w, (callFunc cf args).run Tryz.prog w = .ok (.enter cf args) w)
    (hof : ∀ (p : Wk) (W : World), Below w.heap.size w W → Calls Tryz.prog cf (#[(Value.agg #[(Value.int .i64 (p.sense)), (Value.int .i64 (p.side)), (Value.int .i64 (p.inside)), (Value.int .i64 (p.start)), (Value.int .i64 (p.fin))])] ++ lb) W fun e w' => e = .returned (.bool (g p)) ∧ Below W.heap.size W w') :
    Calls Tryz.prog 91 #[.slice A l.length ca, .func (.func cf) #[] lb] w fun e w' => e = .returned (.bool (l.any g)) ∧ Below w.heap.size w w' := by
  have hI := IndexFuncK_any A ca cf lb g l w ha hla eg hof
  clear hof eg
  go_enter Tryz.func91, Tryz.ntmps91
  go_wp2_with ((with_reducible refine Calls.mono hI ?_); rintro e w1 ⟨rfl, hb1⟩)
  go_ret
  exact ⟨by rw [← findFromK_nonneg]; rfl, by (repeat (first | with_reducible exact Below.refl _ _ | with_reducible apply bl_alloc | with_reducible apply bl_drew | with_reducible apply bl_after | (with_reducible refine bl_call ?_ (by assumption))))⟩
theorem any_allK (v : Whl) (l : List Wk) : (l.any fun p => !wkB v p) = !l.all (wkB v) := by
  induction l with
  | nil => rfl
  | cons a t ih => simp only [List.any_cons, List.all_cons, ih]; cases wkB v a <;> simp
theorem noBadK (A : Option Addr) (ca g : Nat) (v : Whl) (l : List Wk) (w : World) (hv : 0 ≤ v.full ∧ v.full ≤ 10000) (e0 : Blk w g 27 #[(Value.int .i64 (v.full)), (Value.int .i64 (v.read)), (Value.int .i64 (v.slip)), (Value.int .i64 (v.skew)), (Value.int .i64 (v.circle)), (Value.int .i64 (v.glo)), (Value.int .i64 (v.ghi)), (Value.int .i64 (v.wrong))]) (ha : Wks w A l) (hla : l.length ≤ 1000000) :
    Calls Tryz.prog 91 #[.slice A l.length ca, .func (.func 88) #[] #[.pointer (some ⟨g, 0, none⟩)]] w fun e w' => e = .returned (.bool (!l.all (wkB v))) ∧ Below w.heap.size w w' := by
  have h := ContainsFuncK_any A ca 88 #[.pointer (some ⟨g, 0, none⟩)] (fun p => !wkB v p) l w ha hla (enters_of Tryz.func88 (by kernel_rfl) rfl) (fun p W hW => strange3_any v g p W hv (e0.below hW))
  rw [any_allK] at h
  exact h
set_option maxRecDepth 100000 in
set_option maxHeartbeats 2000000 in
theorem whCheck_any (A : Option Addr) (ca : Nat) (v : Whl) (l : List Wk) (w : World) (ha : Wks w A l) :
    Calls Tryz.prog 62 #[(Value.agg #[(Value.int .i64 (v.full)), (Value.int .i64 (v.read)), (Value.int .i64 (v.slip)), (Value.int .i64 (v.skew)), (Value.int .i64 (v.circle)), (Value.int .i64 (v.glo)), (Value.int .i64 (v.ghi)), (Value.int .i64 (v.wrong))]), .slice A l.length ca] w fun e w' => e = .returned (Value.int .i64 (whE v l)) ∧ Below w.heap.size w w' := by
  have e0 : Blk (w.alloc (.cells #[(Value.int .i64 (v.full)), (Value.int .i64 (v.read)), (Value.int .i64 (v.slip)), (Value.int .i64 (v.skew)), (Value.int .i64 (v.circle)), (Value.int .i64 (v.glo)), (Value.int .i64 (v.ghi)), (Value.int .i64 (v.wrong))] 27)) w.heap.size 27 #[(Value.int .i64 (v.full)), (Value.int .i64 (v.read)), (Value.int .i64 (v.slip)), (Value.int .i64 (v.skew)), (Value.int .i64 (v.circle)), (Value.int .i64 (v.glo)), (Value.int .i64 (v.ghi)), (Value.int .i64 (v.wrong))] := Blk.new _ _ _
  (have la := e0.lt); (have ya0 := e0.cell 0); (have ya1 := e0.cell 1); (have ya2 := e0.cell 2); (have ya3 := e0.cell 3); (have ya4 := e0.cell 4); (have ya5 := e0.cell 5); (have ya6 := e0.cell 6); (have ya7 := e0.cell 7); simp only [List.getElem?_toArray, List.getElem?_cons_zero, List.getElem?_cons_succ] at ya0 ya1 ya2 ya3 ya4 ya5 ya6 ya7
  have hW := fun (W : World) => isWheel_any v W
  by_cases h1 : whlB v = true
  · rw [h1] at hW
    have hok := whl_ok h1
    have hN := fun (W : World) (h : Below (w.alloc (.cells #[(Value.int .i64 (v.full)), (Value.int .i64 (v.read)), (Value.int .i64 (v.slip)), (Value.int .i64 (v.skew)), (Value.int .i64 (v.circle)), (Value.int .i64 (v.glo)), (Value.int .i64 (v.ghi)), (Value.int .i64 (v.wrong))] 27)).heap.size (w.alloc (.cells #[(Value.int .i64 (v.full)), (Value.int .i64 (v.read)), (Value.int .i64 (v.slip)), (Value.int .i64 (v.skew)), (Value.int .i64 (v.circle)), (Value.int .i64 (v.glo)), (Value.int .i64 (v.ghi)), (Value.int .i64 (v.wrong))] 27)) W) (hl : l.length ≤ 1000000) => noBadK A ca w.heap.size v l W ⟨by have := hok.f0; omega, hok.f1⟩ (e0.below h) ((ha.alloc _).below h) hl
    have HF := Lib.hid (show whE v l = if l.length ≤ 8 ∧ l.all (wkB v) = true then 0 else 31 by rw [whE, if_pos h1])
    replace hW := Lib.hid hW
    clear hok h1
    cases hall : l.all (wkB v) <;> rw [hall] at hN HF <;> simp only [Bool.not_true, Bool.not_false] at hN <;> replace hN := Lib.hid hN
    all_goals
      clear hall
      go_enter Tryz.func62, Tryz.ntmps62
      go_wp2_with (first | ((go_at_call 87); (with_reducible refine Calls.mono (hW.out _) ?_); rintro e wn ⟨rfl, hbn⟩; first | ((with_reducible apply kp_in_step (hb := hbn)); (with_reducible assumption); rintro ⟨hk, hc, hf, hzc, hzf⟩) | ((with_reducible refine kp_in_first hbn ?_); rintro ⟨hk, hc, hf, hzc, hzf⟩)) | ((go_at_call 91); (with_reducible refine Calls.mono (hN.out _ (by (repeat (first | with_reducible exact Below.refl _ _ | with_reducible apply bl_alloc | with_reducible apply bl_drew | with_reducible apply bl_after | (with_reducible refine bl_call ?_ (by assumption))))) (by omega)) ?_); rintro e wn ⟨rfl, hbn⟩; first | ((with_reducible apply kp_in_step (hb := hbn)); (with_reducible assumption); rintro ⟨hk, hc, hf, hzc, hzf⟩) | ((with_reducible refine kp_in_first hbn ?_); rintro ⟨hk, hc, hf, hzc, hzf⟩)))
      all_goals go_ret
      all_goals refine ⟨?_, by (repeat (first | with_reducible exact Below.refl _ _ | with_reducible apply bl_alloc | with_reducible apply bl_drew | with_reducible apply bl_after | (with_reducible refine bl_call ?_ (by assumption))))⟩
      all_goals (apply ret_int; rw [HF.out]; first | (simp [*]; done) | (simp [*]; omega) | trace_state)
  · have h1' : whlB v = false := by simpa using h1
    rw [h1'] at hW
    have HF := Lib.hid (show whE v l = 30 by rw [whE, if_neg h1])
    replace hW := Lib.hid hW
    clear h1 h1'
    go_enter Tryz.func62, Tryz.ntmps62
    go_wp2_with ((go_at_call 87); (with_reducible refine Calls.mono (hW.out _) ?_); rintro e wn ⟨rfl, hbn⟩; first | ((with_reducible apply kp_in_step (hb := hbn)); (with_reducible assumption); rintro ⟨hk, hc, hf, hzc, hzf⟩) | ((with_reducible refine kp_in_first hbn ?_); rintro ⟨hk, hc, hf, hzc, hzf⟩))
    go_ret
    exact ⟨ret_int HF.out.symm, by (repeat (first | with_reducible exact Below.refl _ _ | with_reducible apply bl_alloc | with_reducible apply bl_drew | with_reducible apply bl_after | (with_reducible refine bl_call ?_ (by assumption))))⟩
set_option maxHeartbeats 400000 in
theorem r3Within_any (n l h : Int) (w : World) :
    Calls Tryz.prog 105 #[(Value.int .i64 (n)), (Value.int .i64 (l)), (Value.int .i64 (h))] w fun e w' => e = .returned (.bool (within n l h)) ∧ w = w' := by
  have h1 : Calls Tryz.prog 122 #[(Value.int .i64 (n)), (Value.int .i64 (l)), (Value.int .i64 (h))] w fun e w' => e = .returned (.bool (within n l h)) ∧ w = w' := by
    go_enter Tryz.func122, Tryz.ntmps122
    go_wp2
    all_goals (go_ret; refine ⟨?_, rfl⟩; unfold within; simp; try omega)
  go_enter Tryz.func105, Tryz.ntmps105
  go_wp2_with (go_at_call 122; with_reducible refine Calls.mono (h1) ?_; rintro e w' ⟨rfl, rfl⟩)
  go_ret
  exact ⟨rfl, rfl⟩
set_option maxHeartbeats 400000 in
theorem r3IsOne_any (n : Int) (w : World) :
    Calls Tryz.prog 106 #[(Value.int .i64 (n))] w fun e w' => e = .returned (.bool (oneB n)) ∧ w = w' := by
  go_enter Tryz.func106, Tryz.ntmps106
  go_wp2
  all_goals (go_ret; refine ⟨?_, rfl⟩; apply ret_bool; simp [oneB, *])
set_option maxRecDepth 100000 in
set_option maxHeartbeats 2000000 in
theorem r3IsWheel_any (x : Whl) (w : World) :
    Calls Tryz.prog 92 #[(Value.agg #[(Value.int .i64 (x.full)), (Value.int .i64 (x.read)), (Value.int .i64 (x.slip)), (Value.int .i64 (x.skew)), (Value.int .i64 (x.circle)), (Value.int .i64 (x.glo)), (Value.int .i64 (x.ghi)), (Value.int .i64 (x.wrong))])] w fun e w' => e = .returned (.bool (whlB x)) ∧ Below w.heap.size w w' := by
  have e0 : Blk (w.alloc (.cells #[(Value.int .i64 (x.full)), (Value.int .i64 (x.read)), (Value.int .i64 (x.slip)), (Value.int .i64 (x.skew)), (Value.int .i64 (x.circle)), (Value.int .i64 (x.glo)), (Value.int .i64 (x.ghi)), (Value.int .i64 (x.wrong))] 27)) w.heap.size 27 #[(Value.int .i64 (x.full)), (Value.int .i64 (x.read)), (Value.int .i64 (x.slip)), (Value.int .i64 (x.skew)), (Value.int .i64 (x.circle)), (Value.int .i64 (x.glo)), (Value.int .i64 (x.ghi)), (Value.int .i64 (x.wrong))] := Blk.new _ _ _
  (have la := e0.lt); (have ya0 := e0.cell 0); (have ya1 := e0.cell 1); (have ya2 := e0.cell 2); (have ya3 := e0.cell 3); (have ya4 := e0.cell 4); (have ya5 := e0.cell 5); (have ya6 := e0.cell 6); (have ya7 := e0.cell 7); simp only [List.getElem?_toArray, List.getElem?_cons_zero, List.getElem?_cons_succ] at ya0 ya1 ya2 ya3 ya4 ya5 ya6 ya7
  have HF := Lib.hid (show whlB x = (within x.full 10 10000 && within x.read 0 20 && within x.slip 0 20 && within x.skew 0 20 && within x.circle 0 9999 && within x.glo 0 x.ghi && decide (x.ghi ≤ 9999) && within x.wrong 0 8) from rfl)
  go_enter Tryz.func92, Tryz.ntmps92
  go_wp2_with (go_at_call 105; with_reducible refine Calls.mono (r3Within_any _ _ _ _) ?_; rintro e w' ⟨rfl, rfl⟩)
  all_goals go_ret
  all_goals refine ⟨?_, by (repeat (first | with_reducible exact Below.refl _ _ | with_reducible apply bl_alloc | with_reducible apply bl_drew | with_reducible apply bl_after | (with_reducible refine bl_call ?_ (by assumption))))⟩
  all_goals (apply ret_bool; rw [HF.out]; first | (simp [*]; done) | (simp [*]; omega) | trace_state)
set_option maxRecDepth 100000 in
set_option maxHeartbeats 2000000 in
theorem r3IsWalk_any (v : Whl) (x : Wk) (w : World) (hv : 0 ≤ v.full ∧ v.full ≤ 10000) :
    Calls Tryz.prog 93 #[(Value.agg #[(Value.int .i64 (v.full)), (Value.int .i64 (v.read)), (Value.int .i64 (v.slip)), (Value.int .i64 (v.skew)), (Value.int .i64 (v.circle)), (Value.int .i64 (v.glo)), (Value.int .i64 (v.ghi)), (Value.int .i64 (v.wrong))]), (Value.agg #[(Value.int .i64 (x.sense)), (Value.int .i64 (x.side)), (Value.int .i64 (x.inside)), (Value.int .i64 (x.start)), (Value.int .i64 (x.fin))])] w fun e w' => e = .returned (.bool (wkB v x)) ∧ Below w.heap.size w w' := by
  have e0 : Blk ((w.alloc (.cells #[(Value.int .i64 (v.full)), (Value.int .i64 (v.read)), (Value.int .i64 (v.slip)), (Value.int .i64 (v.skew)), (Value.int .i64 (v.circle)), (Value.int .i64 (v.glo)), (Value.int .i64 (v.ghi)), (Value.int .i64 (v.wrong))] 27)).alloc (.cells #[(Value.int .i64 (x.sense)), (Value.int .i64 (x.side)), (Value.int .i64 (x.inside)), (Value.int .i64 (x.start)), (Value.int .i64 (x.fin))] 88)) w.heap.size 27 #[(Value.int .i64 (v.full)), (Value.int .i64 (v.read)), (Value.int .i64 (v.slip)), (Value.int .i64 (v.skew)), (Value.int .i64 (v.circle)), (Value.int .i64 (v.glo)), (Value.int .i64 (v.ghi)), (Value.int .i64 (v.wrong))] := (Blk.new _ _ _).alloc _
  have c1 : Blk ((w.alloc (.cells #[(Value.int .i64 (v.full)), (Value.int .i64 (v.read)), (Value.int .i64 (v.slip)), (Value.int .i64 (v.skew)), (Value.int .i64 (v.circle)), (Value.int .i64 (v.glo)), (Value.int .i64 (v.ghi)), (Value.int .i64 (v.wrong))] 27)).alloc (.cells #[(Value.int .i64 (x.sense)), (Value.int .i64 (x.side)), (Value.int .i64 (x.inside)), (Value.int .i64 (x.start)), (Value.int .i64 (x.fin))] 88)) (w.heap.size + 1) 88 #[(Value.int .i64 (x.sense)), (Value.int .i64 (x.side)), (Value.int .i64 (x.inside)), (Value.int .i64 (x.start)), (Value.int .i64 (x.fin))] := blk_new_at (by simp)
  have z1 := wrap64_in (x := v.full - 1) (by omega) (by omega)
  have HF := Lib.hid (show wkB v x = (oneB x.sense && oneB x.side && within x.inside 0 1 && within x.start 0 (v.full - 1) && within x.fin 0 (v.full - 1)) from rfl)
  (have la := e0.lt); (have ya0 := e0.cell 0); simp only [List.getElem?_toArray, List.getElem?_cons_zero] at ya0
  (have lb := c1.lt); (have yb0 := c1.cell 0); (have yb1 := c1.cell 1); (have yb2 := c1.cell 2); (have yb3 := c1.cell 3); (have yb4 := c1.cell 4); simp only [List.getElem?_toArray, List.getElem?_cons_zero, List.getElem?_cons_succ] at yb0 yb1 yb2 yb3 yb4
  go_enter Tryz.func93, Tryz.ntmps93
  go_wp2_with (first | (go_at_call 105; with_reducible refine Calls.mono (r3Within_any _ _ _ _) ?_; rintro e w' ⟨rfl, rfl⟩) | (go_at_call 106; with_reducible refine Calls.mono (r3IsOne_any _ _) ?_; rintro e w' ⟨rfl, rfl⟩))
  all_goals go_ret
  all_goals refine ⟨?_, by (repeat (first | with_reducible exact Below.refl _ _ | with_reducible apply bl_alloc | with_reducible apply bl_drew | with_reducible apply bl_after | (with_reducible refine bl_call ?_ (by assumption))))⟩
  all_goals (apply ret_bool; rw [HF.out]; first | (simp [*]; done) | (simp [*]; omega) | trace_state)
end Go.Proofs.YthijegacjboclaaGreat
