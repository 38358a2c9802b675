/- The function Check of discord and of its reference answers what a valid dispute is. -/
import Derived.Test.YthijegacjboclaaGreatInts
import Derived.Test.YthijegacjboclaaGreatJOwn
import Derived.Deep.LoopGhost
import Derived.Shelf.Abstract
import Derived.Test.YthijegacjboclaaGreatWhC
import Derived.Test.YthijegacjboclaaGreatDsr
import Derived.Test.YthijegacjboclaaGreatCheck
import Derived.Test.YthijegacjboclaaGreatRefCheck
namespace Go.Proofs.YthijegacjboclaaGreat
open Go.RowKit Go.Shelf
attribute [local go_sem] After.cell After.frozen

def findI (g : Int → Bool) (l : List Int) : Int := match l.findIdx? g with | some i => (i : Int) | none => -1
theorem findI_nonneg (g : Int → Bool) (l : List Int) : decide (0 ≤ findI g l) = l.any g := by
  unfold findI
  cases h : l.findIdx? g with
  | some i =>
    rw [List.findIdx?_eq_some_iff_getElem] at h
    obtain ⟨hi, hg, _⟩ := h
    have : l.any g = true := List.any_eq_true.2 ⟨l[i], List.getElem_mem hi, hg⟩
    rw [this]
    simp
  | none =>
    rw [List.findIdx?_eq_none_iff] at h
    have : l.any g = false := by rw [List.any_eq_false]; intro x hx; simp [h x hx]
    rw [this]
    simp
set_option maxRecDepth 100000 in
set_option maxHeartbeats 1000000 in
theorem IndexI_any (A : Option Addr) (ca cf : Nat) (lb : Array Value) (g : Int → Bool) (l : List Int) (w : World) (ha : Ints w A l) (hla : l.length ≤ 1000000)
    (eg : ∀ args w, (callFunc cf args).run Tryz.prog w = .ok (.enter cf args) w)
    (hof : ∀ (p : Int) (W : World), Below w.heap.size w W → Calls Tryz.prog cf (#[(Value.int .i64 (p))] ++ lb) W fun e w' => e = .returned (.bool (g p)) ∧ Below W.heap.size W w') :
    Calls Tryz.prog 86 #[.slice A l.length ca, .func (.func cf) #[] lb] w fun e w' => e = .returned (Value.int .i64 (findI g l)) ∧ Below w.heap.size w w' := by
  go_enter Tryz.func86, Tryz.ntmps86
  go_wp2
  go_loopg [8] l.length (fun n i wr => ∃ k : Nat, k ≤ l.length ∧ n = l.length - k ∧ i = (Value.int .i64 ((k : Int))) ∧ (∀ j, j < k → g (iat l j) = false) ∧ Below w.heap.size w wr)
  case atStart => exact ⟨0, Nat.zero_le _, rfl, rfl, (fun j hj => by omega), by (repeat (first | with_reducible exact Below.refl _ _ | with_reducible apply bl_alloc | with_reducible apply bl_drew | with_reducible apply bl_after | (with_reducible refine bl_call ?_ (by assumption))))⟩
  case round =>
    obtain ⟨k, kn, rfl, rfl, HS, hbw⟩ := hrel
    replace HS := Lib.hid HS
    by_cases hlt : k < l.length
    · obtain ⟨b, o, rfl, pa⟩ := (ha.below hbw).at_ hlt
      have x1 := pa.xi hlt
      have lb' := pa.lt
      have hc0 := hof (iat l k) wr hbw
      by_cases hg : g (iat l k) = true
      · rw [hg] at hc0
        go_wp2_with ((with_reducible refine Calls.mono hc0 ?_); rintro e w1 ⟨rfl, hb1⟩)
        go_ret
        refine ⟨ret_int ?_, by (repeat (first | with_reducible exact Below.refl _ _ | with_reducible apply bl_alloc | with_reducible apply bl_drew | with_reducible apply bl_after | (with_reducible refine bl_call ?_ (by assumption))))⟩
        have : l.findIdx? g = some k := by
          rw [List.findIdx?_eq_some_iff_getElem]
          exact ⟨hlt, by rw [iat_eq hlt]; exact hg, fun j hj => by rw [iat_eq (by omega)]; simp [HS.out j hj]⟩
        simp [findI, this]
      · have hg' : g (iat l k) = false := by simpa using hg
        rw [hg'] at hc0
        go_wp2_with ((with_reducible refine Calls.mono hc0 ?_); rintro e w1 ⟨rfl, hb1⟩)
        go_roundg (l.length - (k + 1))
        case measure => omega
        case rel => exact ⟨k + 1, by omega, rfl, by go_num, (fun j hj => by rcases Nat.lt_succ_iff_lt_or_eq.1 hj with h | h; exact HS.out j h; subst h; exact hg'), by (repeat (first | with_reducible exact Below.refl _ _ | with_reducible apply bl_alloc | with_reducible apply bl_drew | with_reducible apply bl_after | (with_reducible refine bl_call ?_ (by assumption))))⟩
    · go_wp2
      obtain rfl : k = l.length := by omega
      go_ret
      refine ⟨ret_int ?_, by (repeat (first | with_reducible exact Below.refl _ _ | with_reducible apply bl_alloc | with_reducible apply bl_drew | with_reducible apply bl_after | (with_reducible refine bl_call ?_ (by assumption))))⟩
      have : l.findIdx? g = none := by
        rw [List.findIdx?_eq_none_iff]
        intro x hx
        obtain ⟨i, hi, rfl⟩ := List.getElem_of_mem hx
        rw [iat_eq hi]
        exact HS.out i hi
      simp [findI, this]
set_option maxHeartbeats 400000 in
theorem ContainsI_any (A : Option Addr) (ca cf : Nat) (lb : Array Value) (g : Int → Bool) (l : List Int) (w : World) (ha : Ints w A l) (hla : l.length ≤ 1000000)
    (eg : ∀ args w, (callFunc cf args).run Tryz.prog w = .ok (.enter cf args) w)
    (hof : ∀ (p : Int) (W : World), Below w.heap.size w W → Calls Tryz.prog cf (#[(Value.int .i64 (p))] ++ lb) W fun e w' => e = .returned (.bool (g p)) ∧ Below W.heap.size W w') :
    Calls Tryz.prog 61 #[.slice A l.length ca, .func (.func cf) #[] lb] w fun e w' => e = .returned (.bool (l.any g)) ∧ Below w.heap.size w w' := by
  have hI := IndexI_any A ca cf lb g l w ha hla eg hof
  clear hof eg
  go_enter Tryz.func61, Tryz.ntmps61
  go_wp2_with ((with_reducible refine Calls.mono hI ?_); rintro e w1 ⟨rfl, hb1⟩)
  go_ret
  exact ⟨by rw [← findI_nonneg]; rfl, by (repeat (first | with_reducible exact Below.refl _ _ | with_reducible apply bl_alloc | with_reducible apply bl_drew | with_reducible apply bl_after | (with_reducible refine bl_call ?_ (by assumption))))⟩
end Go.Proofs.YthijegacjboclaaGreat
namespace Go.Proofs.YthijegacjboclaaGreat
open Go.RowKit Go.Shelf
attribute [local go_sem] After.cell After.frozen

set_option maxHeartbeats 400000 in
theorem dWithin_any (n l h : Int) (w : World) :
    Calls Tryz.prog 39 #[(Value.int .i64 (n)), (Value.int .i64 (l)), (Value.int .i64 (h))] w fun e w' => e = .returned (.bool (within n l h)) ∧ w = w' := by
  go_enter Tryz.func39, Tryz.ntmps39
  go_wp2
  all_goals (go_ret; refine ⟨?_, rfl⟩; unfold within; simp; try omega)
set_option maxHeartbeats 400000 in
theorem badOff_any (n : Int) (w : World) :
    Calls Tryz.prog 59 #[(Value.int .i64 (n))] w fun e w' => e = .returned (.bool (!within n 0 2)) ∧ w = w' := by
  go_enter Tryz.func59, Tryz.ntmps59
  go_wp2_with (go_at_call 39; with_reducible refine Calls.mono (dWithin_any _ _ _ _) ?_; rintro e w' ⟨rfl, rfl⟩)
  go_ret
  exact ⟨rfl, rfl⟩
theorem any_allO (l : List Int) : (l.any fun n => !within n 0 2) = !l.all fun n => within n 0 2 := by
  induction l with
  | nil => rfl
  | cons a t ih => simp only [List.any_cons, List.all_cons, ih]; cases within a 0 2 <;> simp
theorem noBadO (A : Option Addr) (ca : Nat) (l : List Int) (w : World) (ha : Ints w A l) (hla : l.length ≤ 1000000) :
    Calls Tryz.prog 61 #[.slice A l.length ca, .func (.func 59) #[] #[]] w fun e w' => e = .returned (.bool (!l.all fun n => within n 0 2)) ∧ Below w.heap.size w w' := by
  have h := ContainsI_any A ca 59 #[] (fun n => !within n 0 2) l w ha hla (enters_of Tryz.func59 (by kernel_rfl) rfl) (fun p W _ => (badOff_any p W).mono fun e w' ⟨h1, h2⟩ => ⟨h1, h2 ▸ Below.refl _ _⟩)
  rw [any_allO] at h
  exact h
theorem chkD_eq (D : Dsp) : chkD D = if (decide (D.cs.length ≤ 6) && decide (chk D.cs = 0) && decide (D.offs.length = D.cs.length) && (D.offs.all fun n => within n 0 2) && within D.unit 1 1000 && decide (whE D.wh D.wks = 0)) = true then 0 else 80 := by
  have e : decide (chk D.cs = 0) = decide (Ok D.cs) := by
    unfold chk
    by_cases h : Ok D.cs
    · rw [if_pos h]; simp [h]
    · rw [if_neg h]; simp [h]
  rw [chkD, dspB, e, Bool.and_comm (decide (D.cs.length ≤ 6))]
set_option maxRecDepth 100000 in
set_option maxHeartbeats 4000000 in
theorem dCheck_any (A B C : Option Addr) (ca cb cc : Nat) (D : Dsp) (w : World) (ha : Pts w A D.cs) (hb : Ints w B D.offs) (hc : Wks w C D.wks) :
    Calls Tryz.prog 31 #[(Value.agg #[.slice A D.cs.length ca, .slice B D.offs.length cb, (Value.int .i64 (D.unit)), (Value.int .i64 (D.wh.full)), (Value.int .i64 (D.wh.read)), (Value.int .i64 (D.wh.slip)), (Value.int .i64 (D.wh.skew)), (Value.int .i64 (D.wh.circle)), (Value.int .i64 (D.wh.glo)), (Value.int .i64 (D.wh.ghi)), (Value.int .i64 (D.wh.wrong)), .slice C D.wks.length cc])] w fun e w' => e = .returned (Value.int .i64 (chkD D)) ∧ Below w.heap.size w w' := by
  have e0 : Blk (w.alloc (.cells #[.slice A D.cs.length ca, .slice B D.offs.length cb, (Value.int .i64 (D.unit)), (Value.int .i64 (D.wh.full)), (Value.int .i64 (D.wh.read)), (Value.int .i64 (D.wh.slip)), (Value.int .i64 (D.wh.skew)), (Value.int .i64 (D.wh.circle)), (Value.int .i64 (D.wh.glo)), (Value.int .i64 (D.wh.ghi)), (Value.int .i64 (D.wh.wrong)), .slice C D.wks.length cc] 30)) w.heap.size 30 #[.slice A D.cs.length ca, .slice B D.offs.length cb, (Value.int .i64 (D.unit)), (Value.int .i64 (D.wh.full)), (Value.int .i64 (D.wh.read)), (Value.int .i64 (D.wh.slip)), (Value.int .i64 (D.wh.skew)), (Value.int .i64 (D.wh.circle)), (Value.int .i64 (D.wh.glo)), (Value.int .i64 (D.wh.ghi)), (Value.int .i64 (D.wh.wrong)), .slice C D.wks.length cc] := Blk.new _ _ _
  (have la := e0.lt); (have ya0 := e0.cell 0); (have ya1 := e0.cell 1); (have ya2 := e0.cell 2); (have ya3 := e0.cell 3); (have ya4 := e0.cell 4); (have ya5 := e0.cell 5); (have ya6 := e0.cell 6); (have ya7 := e0.cell 7); (have ya8 := e0.cell 8); (have ya9 := e0.cell 9); (have ya10 := e0.cell 10); (have ya11 := e0.cell 11); simp only [List.getElem?_toArray, List.getElem?_cons_zero, List.getElem?_cons_succ] at ya0 ya1 ya2 ya3 ya4 ya5 ya6 ya7 ya8 ya9 ya10 ya11
  have hN := fun (W : World) (h : Below w.heap.size w W) (hl : D.offs.length ≤ 1000000) => noBadO B cb D.offs W (hb.below h) hl
  have hK := fun (W : World) (h : Below w.heap.size w W) (hl : D.cs.length ≤ 1000000) => Check_any A ca D.cs W (ha.below h) hl
  have hW := fun (W : World) (h : Below w.heap.size w W) => whCheck_any C cc D.wh D.wks W (hc.below h)
  have hF : chkD D = if (decide (D.cs.length ≤ 6) && decide (chk D.cs = 0) && decide (D.offs.length = D.cs.length) && (D.offs.all fun n => within n 0 2) && within D.unit 1 1000 && decide (whE D.wh D.wks = 0)) = true then 0 else 80 := chkD_eq D
  have HF := Lib.hid hF
  clear hF ha hb hc
  generalize (D.offs.all fun n => within n 0 2) = q1 at *
  generalize chk D.cs = q2 at *
  generalize whE D.wh D.wks = q3 at *
  cases q1 <;> simp only [Bool.not_true, Bool.not_false] at hN <;> replace hN := Lib.hid hN
  all_goals
    by_cases h2 : q2 = 0
    · by_cases h3 : q3 = 0
      · subst h2 h3
        replace hK := Lib.hid hK
        replace hW := Lib.hid hW
        go_enter Tryz.func31, Tryz.ntmps31
        go_wp2_with (first | (go_at_call 39; with_reducible refine Calls.mono (dWithin_any _ _ _ _) ?_; rintro e w' ⟨rfl, rfl⟩) | ((go_at_call 60); (with_reducible refine Calls.mono (hK.out _ (by (repeat (first | with_reducible exact Below.refl _ _ | with_reducible apply bl_alloc | with_reducible apply bl_drew | with_reducible apply bl_after | (with_reducible refine bl_call ?_ (by assumption))))) (by omega)) ?_); rintro e wn ⟨rfl, hbn⟩; first | ((with_reducible apply kp_in_step (hb := hbn)); (with_reducible assumption); rintro ⟨hk, hc, hf, hzc, hzf⟩) | ((with_reducible refine kp_in_first hbn ?_); rintro ⟨hk, hc, hf, hzc, hzf⟩)) | ((go_at_call 62); (with_reducible refine Calls.mono (hW.out _ (by (repeat (first | with_reducible exact Below.refl _ _ | with_reducible apply bl_alloc | with_reducible apply bl_drew | with_reducible apply bl_after | (with_reducible refine bl_call ?_ (by assumption)))))) ?_); rintro e wn ⟨rfl, hbn⟩; first | ((with_reducible apply kp_in_step (hb := hbn)); (with_reducible assumption); rintro ⟨hk, hc, hf, hzc, hzf⟩) | ((with_reducible refine kp_in_first hbn ?_); rintro ⟨hk, hc, hf, hzc, hzf⟩)) | ((go_at_call 61); (with_reducible refine Calls.mono (hN.out _ (by (repeat (first | with_reducible exact Below.refl _ _ | with_reducible apply bl_alloc | with_reducible apply bl_drew | with_reducible apply bl_after | (with_reducible refine bl_call ?_ (by assumption))))) (by omega)) ?_); rintro e wn ⟨rfl, hbn⟩; first | ((with_reducible apply kp_in_step (hb := hbn)); (with_reducible assumption); rintro ⟨hk, hc, hf, hzc, hzf⟩) | ((with_reducible refine kp_in_first hbn ?_); rintro ⟨hk, hc, hf, hzc, hzf⟩)))
        all_goals go_ret
        all_goals refine ⟨?_, by (repeat (first | with_reducible exact Below.refl _ _ | with_reducible apply bl_alloc | with_reducible apply bl_drew | with_reducible apply bl_after | (with_reducible refine bl_call ?_ (by assumption))))⟩
        all_goals (apply ret_int; rw [HF.out]; first | (simp [*]; done) | (simp [*]; omega) | trace_state)
      · have h3' : (q3 != 0) = true := by simpa using h3
        subst h2
        replace hK := Lib.hid hK
        replace hW := Lib.hid hW
        go_enter Tryz.func31, Tryz.ntmps31
        go_wp2_with (first | (go_at_call 39; with_reducible refine Calls.mono (dWithin_any _ _ _ _) ?_; rintro e w' ⟨rfl, rfl⟩) | ((go_at_call 60); (with_reducible refine Calls.mono (hK.out _ (by (repeat (first | with_reducible exact Below.refl _ _ | with_reducible apply bl_alloc | with_reducible apply bl_drew | with_reducible apply bl_after | (with_reducible refine bl_call ?_ (by assumption))))) (by omega)) ?_); rintro e wn ⟨rfl, hbn⟩; first | ((with_reducible apply kp_in_step (hb := hbn)); (with_reducible assumption); rintro ⟨hk, hc, hf, hzc, hzf⟩) | ((with_reducible refine kp_in_first hbn ?_); rintro ⟨hk, hc, hf, hzc, hzf⟩)) | ((go_at_call 62); (with_reducible refine Calls.mono (hW.out _ (by (repeat (first | with_reducible exact Below.refl _ _ | with_reducible apply bl_alloc | with_reducible apply bl_drew | with_reducible apply bl_after | (with_reducible refine bl_call ?_ (by assumption)))))) ?_); rintro e wn ⟨rfl, hbn⟩; first | ((with_reducible apply kp_in_step (hb := hbn)); (with_reducible assumption); rintro ⟨hk, hc, hf, hzc, hzf⟩) | ((with_reducible refine kp_in_first hbn ?_); rintro ⟨hk, hc, hf, hzc, hzf⟩)) | ((go_at_call 61); (with_reducible refine Calls.mono (hN.out _ (by (repeat (first | with_reducible exact Below.refl _ _ | with_reducible apply bl_alloc | with_reducible apply bl_drew | with_reducible apply bl_after | (with_reducible refine bl_call ?_ (by assumption))))) (by omega)) ?_); rintro e wn ⟨rfl, hbn⟩; first | ((with_reducible apply kp_in_step (hb := hbn)); (with_reducible assumption); rintro ⟨hk, hc, hf, hzc, hzf⟩) | ((with_reducible refine kp_in_first hbn ?_); rintro ⟨hk, hc, hf, hzc, hzf⟩)))
        all_goals go_ret
        all_goals refine ⟨?_, by (repeat (first | with_reducible exact Below.refl _ _ | with_reducible apply bl_alloc | with_reducible apply bl_drew | with_reducible apply bl_after | (with_reducible refine bl_call ?_ (by assumption))))⟩
        all_goals (apply ret_int; rw [HF.out]; first | (simp [*]; done) | (simp [*]; omega) | trace_state)
    · have h2' : (q2 != 0) = true := by simpa using h2
      replace hK := Lib.hid hK
      replace hW := Lib.hid hW
      go_enter Tryz.func31, Tryz.ntmps31
      go_wp2_with (first | (go_at_call 39; with_reducible refine Calls.mono (dWithin_any _ _ _ _) ?_; rintro e w' ⟨rfl, rfl⟩) | ((go_at_call 60); (with_reducible refine Calls.mono (hK.out _ (by (repeat (first | with_reducible exact Below.refl _ _ | with_reducible apply bl_alloc | with_reducible apply bl_drew | with_reducible apply bl_after | (with_reducible refine bl_call ?_ (by assumption))))) (by omega)) ?_); rintro e wn ⟨rfl, hbn⟩; first | ((with_reducible apply kp_in_step (hb := hbn)); (with_reducible assumption); rintro ⟨hk, hc, hf, hzc, hzf⟩) | ((with_reducible refine kp_in_first hbn ?_); rintro ⟨hk, hc, hf, hzc, hzf⟩)) | ((go_at_call 62); (with_reducible refine Calls.mono (hW.out _ (by (repeat (first | with_reducible exact Below.refl _ _ | with_reducible apply bl_alloc | with_reducible apply bl_drew | with_reducible apply bl_after | (with_reducible refine bl_call ?_ (by assumption)))))) ?_); rintro e wn ⟨rfl, hbn⟩; first | ((with_reducible apply kp_in_step (hb := hbn)); (with_reducible assumption); rintro ⟨hk, hc, hf, hzc, hzf⟩) | ((with_reducible refine kp_in_first hbn ?_); rintro ⟨hk, hc, hf, hzc, hzf⟩)) | ((go_at_call 61); (with_reducible refine Calls.mono (hN.out _ (by (repeat (first | with_reducible exact Below.refl _ _ | with_reducible apply bl_alloc | with_reducible apply bl_drew | with_reducible apply bl_after | (with_reducible refine bl_call ?_ (by assumption))))) (by omega)) ?_); rintro e wn ⟨rfl, hbn⟩; first | ((with_reducible apply kp_in_step (hb := hbn)); (with_reducible assumption); rintro ⟨hk, hc, hf, hzc, hzf⟩) | ((with_reducible refine kp_in_first hbn ?_); rintro ⟨hk, hc, hf, hzc, hzf⟩)))
      all_goals go_ret
      all_goals refine ⟨?_, by (repeat (first | with_reducible exact Below.refl _ _ | with_reducible apply bl_alloc | with_reducible apply bl_drew | with_reducible apply bl_after | (with_reducible refine bl_call ?_ (by assumption))))⟩
      all_goals (apply ret_int; rw [HF.out]; first | (simp [*]; done) | (simp [*]; omega) | trace_state)
end Go.Proofs.YthijegacjboclaaGreat
