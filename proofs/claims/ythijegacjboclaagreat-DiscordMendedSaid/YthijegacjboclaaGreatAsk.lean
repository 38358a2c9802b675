/- The function Fewest of discord answers the least number of faults of a story. -/
import Derived.Test.YthijegacjboclaaGreatFwx
import Derived.Test.YthijegacjboclaaGreatDsr
namespace Go.Proofs.YthijegacjboclaaGreat
open Go.RowKit Go.Maps
attribute [local go_sem] After.cell After.frozen AfterM.cell AfterM.frozen

set_option maxHeartbeats 400000 in
theorem every_any (k : Nat × Nat × Int) (w : World) : Calls Tryz.prog 47 #[stV k] w fun e w' => e = .returned (.bool true) ∧ Below w.heap.size w w' := by
  unfold stV
  go_enter Tryz.func47, Tryz.ntmps47
  go_wp2
  go_ret
  exact ⟨rfl, by (repeat (first | with_reducible exact Below.refl _ _ | with_reducible apply bl_alloc | with_reducible apply bl_drew | with_reducible apply bl_after | (with_reducible refine bl_call ?_ (by assumption))))⟩
set_option maxHeartbeats 400000 in
theorem noWalk_any (k : Nat × Nat × Int) (w : World) : Calls Tryz.prog 64 #[stV k] w fun e w' => e = .returned (.bool (k.2.1 == 0)) ∧ Below w.heap.size w w' := by
  have c0 := Blk.new w 75 #[.int .u64 (k.1 : Int), .int .u64 (k.2.1 : Int), (Value.int .i64 (k.2.2))]
  (have la := c0.lt); (have ya0 := c0.cell 0); (have ya1 := c0.cell 1); (have ya2 := c0.cell 2); simp only [List.getElem?_toArray, List.getElem?_cons_zero, List.getElem?_cons_succ] at ya0 ya1 ya2
  unfold stV
  go_enter Tryz.func64, Tryz.ntmps64
  go_wp2
  go_ret
  refine ⟨ret_bool ?_, by (repeat (first | with_reducible exact Below.refl _ _ | with_reducible apply bl_alloc | with_reducible apply bl_drew | with_reducible apply bl_after | (with_reducible refine bl_call ?_ (by assumption))))⟩
  rw [Bool.eq_iff_iff]
  simp
set_option maxHeartbeats 400000 in
theorem noCor_any (k : Nat × Nat × Int) (w : World) : Calls Tryz.prog 65 #[stV k] w fun e w' => e = .returned (.bool (k.1 == 0)) ∧ Below w.heap.size w w' := by
  have c0 := Blk.new w 75 #[.int .u64 (k.1 : Int), .int .u64 (k.2.1 : Int), (Value.int .i64 (k.2.2))]
  (have la := c0.lt); (have ya0 := c0.cell 0); (have ya1 := c0.cell 1); (have ya2 := c0.cell 2); simp only [List.getElem?_toArray, List.getElem?_cons_zero, List.getElem?_cons_succ] at ya0 ya1 ya2
  unfold stV
  go_enter Tryz.func65, Tryz.ntmps65
  go_wp2
  go_ret
  refine ⟨ret_bool ?_, by (repeat (first | with_reducible exact Below.refl _ _ | with_reducible apply bl_alloc | with_reducible apply bl_drew | with_reducible apply bl_after | (with_reducible refine bl_call ?_ (by assumption))))⟩
  rw [Bool.eq_iff_iff]
  simp

section
variable (A B C : Option Addr) (ca cb cc : Nat) (D : Dsp) (w : World) (ha : Pts w A D.cs) (hb : Ints w B D.offs) (hc : Wks w C D.wks)
theorem FileOk.below {A B C : Option Addr} {ca cb cc : Nat} {D : Dsp} {lo gf : Nat} {w w' : World} (h : FileOk A ca B cb C cc D lo w gf) (hb : Below w.heap.size w w') : FileOk A ca B cb C cc D lo w' gf := by
  obtain ⟨h1, st, nn, F, h2, h3, h4, h5⟩ := h
  exact ⟨h1, st, nn, F, h2, h3, h4.below hb, h5.below hb⟩
include ha hb hc
theorem open_some (hD : dspB D = true) (hex : ∃ k, isK D k) : Calls Tryz.prog 38 #[(Value.agg #[.slice A D.cs.length ca, .slice B D.offs.length cb, (Value.int .i64 (D.unit)), (Value.int .i64 (D.wh.full)), (Value.int .i64 (D.wh.read)), (Value.int .i64 (D.wh.slip)), (Value.int .i64 (D.wh.skew)), (Value.int .i64 (D.wh.circle)), (Value.int .i64 (D.wh.glo)), (Value.int .i64 (D.wh.ghi)), (Value.int .i64 (D.wh.wrong)), .slice C D.wks.length cc]), .bool true] w fun e w' => (∃ gf, e = .returned (.tuple #[.pointer (some ⟨gf, 0, none⟩), (Value.int .i64 (0))]) ∧ FileOk A ca B cb C cc D w.heap.size w' gf) ∧ Below w.heap.size w w' :=
  (open_ok A B C ca cb cc D w ha hb hc hD).mono fun e w' ⟨h, hbw⟩ => ⟨h.elim (fun h => h.2) (fun h => by obtain ⟨k, hk⟩ := hex; exact absurd hk (h.1 k)), hbw⟩
theorem open_none (hD : dspB D = true) (hno : ∀ k, ¬ isK D k) : Calls Tryz.prog 38 #[(Value.agg #[.slice A D.cs.length ca, .slice B D.offs.length cb, (Value.int .i64 (D.unit)), (Value.int .i64 (D.wh.full)), (Value.int .i64 (D.wh.read)), (Value.int .i64 (D.wh.slip)), (Value.int .i64 (D.wh.skew)), (Value.int .i64 (D.wh.circle)), (Value.int .i64 (D.wh.glo)), (Value.int .i64 (D.wh.ghi)), (Value.int .i64 (D.wh.wrong)), .slice C D.wks.length cc]), .bool true] w fun e w' => e = .returned (.tuple #[.pointer none, (Value.int .i64 (3))]) ∧ Below w.heap.size w w' :=
  (open_ok A B C ca cb cc D w ha hb hc hD).mono fun e w' ⟨h, hbw⟩ => ⟨h.elim (fun h => by obtain ⟨k, hk⟩ := h.1; exact absurd hk (hno k)) (fun h => h.2), hbw⟩
end
/-- The least number of something, and the error, of a dispute. -/
def lsV (D : Dsp) (o : Option Nat) : Int := if dspB D = true then (match o with | none => 0 | some m => (m : Int)) else 0
def lsE (D : Dsp) (o : Option Nat) : Int := if dspB D = true then (match o with | none => 3 | some _ => 0) else 80
theorem fwO_none {D : Dsp} (h : DspOk D) (hno : ∀ k, ¬ isK D k) : fwO D = none :=
  lst_of (P := isT D) (o := none) fun t ht => by
    obtain ⟨k, hk, _⟩ := (isT_iff h).1 ht
    exact hno k hk
theorem fwO_some {D : Dsp} (h : DspOk D) {L : List (Nat × Nat × Int)} (hL : MinP (isK D) (fun _ => true) L) {k : Nat × Nat × Int} (hk : k ∈ L) : fwO D = some (mny k) := by
  have h1 := (hL k).1 hk
  refine lst_of (P := isT D) ⟨⟨toT k, (isT_iff h).2 ⟨k, h1.1, rfl⟩, rfl⟩, fun t ht => ?_⟩
  obtain ⟨j, hj, rfl⟩ := (isT_iff h).1 ht
  exact h1.2.2 j hj rfl
section
variable (A B C : Option Addr) (ca cb cc : Nat) (D : Dsp) (w : World) (ha : Pts w A D.cs) (hb : Ints w B D.offs) (hc : Wks w C D.wks)
include ha hb hc
set_option maxRecDepth 100000 in
set_option maxHeartbeats 4000000 in
theorem Fewest_any8 : Calls Tryz.prog 19 #[(Value.agg #[.slice A D.cs.length ca, .slice B D.offs.length cb, (Value.int .i64 (D.unit)), (Value.int .i64 (D.wh.full)), (Value.int .i64 (D.wh.read)), (Value.int .i64 (D.wh.slip)), (Value.int .i64 (D.wh.skew)), (Value.int .i64 (D.wh.circle)), (Value.int .i64 (D.wh.glo)), (Value.int .i64 (D.wh.ghi)), (Value.int .i64 (D.wh.wrong)), .slice C D.wks.length cc])] w fun e w' => e = .returned (.tuple #[(Value.int .i64 (lsV D (fwO D))), (Value.int .i64 (lsE D (fwO D)))]) ∧ Below w.heap.size w w' := by
  have c0 : Blk (w.alloc (.cells #[.slice A D.cs.length ca, .slice B D.offs.length cb, (Value.int .i64 (D.unit)), (Value.int .i64 (D.wh.full)), (Value.int .i64 (D.wh.read)), (Value.int .i64 (D.wh.slip)), (Value.int .i64 (D.wh.skew)), (Value.int .i64 (D.wh.circle)), (Value.int .i64 (D.wh.glo)), (Value.int .i64 (D.wh.ghi)), (Value.int .i64 (D.wh.wrong)), .slice C D.wks.length cc] 30)) w.heap.size 30 #[.slice A D.cs.length ca, .slice B D.offs.length cb, (Value.int .i64 (D.unit)), (Value.int .i64 (D.wh.full)), (Value.int .i64 (D.wh.read)), (Value.int .i64 (D.wh.slip)), (Value.int .i64 (D.wh.skew)), (Value.int .i64 (D.wh.circle)), (Value.int .i64 (D.wh.glo)), (Value.int .i64 (D.wh.ghi)), (Value.int .i64 (D.wh.wrong)), .slice C D.wks.length cc] := Blk.new _ _ _
  have hb0 : Below w.heap.size w (w.alloc (.cells #[.slice A D.cs.length ca, .slice B D.offs.length cb, (Value.int .i64 (D.unit)), (Value.int .i64 (D.wh.full)), (Value.int .i64 (D.wh.read)), (Value.int .i64 (D.wh.slip)), (Value.int .i64 (D.wh.skew)), (Value.int .i64 (D.wh.circle)), (Value.int .i64 (D.wh.glo)), (Value.int .i64 (D.wh.ghi)), (Value.int .i64 (D.wh.wrong)), .slice C D.wks.length cc] 30)) := by (repeat (first | with_reducible exact Below.refl _ _ | with_reducible apply bl_alloc | with_reducible apply bl_drew | with_reducible apply bl_after | (with_reducible refine bl_call ?_ (by assumption))))
  (have la := c0.lt); (have ya0 := c0.cell 0); (have ya1 := c0.cell 1); (have ya2 := c0.cell 2); (have ya3 := c0.cell 3); (have ya4 := c0.cell 4); (have ya5 := c0.cell 5); (have ya6 := c0.cell 6); (have ya7 := c0.cell 7); (have ya8 := c0.cell 8); (have ya9 := c0.cell 9); (have ya10 := c0.cell 10); (have ya11 := c0.cell 11); simp only [List.getElem?_toArray, List.getElem?_cons_zero, List.getElem?_cons_succ] at ya0 ya1 ya2 ya3 ya4 ya5 ya6 ya7 ya8 ya9 ya10 ya11
  by_cases hD : dspB D = true
  · have hok := dsp_ok hD
    by_cases hex : ∃ k, isK D k
    · have hO := fun (W : World) (h : Below w.heap.size w W) => open_some A B C ca cb cc D W (ha.below h) (hb.below h) (hc.below h) hD hex
      replace hO := Lib.hid hO
      have HX := Lib.hid hex
      have HD := Lib.hid hD
      clear ha hb hc hD hex
      go_enter Tryz.func19, Tryz.ntmps19
      go_upto_region 4 with ((go_at_call 38); (with_reducible refine Calls.mono (hO.out _ hb0) ?_); rintro e w2 ⟨⟨gf, rfl, hf⟩, hb2⟩)
      have hFw := Lib.hid (fewest_any hok 47 (fun _ => true) _ gf w2 hf (enters_of Tryz.func47 (by kernel_rfl) rfl) (fun k W _ => every_any k W))
      have hbw2 := bl_call hb0 hb2
      clear la ya0 ya1 ya2 ya3 ya4 ya5 ya6 ya7 ya8 ya9 ya10 ya11 c0 hO hf hb2 hb0
      go_upto_region 5 with ((go_at_call 46); (with_reducible refine Calls.mono hFw.out ?_); rintro e w3 ⟨⟨v, L, rfl, hR, hL, hLl⟩, hb3⟩)
      have hbw3 := bl_call hbw2 hb3
      obtain ⟨y, L', rfl⟩ : ∃ y L', L = y :: L' := by
        cases L with
        | nil =>
          obtain ⟨k, hk⟩ := HX.out
          obtain ⟨j, hj⟩ := least_in (isK D) (fun _ => true) hk rfl
          have := (hL j).2 hj
          simp at this
        | cons y L' => exact ⟨y, L', rfl⟩
      obtain ⟨g9, c9, rfl, lg, -, q0, q1, q2⟩ := hR.head
      have hy := ((hL y).1 List.mem_cons_self).1
      have hy3 := isK_lt hok hy
      have hfo := fwO_some hok hL List.mem_cons_self
      have e1 : lsV D (fwO D) = ((mny y : Nat) : Int) := by unfold lsV; rw [if_pos HD.out, hfo]
      have e2 : lsE D (fwO D) = 0 := by unfold lsE; rw [if_pos HD.out, hfo]
      have hm := Lib.hid fun (W : World) => many_any y.1 y.2.1 hy3.1 hy3.2.1 W
      have HE := Lib.hid (And.intro e1 e2)
      clear hR hL hy hy3 hfo e1 e2 hb3 hbw2 hFw
      go_wp2_with ((go_at_call 40); (with_reducible refine Calls.mono (hm.out _) ?_); rintro e wn ⟨rfl, hbn⟩; first | ((with_reducible apply kp_in_step (hb := hbn)); (with_reducible assumption); rintro ⟨hk, hc, hf, hzc, hzf⟩) | ((with_reducible refine kp_in_first hbn ?_); rintro ⟨hk, hc, hf, hzc, hzf⟩))
      go_ret2
      refine ⟨?_, bl_call hbw3 (by (repeat (first | with_reducible exact Below.refl _ _ | with_reducible apply bl_alloc | with_reducible apply bl_drew | with_reducible apply bl_after | (with_reducible refine bl_call ?_ (by assumption)))))⟩
      rw [HE.out.1, HE.out.2]
      rfl
    · have hno : ∀ k, ¬ isK D k := fun k hk => hex ⟨k, hk⟩
      have hO := fun (W : World) (h : Below w.heap.size w W) => open_none A B C ca cb cc D W (ha.below h) (hb.below h) (hc.below h) hD hno
      have e1 : lsV D (fwO D) = 0 := by unfold lsV; rw [if_pos hD, fwO_none hok hno]
      have e2 : lsE D (fwO D) = 3 := by unfold lsE; rw [if_pos hD, fwO_none hok hno]
      rw [e1, e2]
      replace hO := Lib.hid hO
      clear ha hb hc hD hex hno e1 e2
      go_enter Tryz.func19, Tryz.ntmps19
      go_wp2_with ((go_at_call 38); (with_reducible refine Calls.mono (hO.out _ hb0) ?_); rintro e wn ⟨rfl, hbn⟩; first | ((with_reducible apply kp_in_step (hb := hbn)); (with_reducible assumption); rintro ⟨hk, hc, hf, hzc, hzf⟩) | ((with_reducible refine kp_in_first hbn ?_); rintro ⟨hk, hc, hf, hzc, hzf⟩))
      go_ret2
      exact ⟨rfl, by (repeat (first | with_reducible exact Below.refl _ _ | with_reducible apply bl_alloc | with_reducible apply bl_drew | with_reducible apply bl_after | (with_reducible refine bl_call ?_ (by assumption))))⟩
  · have hD' : dspB D = false := by simpa using hD
    have hO := fun (W : World) (h : Below w.heap.size w W) => open_bad A B C ca cb cc D W (ha.below h) (hb.below h) (hc.below h) true hD'
    have e1 : lsV D (fwO D) = 0 := by unfold lsV; rw [if_neg hD]
    have e2 : lsE D (fwO D) = 80 := by unfold lsE; rw [if_neg hD]
    rw [e1, e2]
    replace hO := Lib.hid hO
    clear ha hb hc hD hD' e1 e2
    go_enter Tryz.func19, Tryz.ntmps19
    go_wp2_with ((go_at_call 38); (with_reducible refine Calls.mono (hO.out _ hb0) ?_); rintro e wn ⟨rfl, hbn⟩; first | ((with_reducible apply kp_in_step (hb := hbn)); (with_reducible assumption); rintro ⟨hk, hc, hf, hzc, hzf⟩) | ((with_reducible refine kp_in_first hbn ?_); rintro ⟨hk, hc, hf, hzc, hzf⟩))
    go_ret2
    exact ⟨rfl, by (repeat (first | with_reducible exact Below.refl _ _ | with_reducible apply bl_alloc | with_reducible apply bl_drew | with_reducible apply bl_after | (with_reducible refine bl_call ?_ (by assumption))))⟩
end
end Go.Proofs.YthijegacjboclaaGreat
