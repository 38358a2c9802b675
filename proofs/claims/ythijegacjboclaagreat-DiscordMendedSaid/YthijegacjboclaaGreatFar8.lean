/- Far and ready of the laws of disputes. -/
import Derived.Test.YthijegacjboclaaGreatDck
import Derived.Test.YthijegacjboclaaGreatRefCheck
namespace Go.Proofs.YthijegacjboclaaGreat
open Go.RowKit
attribute [local go_sem] After.cell After.frozen
theorem lt_succ8 {P : Nat → Prop} {k : Nat} (h : ∀ j, j < k → P j) (hk : P k) : ∀ j, j < k + 1 → P j := fun j hj => by
  rcases Nat.lt_succ_iff_lt_or_eq.1 hj with q | q
  · exact h j q
  · exact q ▸ hk

set_option maxRecDepth 100000 in
set_option maxHeartbeats 2000000 in
theorem r3Check_any (A : Option Addr) (ca : Nat) (v : Whl) (l : List Wk) (w : World) (ha : Wks w A l) (hl : l.length ≤ 40) :
    Calls Tryz.prog 63 #[(Value.agg #[(Value.int .i64 (v.full)), (Value.int .i64 (v.read)), (Value.int .i64 (v.slip)), (Value.int .i64 (v.skew)), (Value.int .i64 (v.circle)), (Value.int .i64 (v.glo)), (Value.int .i64 (v.ghi)), (Value.int .i64 (v.wrong))]), .slice A l.length ca] w fun e w' => e = .returned (Value.int .i64 (whE v l)) ∧ Below w.heap.size w w' := by
  have e0 : Blk (w.alloc (.cells #[(Value.int .i64 (v.full)), (Value.int .i64 (v.read)), (Value.int .i64 (v.slip)), (Value.int .i64 (v.skew)), (Value.int .i64 (v.circle)), (Value.int .i64 (v.glo)), (Value.int .i64 (v.ghi)), (Value.int .i64 (v.wrong))] 27)) w.heap.size 27 #[(Value.int .i64 (v.full)), (Value.int .i64 (v.read)), (Value.int .i64 (v.slip)), (Value.int .i64 (v.skew)), (Value.int .i64 (v.circle)), (Value.int .i64 (v.glo)), (Value.int .i64 (v.ghi)), (Value.int .i64 (v.wrong))] := Blk.new _ _ _
  have hW := fun (W : World) => r3IsWheel_any v W
  by_cases h1 : whlB v = true
  · rw [h1] at hW
    replace hW := Lib.hid hW
    have hok := whl_ok h1
    have HV := Lib.hid (show 0 ≤ v.full ∧ v.full ≤ 10000 from ⟨by have := hok.f0; omega, hok.f1⟩)
    have HF := Lib.hid (show whE v l = if l.length ≤ 8 ∧ l.all (wkB v) = true then 0 else 31 by rw [whE, if_pos h1])
    clear hok h1
    have e0' := Lib.hid e0
    (have la := e0.lt); (have ya0 := e0.cell 0); (have ya1 := e0.cell 1); (have ya2 := e0.cell 2); (have ya3 := e0.cell 3); (have ya4 := e0.cell 4); (have ya5 := e0.cell 5); (have ya6 := e0.cell 6); (have ya7 := e0.cell 7); simp only [List.getElem?_toArray, List.getElem?_cons_zero, List.getElem?_cons_succ] at ya0 ya1 ya2 ya3 ya4 ya5 ya6 ya7
    go_enter Tryz.func63, Tryz.ntmps63
    go_wp2_with ((go_at_call 92); (with_reducible refine Calls.mono (hW.out _) ?_); rintro e wn ⟨rfl, hbn⟩; first | ((with_reducible apply kp_in_step (hb := hbn)); (with_reducible assumption); rintro ⟨hk, hc, hf, hzc, hzf⟩) | ((with_reducible refine kp_in_first hbn ?_); rintro ⟨hk, hc, hf, hzc, hzf⟩))
    have hb1 : Below ((w.alloc (.cells #[(Value.int .i64 (v.full)), (Value.int .i64 (v.read)), (Value.int .i64 (v.slip)), (Value.int .i64 (v.skew)), (Value.int .i64 (v.circle)), (Value.int .i64 (v.glo)), (Value.int .i64 (v.ghi)), (Value.int .i64 (v.wrong))] 27))).heap.size (w.alloc (.cells #[(Value.int .i64 (v.full)), (Value.int .i64 (v.read)), (Value.int .i64 (v.slip)), (Value.int .i64 (v.skew)), (Value.int .i64 (v.circle)), (Value.int .i64 (v.glo)), (Value.int .i64 (v.ghi)), (Value.int .i64 (v.wrong))] 27)) wn := by (repeat (first | with_reducible exact Below.refl _ _ | with_reducible apply bl_alloc | with_reducible apply bl_drew | with_reducible apply bl_after | (with_reducible refine bl_call ?_ (by assumption))))
    have hb0 : Below w.heap.size w wn := by (repeat (first | with_reducible exact Below.refl _ _ | with_reducible apply bl_alloc | with_reducible apply bl_drew | with_reducible apply bl_after | (with_reducible refine bl_call ?_ (by assumption))))
    have HB := e0'.out.below hb1
    clear la ya0 ya1 ya2 ya3 ya4 ya5 ya6 ya7 e0 e0' hbn hb1
    ((try clear hk hc hf hzc hzf); (try clear hk hc hf hzc hzf); (try clear hk hc hf hzc hzf); (try clear hk hc hf hzc hzf))
    go_loopg [5] l.length (fun g i wr => ∃ k : Nat, k ≤ l.length ∧ g = l.length - k ∧ i = (Value.int .i64 ((k : Int))) ∧ (∀ j, j < k → wkB v (wat l j) = true) ∧ Blk wr w.heap.size 27 #[(Value.int .i64 (v.full)), (Value.int .i64 (v.read)), (Value.int .i64 (v.slip)), (Value.int .i64 (v.skew)), (Value.int .i64 (v.circle)), (Value.int .i64 (v.glo)), (Value.int .i64 (v.ghi)), (Value.int .i64 (v.wrong))] ∧ Below w.heap.size w wr)
    case atStart => exact ⟨0, Nat.zero_le _, rfl, rfl, (fun j hj => by omega), HB, hb0⟩
    case round =>
      clear HB
      obtain ⟨k, kn, rfl, rfl, HP, HB, hbw⟩ := hrel
      replace HP := Lib.hid HP
      have HB' := Lib.hid HB
      (have la := HB.lt); (have ya0 := HB.cell 0); (have ya1 := HB.cell 1); (have ya2 := HB.cell 2); (have ya3 := HB.cell 3); (have ya4 := HB.cell 4); (have ya5 := HB.cell 5); (have ya6 := HB.cell 6); (have ya7 := HB.cell 7); simp only [List.getElem?_toArray, List.getElem?_cons_zero, List.getElem?_cons_succ] at ya0 ya1 ya2 ya3 ya4 ya5 ya6 ya7
      by_cases hlt : k < l.length
      · obtain ⟨b, o, rfl, hp⟩ := ha.at_ hlt
        obtain ⟨lb, k0, k1, k2, k3, k4⟩ := wk_cells (hp.below hbw) hlt
        have i1 : (k : Int) < (l.length : Int) := by omega
        have hc := fun (V : World) => r3IsWalk_any v (wat l k) V HV.out
        cases hq : wkB v (wat l k)
        · rw [hq] at hc
          replace hc := Lib.hid hc
          have e : whE v l = 31 := by
            rw [HF.out, if_neg]
            rintro ⟨-, h⟩
            rw [List.all_eq_true.1 h _ (wat_mem hlt)] at hq
            cases hq
          replace e := Lib.hid e
          clear hq HB
          go_upto_region 6 with fail
          refine wp_region_after (by kernel_rfl) (by kernel_rfl) ?_; (repeat (go_big_quiet_step (((go_at_call 93; with_reducible exact calls_after (hc.out _)))))); refine wpQuiet_nil ?_; rintro _ ⟨z, rfl⟩; (first | ((with_reducible apply kp_in_after (z := z)); (with_reducible assumption); rintro ⟨hk, hc, hf, hzc, hzf⟩) | ((with_reducible refine kp_in_after0 z ?_); rintro ⟨hk, hc, hf, hzc, hzf⟩))
          go_wp2
          go_ret
          exact ⟨ret_int e.out.symm, by (repeat (first | with_reducible exact Below.refl _ _ | with_reducible apply bl_alloc | with_reducible apply bl_drew | with_reducible apply bl_after | (with_reducible refine bl_call ?_ (by assumption))))⟩
        · have HQ := Lib.hid hq
          rw [hq] at hc
          replace hc := Lib.hid hc
          clear hq HB
          go_upto_region 6 with fail
          refine wp_region_after (by kernel_rfl) (by kernel_rfl) ?_; (repeat (go_big_quiet_step (((go_at_call 93; with_reducible exact calls_after (hc.out _)))))); refine wpQuiet_nil ?_; rintro _ ⟨z, rfl⟩; (first | ((with_reducible apply kp_in_after (z := z)); (with_reducible assumption); rintro ⟨hk, hc, hf, hzc, hzf⟩) | ((with_reducible refine kp_in_after0 z ?_); rintro ⟨hk, hc, hf, hzc, hzf⟩))
          go_wp2
          go_roundg (l.length - (k + 1))
          case measure => omega
          case rel => exact ⟨k + 1, by omega, rfl, by go_num, lt_succ8 (P := fun j => wkB v (wat l j) = true) HP.out HQ.out, HB'.out.below (by (repeat (first | with_reducible exact Below.refl _ _ | with_reducible apply bl_alloc | with_reducible apply bl_drew | with_reducible apply bl_after | (with_reducible refine bl_call ?_ (by assumption))))), by (repeat (first | with_reducible exact Below.refl _ _ | with_reducible apply bl_alloc | with_reducible apply bl_drew | with_reducible apply bl_after | (with_reducible refine bl_call ?_ (by assumption))))⟩
      · obtain rfl : k = l.length := by omega
        have hall : l.all (wkB v) = true := List.all_eq_true.2 fun x hx => by
          obtain ⟨i, hi, rfl⟩ := List.mem_iff_getElem.1 hx
          rw [wat_eq hi]
          exact HP.out i hi
        have HA := Lib.hid hall
        clear hall HB
        go_wp2
        all_goals go_ret
        all_goals refine ⟨?_, by (repeat (first | with_reducible exact Below.refl _ _ | with_reducible apply bl_alloc | with_reducible apply bl_drew | with_reducible apply bl_after | (with_reducible refine bl_call ?_ (by assumption))))⟩
        all_goals (apply ret_int; rw [HF.out, HA.out]; first | (simp [*]; done) | (simp; omega) | trace_state)
  · have h1' : whlB v = false := by simpa using h1
    rw [h1'] at hW
    have HF := Lib.hid (show whE v l = 30 by rw [whE, if_neg h1])
    replace hW := Lib.hid hW
    clear h1 h1'
    (have la := e0.lt); (have ya0 := e0.cell 0); (have ya1 := e0.cell 1); (have ya2 := e0.cell 2); (have ya3 := e0.cell 3); (have ya4 := e0.cell 4); (have ya5 := e0.cell 5); (have ya6 := e0.cell 6); (have ya7 := e0.cell 7); simp only [List.getElem?_toArray, List.getElem?_cons_zero, List.getElem?_cons_succ] at ya0 ya1 ya2 ya3 ya4 ya5 ya6 ya7
    go_enter Tryz.func63, Tryz.ntmps63
    go_wp2_with ((go_at_call 92); (with_reducible refine Calls.mono (hW.out _) ?_); rintro e wn ⟨rfl, hbn⟩; first | ((with_reducible apply kp_in_step (hb := hbn)); (with_reducible assumption); rintro ⟨hk, hc, hf, hzc, hzf⟩) | ((with_reducible refine kp_in_first hbn ?_); rintro ⟨hk, hc, hf, hzc, hzf⟩))
    go_ret
    exact ⟨ret_int HF.out.symm, by (repeat (first | with_reducible exact Below.refl _ _ | with_reducible apply bl_alloc | with_reducible apply bl_drew | with_reducible apply bl_after | (with_reducible refine bl_call ?_ (by assumption))))⟩
set_option maxHeartbeats 400000 in
theorem r8Within_any (n l h : Int) (w : World) :
    Calls Tryz.prog 44 #[(Value.int .i64 (n)), (Value.int .i64 (l)), (Value.int .i64 (h))] w fun e w' => e = .returned (.bool (within n l h)) ∧ w = w' := by
  have h1 : Calls Tryz.prog 73 #[(Value.int .i64 (n)), (Value.int .i64 (l)), (Value.int .i64 (h))] w fun e w' => e = .returned (.bool (within n l h)) ∧ w = w' := by
    go_enter Tryz.func73, Tryz.ntmps73
    go_wp2
    all_goals (go_ret; refine ⟨?_, rfl⟩; unfold within; simp; try omega)
  go_enter Tryz.func44, Tryz.ntmps44
  go_wp2_with ((go_at_call 73); (with_reducible refine Calls.mono h1 ?_); rintro e w' ⟨rfl, rfl⟩)
  go_ret
  exact ⟨rfl, rfl⟩
section
variable (A B C : Option Addr) (ca cb cc : Nat) (D : Dsp) (w : World) (ha : Pts w A D.cs) (hb : Ints w B D.offs) (hc : Wks w C D.wks) (h1 : D.cs.length ≤ 40) (h2 : D.offs.length ≤ 40) (h3 : D.wks.length ≤ 40)
include ha hb hc h1 h2 h3
set_option maxRecDepth 100000 in
set_option maxHeartbeats 4000000 in
theorem rCheck8_any :
    Calls Tryz.prog 32 #[(Value.agg #[.slice A D.cs.length ca, .slice B D.offs.length cb, (Value.int .i64 (D.unit)), (Value.int .i64 (D.wh.full)), (Value.int .i64 (D.wh.read)), (Value.int .i64 (D.wh.slip)), (Value.int .i64 (D.wh.skew)), (Value.int .i64 (D.wh.circle)), (Value.int .i64 (D.wh.glo)), (Value.int .i64 (D.wh.ghi)), (Value.int .i64 (D.wh.wrong)), .slice C D.wks.length cc])] w fun e w' => e = .returned (Value.int .i64 (chkD D)) ∧ Below w.heap.size w w' := by
  have e0 : Blk (w.alloc (.cells #[.slice A D.cs.length ca, .slice B D.offs.length cb, (Value.int .i64 (D.unit)), (Value.int .i64 (D.wh.full)), (Value.int .i64 (D.wh.read)), (Value.int .i64 (D.wh.slip)), (Value.int .i64 (D.wh.skew)), (Value.int .i64 (D.wh.circle)), (Value.int .i64 (D.wh.glo)), (Value.int .i64 (D.wh.ghi)), (Value.int .i64 (D.wh.wrong)), .slice C D.wks.length cc] 30)) w.heap.size 30 #[.slice A D.cs.length ca, .slice B D.offs.length cb, (Value.int .i64 (D.unit)), (Value.int .i64 (D.wh.full)), (Value.int .i64 (D.wh.read)), (Value.int .i64 (D.wh.slip)), (Value.int .i64 (D.wh.skew)), (Value.int .i64 (D.wh.circle)), (Value.int .i64 (D.wh.glo)), (Value.int .i64 (D.wh.ghi)), (Value.int .i64 (D.wh.wrong)), .slice C D.wks.length cc] := Blk.new _ _ _
  have hK := Lib.hid fun (W : World) (h : Below w.heap.size w W) => rCheck_any A ca D.cs W (ha.below h) (by omega)
  have hW := Lib.hid fun (W : World) (h : Below w.heap.size w W) => r3Check_any C cc D.wh D.wks W (hc.below h) h3
  have HF := Lib.hid (chkD_eq D)
  have e0' := Lib.hid e0
  (have la := e0.lt); (have ya0 := e0.cell 0); (have ya1 := e0.cell 1); (have ya2 := e0.cell 2); (have ya3 := e0.cell 3); (have ya4 := e0.cell 4); (have ya5 := e0.cell 5); (have ya6 := e0.cell 6); (have ya7 := e0.cell 7); (have ya8 := e0.cell 8); (have ya9 := e0.cell 9); (have ya10 := e0.cell 10); (have ya11 := e0.cell 11); simp only [List.getElem?_toArray, List.getElem?_cons_zero, List.getElem?_cons_succ] at ya0 ya1 ya2 ya3 ya4 ya5 ya6 ya7 ya8 ya9 ya10 ya11
  have ci : chk D.cs = 0 ∨ (chk D.cs != 0) = true := by
    by_cases h : chk D.cs = 0
    · exact .inl h
    · exact .inr (by rw [bne_iff_ne]; exact h)
  have wi : whE D.wh D.wks = 0 ∨ (whE D.wh D.wks != 0) = true := by
    by_cases h : whE D.wh D.wks = 0
    · exact .inl h
    · exact .inr (by rw [bne_iff_ne]; exact h)
  generalize chk D.cs = q2 at *
  generalize whE D.wh D.wks = q3 at *
  rcases ci with rfl | q2n
  · by_cases l6 : (6 : Int) < (D.cs.length : Int)
    · have HE := Lib.hid (show chkD D = 80 by rw [HF.out]; simp; omega)
      go_enter Tryz.func32, Tryz.ntmps32; go_wp2_with (first | (go_at_call 44; with_reducible refine Calls.mono (r8Within_any _ _ _ _) ?_; rintro e w' ⟨rfl, rfl⟩) | ((go_at_call 58); (with_reducible refine Calls.mono (hK.out _ (by (repeat (first | with_reducible exact Below.refl _ _ | with_reducible apply bl_alloc | with_reducible apply bl_drew | with_reducible apply bl_after | (with_reducible refine bl_call ?_ (by assumption)))))) ?_); rintro e wn ⟨rfl, hbn⟩; first | ((with_reducible apply kp_in_step (hb := hbn)); (with_reducible assumption); rintro ⟨hk, hc, hf, hzc, hzf⟩) | ((with_reducible refine kp_in_first hbn ?_); rintro ⟨hk, hc, hf, hzc, hzf⟩)) | ((go_at_call 63); (with_reducible refine Calls.mono (hW.out _ (by (repeat (first | with_reducible exact Below.refl _ _ | with_reducible apply bl_alloc | with_reducible apply bl_drew | with_reducible apply bl_after | (with_reducible refine bl_call ?_ (by assumption)))))) ?_); rintro e wn ⟨rfl, hbn⟩; first | ((with_reducible apply kp_in_step (hb := hbn)); (with_reducible assumption); rintro ⟨hk, hc, hf, hzc, hzf⟩) | ((with_reducible refine kp_in_first hbn ?_); rintro ⟨hk, hc, hf, hzc, hzf⟩))); go_ret; exact ⟨ret_int HE.out.symm, by (repeat (first | with_reducible exact Below.refl _ _ | with_reducible apply bl_alloc | with_reducible apply bl_drew | with_reducible apply bl_after | (with_reducible refine bl_call ?_ (by assumption))))⟩
    · by_cases lo : D.offs.length = D.cs.length
      · have lo' : ((D.offs.length : Int) != (D.cs.length : Int)) = false := by simp [lo]
        cases hu : within D.unit 1 1000
        · have HE := Lib.hid (show chkD D = 80 by rw [HF.out, hu]; simp)
          clear lo
          go_enter Tryz.func32, Tryz.ntmps32; go_wp2_with (first | (go_at_call 44; with_reducible refine Calls.mono (r8Within_any _ _ _ _) ?_; rintro e w' ⟨rfl, rfl⟩) | ((go_at_call 58); (with_reducible refine Calls.mono (hK.out _ (by (repeat (first | with_reducible exact Below.refl _ _ | with_reducible apply bl_alloc | with_reducible apply bl_drew | with_reducible apply bl_after | (with_reducible refine bl_call ?_ (by assumption)))))) ?_); rintro e wn ⟨rfl, hbn⟩; first | ((with_reducible apply kp_in_step (hb := hbn)); (with_reducible assumption); rintro ⟨hk, hc, hf, hzc, hzf⟩) | ((with_reducible refine kp_in_first hbn ?_); rintro ⟨hk, hc, hf, hzc, hzf⟩)) | ((go_at_call 63); (with_reducible refine Calls.mono (hW.out _ (by (repeat (first | with_reducible exact Below.refl _ _ | with_reducible apply bl_alloc | with_reducible apply bl_drew | with_reducible apply bl_after | (with_reducible refine bl_call ?_ (by assumption)))))) ?_); rintro e wn ⟨rfl, hbn⟩; first | ((with_reducible apply kp_in_step (hb := hbn)); (with_reducible assumption); rintro ⟨hk, hc, hf, hzc, hzf⟩) | ((with_reducible refine kp_in_first hbn ?_); rintro ⟨hk, hc, hf, hzc, hzf⟩))); go_ret; exact ⟨ret_int HE.out.symm, by (repeat (first | with_reducible exact Below.refl _ _ | with_reducible apply bl_alloc | with_reducible apply bl_drew | with_reducible apply bl_after | (with_reducible refine bl_call ?_ (by assumption))))⟩
        · rcases wi with rfl | q3n
          · have HF2 := Lib.hid (show chkD D = if (D.offs.all fun n => within n 0 2) = true then 0 else 80 by rw [HF.out, hu]; simp [lo, show D.cs.length ≤ 6 by omega])
            clear lo
            have HL := Lib.hid (And.intro h2 hb)
            clear HF
            go_enter Tryz.func32, Tryz.ntmps32
            go_upto_region 3 with (first | (go_at_call 44; with_reducible refine Calls.mono (r8Within_any _ _ _ _) ?_; rintro e w' ⟨rfl, rfl⟩) | ((go_at_call 58); (with_reducible refine Calls.mono (hK.out _ (by (repeat (first | with_reducible exact Below.refl _ _ | with_reducible apply bl_alloc | with_reducible apply bl_drew | with_reducible apply bl_after | (with_reducible refine bl_call ?_ (by assumption)))))) ?_); rintro e wn ⟨rfl, hbn⟩; first | ((with_reducible apply kp_in_step (hb := hbn)); (with_reducible assumption); rintro ⟨hk, hc, hf, hzc, hzf⟩) | ((with_reducible refine kp_in_first hbn ?_); rintro ⟨hk, hc, hf, hzc, hzf⟩)) | ((go_at_call 63); (with_reducible refine Calls.mono (hW.out _ (by (repeat (first | with_reducible exact Below.refl _ _ | with_reducible apply bl_alloc | with_reducible apply bl_drew | with_reducible apply bl_after | (with_reducible refine bl_call ?_ (by assumption)))))) ?_); rintro e wn ⟨rfl, hbn⟩; first | ((with_reducible apply kp_in_step (hb := hbn)); (with_reducible assumption); rintro ⟨hk, hc, hf, hzc, hzf⟩) | ((with_reducible refine kp_in_first hbn ?_); rintro ⟨hk, hc, hf, hzc, hzf⟩)))
            have hB1 : Below ((w.alloc (.cells #[.slice A D.cs.length ca, .slice B D.offs.length cb, (Value.int .i64 (D.unit)), (Value.int .i64 (D.wh.full)), (Value.int .i64 (D.wh.read)), (Value.int .i64 (D.wh.slip)), (Value.int .i64 (D.wh.skew)), (Value.int .i64 (D.wh.circle)), (Value.int .i64 (D.wh.glo)), (Value.int .i64 (D.wh.ghi)), (Value.int .i64 (D.wh.wrong)), .slice C D.wks.length cc] 30))).heap.size (w.alloc (.cells #[.slice A D.cs.length ca, .slice B D.offs.length cb, (Value.int .i64 (D.unit)), (Value.int .i64 (D.wh.full)), (Value.int .i64 (D.wh.read)), (Value.int .i64 (D.wh.slip)), (Value.int .i64 (D.wh.skew)), (Value.int .i64 (D.wh.circle)), (Value.int .i64 (D.wh.glo)), (Value.int .i64 (D.wh.ghi)), (Value.int .i64 (D.wh.wrong)), .slice C D.wks.length cc] 30)) wn := by (repeat (first | with_reducible exact Below.refl _ _ | with_reducible apply bl_alloc | with_reducible apply bl_drew | with_reducible apply bl_after | (with_reducible refine bl_call ?_ (by assumption))))
            have hbx : Below w.heap.size w wn := bl_call (by (repeat (first | with_reducible exact Below.refl _ _ | with_reducible apply bl_alloc | with_reducible apply bl_drew | with_reducible apply bl_after | (with_reducible refine bl_call ?_ (by assumption))))) hB1
            have HB := e0'.out.below hB1
            clear la ya0 ya1 ya2 ya3 ya4 ya5 ya6 ya7 ya8 ya9 ya10 ya11 e0 e0' hK hW
            ((try clear hk hc hf hzc hzf); (try clear hk hc hf hzc hzf); (try clear hk hc hf hzc hzf); (try clear hk hc hf hzc hzf))
            go_wp2
            go_loopg [3] D.offs.length (fun g i wr => ∃ k : Nat, k ≤ D.offs.length ∧ g = D.offs.length - k ∧ i = (Value.int .i64 ((k : Int))) ∧ (∀ j, j < k → within (iat D.offs j) 0 2 = true) ∧ Blk wr w.heap.size 30 #[.slice A D.cs.length ca, .slice B D.offs.length cb, (Value.int .i64 (D.unit)), (Value.int .i64 (D.wh.full)), (Value.int .i64 (D.wh.read)), (Value.int .i64 (D.wh.slip)), (Value.int .i64 (D.wh.skew)), (Value.int .i64 (D.wh.circle)), (Value.int .i64 (D.wh.glo)), (Value.int .i64 (D.wh.ghi)), (Value.int .i64 (D.wh.wrong)), .slice C D.wks.length cc] ∧ Below w.heap.size w wr)
            case atStart => exact ⟨0, Nat.zero_le _, rfl, rfl, (fun j hj => by omega), HB, hbx⟩
            case round =>
              clear HB
              obtain ⟨k, kn, rfl, rfl, HP, HB, hbw⟩ := hrel
              replace HP := Lib.hid HP
              have HB' := Lib.hid HB
              (have la := HB.lt); (have ya0 := HB.cell 0); (have ya1 := HB.cell 1); (have ya2 := HB.cell 2); (have ya3 := HB.cell 3); (have ya4 := HB.cell 4); (have ya5 := HB.cell 5); (have ya6 := HB.cell 6); (have ya7 := HB.cell 7); (have ya8 := HB.cell 8); (have ya9 := HB.cell 9); (have ya10 := HB.cell 10); (have ya11 := HB.cell 11); simp only [List.getElem?_toArray, List.getElem?_cons_zero, List.getElem?_cons_succ] at ya0 ya1 ya2 ya3 ya4 ya5 ya6 ya7 ya8 ya9 ya10 ya11
              by_cases hlt : k < D.offs.length
              · obtain ⟨b, o, rfl, hp⟩ := HL.out.2.at_ hlt
                have hp' := hp.below hbw
                have k0 := hp'.xi hlt
                have lb := hp'.lt
                have i1 : (k : Int) < (D.offs.length : Int) := by omega
                clear hp hp' HB
                cases hq : within (iat D.offs k) 0 2
                · have HE := Lib.hid (show chkD D = 80 by
                    rw [HF2.out, if_neg]
                    intro h
                    have := List.all_eq_true.1 h _ (List.getElem_mem hlt)
                    rw [iat_eq hlt, hq] at this
                    cases this)
                  go_wp2_with (go_at_call 44; with_reducible refine Calls.mono (r8Within_any _ _ _ _) ?_; rintro e w' ⟨rfl, rfl⟩)
                  go_ret
                  exact ⟨ret_int HE.out.symm, by (repeat (first | with_reducible exact Below.refl _ _ | with_reducible apply bl_alloc | with_reducible apply bl_drew | with_reducible apply bl_after | (with_reducible refine bl_call ?_ (by assumption))))⟩
                · have HQ := Lib.hid hq
                  go_wp2_with (go_at_call 44; with_reducible refine Calls.mono (r8Within_any _ _ _ _) ?_; rintro e w' ⟨rfl, rfl⟩)
                  go_roundg (D.offs.length - (k + 1))
                  case measure => omega
                  case rel => exact ⟨k + 1, by omega, rfl, by go_num, lt_succ8 (P := fun j => within (iat D.offs j) 0 2 = true) HP.out HQ.out, HB'.out, by (repeat (first | with_reducible exact Below.refl _ _ | with_reducible apply bl_alloc | with_reducible apply bl_drew | with_reducible apply bl_after | (with_reducible refine bl_call ?_ (by assumption))))⟩
              · obtain rfl : k = D.offs.length := by omega
                have HE := Lib.hid (show chkD D = 0 by
                  rw [HF2.out, if_pos]
                  refine List.all_eq_true.2 fun x hx => ?_
                  obtain ⟨i, hi, rfl⟩ := List.mem_iff_getElem.1 hx
                  rw [iat_eq hi]
                  exact HP.out i hi)
                go_wp2
                go_ret
                exact ⟨ret_int HE.out.symm, by (repeat (first | with_reducible exact Below.refl _ _ | with_reducible apply bl_alloc | with_reducible apply bl_drew | with_reducible apply bl_after | (with_reducible refine bl_call ?_ (by assumption))))⟩
          · have HE := Lib.hid (show chkD D = 80 by rw [HF.out]; simp at q3n; simp [q3n])
            clear lo
            go_enter Tryz.func32, Tryz.ntmps32; go_wp2_with (first | (go_at_call 44; with_reducible refine Calls.mono (r8Within_any _ _ _ _) ?_; rintro e w' ⟨rfl, rfl⟩) | ((go_at_call 58); (with_reducible refine Calls.mono (hK.out _ (by (repeat (first | with_reducible exact Below.refl _ _ | with_reducible apply bl_alloc | with_reducible apply bl_drew | with_reducible apply bl_after | (with_reducible refine bl_call ?_ (by assumption)))))) ?_); rintro e wn ⟨rfl, hbn⟩; first | ((with_reducible apply kp_in_step (hb := hbn)); (with_reducible assumption); rintro ⟨hk, hc, hf, hzc, hzf⟩) | ((with_reducible refine kp_in_first hbn ?_); rintro ⟨hk, hc, hf, hzc, hzf⟩)) | ((go_at_call 63); (with_reducible refine Calls.mono (hW.out _ (by (repeat (first | with_reducible exact Below.refl _ _ | with_reducible apply bl_alloc | with_reducible apply bl_drew | with_reducible apply bl_after | (with_reducible refine bl_call ?_ (by assumption)))))) ?_); rintro e wn ⟨rfl, hbn⟩; first | ((with_reducible apply kp_in_step (hb := hbn)); (with_reducible assumption); rintro ⟨hk, hc, hf, hzc, hzf⟩) | ((with_reducible refine kp_in_first hbn ?_); rintro ⟨hk, hc, hf, hzc, hzf⟩))); go_ret; exact ⟨ret_int HE.out.symm, by (repeat (first | with_reducible exact Below.refl _ _ | with_reducible apply bl_alloc | with_reducible apply bl_drew | with_reducible apply bl_after | (with_reducible refine bl_call ?_ (by assumption))))⟩
      · have lo' : ((D.offs.length : Int) != (D.cs.length : Int)) = true := by simp; omega
        have HE := Lib.hid (show chkD D = 80 by rw [HF.out]; simp [lo])
        clear lo
        go_enter Tryz.func32, Tryz.ntmps32; go_wp2_with (first | (go_at_call 44; with_reducible refine Calls.mono (r8Within_any _ _ _ _) ?_; rintro e w' ⟨rfl, rfl⟩) | ((go_at_call 58); (with_reducible refine Calls.mono (hK.out _ (by (repeat (first | with_reducible exact Below.refl _ _ | with_reducible apply bl_alloc | with_reducible apply bl_drew | with_reducible apply bl_after | (with_reducible refine bl_call ?_ (by assumption)))))) ?_); rintro e wn ⟨rfl, hbn⟩; first | ((with_reducible apply kp_in_step (hb := hbn)); (with_reducible assumption); rintro ⟨hk, hc, hf, hzc, hzf⟩) | ((with_reducible refine kp_in_first hbn ?_); rintro ⟨hk, hc, hf, hzc, hzf⟩)) | ((go_at_call 63); (with_reducible refine Calls.mono (hW.out _ (by (repeat (first | with_reducible exact Below.refl _ _ | with_reducible apply bl_alloc | with_reducible apply bl_drew | with_reducible apply bl_after | (with_reducible refine bl_call ?_ (by assumption)))))) ?_); rintro e wn ⟨rfl, hbn⟩; first | ((with_reducible apply kp_in_step (hb := hbn)); (with_reducible assumption); rintro ⟨hk, hc, hf, hzc, hzf⟩) | ((with_reducible refine kp_in_first hbn ?_); rintro ⟨hk, hc, hf, hzc, hzf⟩))); go_ret; exact ⟨ret_int HE.out.symm, by (repeat (first | with_reducible exact Below.refl _ _ | with_reducible apply bl_alloc | with_reducible apply bl_drew | with_reducible apply bl_after | (with_reducible refine bl_call ?_ (by assumption))))⟩
  · have HE := Lib.hid (show chkD D = 80 by rw [HF.out]; simp at q2n; simp [q2n])
    go_enter Tryz.func32, Tryz.ntmps32; go_wp2_with (first | (go_at_call 44; with_reducible refine Calls.mono (r8Within_any _ _ _ _) ?_; rintro e w' ⟨rfl, rfl⟩) | ((go_at_call 58); (with_reducible refine Calls.mono (hK.out _ (by (repeat (first | with_reducible exact Below.refl _ _ | with_reducible apply bl_alloc | with_reducible apply bl_drew | with_reducible apply bl_after | (with_reducible refine bl_call ?_ (by assumption)))))) ?_); rintro e wn ⟨rfl, hbn⟩; first | ((with_reducible apply kp_in_step (hb := hbn)); (with_reducible assumption); rintro ⟨hk, hc, hf, hzc, hzf⟩) | ((with_reducible refine kp_in_first hbn ?_); rintro ⟨hk, hc, hf, hzc, hzf⟩)) | ((go_at_call 63); (with_reducible refine Calls.mono (hW.out _ (by (repeat (first | with_reducible exact Below.refl _ _ | with_reducible apply bl_alloc | with_reducible apply bl_drew | with_reducible apply bl_after | (with_reducible refine bl_call ?_ (by assumption)))))) ?_); rintro e wn ⟨rfl, hbn⟩; first | ((with_reducible apply kp_in_step (hb := hbn)); (with_reducible assumption); rintro ⟨hk, hc, hf, hzc, hzf⟩) | ((with_reducible refine kp_in_first hbn ?_); rintro ⟨hk, hc, hf, hzc, hzf⟩))); go_ret; exact ⟨ret_int HE.out.symm, by (repeat (first | with_reducible exact Below.refl _ _ | with_reducible apply bl_alloc | with_reducible apply bl_drew | with_reducible apply bl_after | (with_reducible refine bl_call ?_ (by assumption))))⟩
end
end Go.Proofs.YthijegacjboclaaGreat
namespace Go.Proofs.YthijegacjboclaaGreat
open Go.RowKit
attribute [local go_sem] After.cell After.frozen

/-- In how many ways the first corners can lie. -/
def waysTo (l : List Int) : Nat → Int
  | 0 => 1
  | k + 1 => waysTo l k * ((2 * iat l k + 1) * (2 * iat l k + 1))
def manyW (l : List Int) : Bool := (List.range l.length).any fun k => decide (750 < waysTo l (k + 1))
def farB8 (D : Dsp) : Bool := if 40 < D.cs.length ∨ 40 < D.offs.length ∨ 40 < D.wks.length then true else (if dspB D = true then (manyW D.offs || decide (2 < D.wh.skew) || decide (4 < D.wh.slip) || decide (1 < D.wh.read) || decide (4 < D.wks.length) || decide (200 ≤ D.wh.ghi - D.wh.glo)) else false)
/-- What the laws examine. -/
def rdyB (D : Dsp) : Bool := !farB8 D && dspB D
theorem rdy_ok {D : Dsp} (h : rdyB D = true) : dspB D = true ∧ D.wh.ghi - D.wh.glo < 200 ∧ D.cs.length ≤ 40 ∧ D.offs.length ≤ 40 ∧ D.wks.length ≤ 40 := by
  simp only [rdyB, Bool.and_eq_true, Bool.not_eq_true'] at h
  obtain ⟨h1, h2⟩ := h
  refine ⟨h2, ?_⟩
  by_cases h3 : 40 < D.cs.length ∨ 40 < D.offs.length ∨ 40 < D.wks.length
  · rw [farB8, if_pos h3] at h1; cases h1
  · rw [farB8, if_neg h3, if_pos h2] at h1
    simp only [Bool.or_eq_false_iff, decide_eq_false_iff_not] at h1
    omega
theorem ways_step {l : List Int} {k : Nat} (h0 : 0 ≤ waysTo l k) (h1 : waysTo l k ≤ 750) (a0 : 0 ≤ iat l k) (a1 : iat l k ≤ 2) : 0 ≤ waysTo l (k + 1) ∧ waysTo l (k + 1) ≤ 18750 := by
  rw [waysTo]
  rcases (by omega : iat l k = 0 ∨ iat l k = 1 ∨ iat l k = 2) with h | h | h <;> rw [h] <;> omega
section
variable (A B C : Option Addr) (ca cb cc : Nat) (D : Dsp) (w : World) (ha : Pts w A D.cs) (hb : Ints w B D.offs) (hc : Wks w C D.wks)
include ha hb hc
set_option maxRecDepth 100000 in
set_option maxHeartbeats 4000000 in
theorem Far8_any :
    Calls Tryz.prog 9 #[(Value.agg #[.slice A D.cs.length ca, .slice B D.offs.length cb, (Value.int .i64 (D.unit)), (Value.int .i64 (D.wh.full)), (Value.int .i64 (D.wh.read)), (Value.int .i64 (D.wh.slip)), (Value.int .i64 (D.wh.skew)), (Value.int .i64 (D.wh.circle)), (Value.int .i64 (D.wh.glo)), (Value.int .i64 (D.wh.ghi)), (Value.int .i64 (D.wh.wrong)), .slice C D.wks.length cc])] w fun e w' => e = .returned (.bool (farB8 D)) ∧ Below w.heap.size w w' := by
  have e0 : Blk (w.alloc (.cells #[.slice A D.cs.length ca, .slice B D.offs.length cb, (Value.int .i64 (D.unit)), (Value.int .i64 (D.wh.full)), (Value.int .i64 (D.wh.read)), (Value.int .i64 (D.wh.slip)), (Value.int .i64 (D.wh.skew)), (Value.int .i64 (D.wh.circle)), (Value.int .i64 (D.wh.glo)), (Value.int .i64 (D.wh.ghi)), (Value.int .i64 (D.wh.wrong)), .slice C D.wks.length cc] 30)) w.heap.size 30 #[.slice A D.cs.length ca, .slice B D.offs.length cb, (Value.int .i64 (D.unit)), (Value.int .i64 (D.wh.full)), (Value.int .i64 (D.wh.read)), (Value.int .i64 (D.wh.slip)), (Value.int .i64 (D.wh.skew)), (Value.int .i64 (D.wh.circle)), (Value.int .i64 (D.wh.glo)), (Value.int .i64 (D.wh.ghi)), (Value.int .i64 (D.wh.wrong)), .slice C D.wks.length cc] := Blk.new _ _ _
  by_cases hbig : 40 < D.cs.length ∨ 40 < D.offs.length ∨ 40 < D.wks.length
  · have HF := Lib.hid (show farB8 D = true by unfold farB8; rw [if_pos hbig])
    (have la := e0.lt); (have ya0 := e0.cell 0); (have ya1 := e0.cell 1); (have ya2 := e0.cell 2); (have ya3 := e0.cell 3); (have ya4 := e0.cell 4); (have ya5 := e0.cell 5); (have ya6 := e0.cell 6); (have ya7 := e0.cell 7); (have ya8 := e0.cell 8); (have ya9 := e0.cell 9); (have ya10 := e0.cell 10); (have ya11 := e0.cell 11); simp only [List.getElem?_toArray, List.getElem?_cons_zero, List.getElem?_cons_succ] at ya0 ya1 ya2 ya3 ya4 ya5 ya6 ya7 ya8 ya9 ya10 ya11
    clear ha hb hc
    rcases hbig with h | h | h
    · have h' : (40 : Int) < (D.cs.length : Int) := by omega
      clear h
      go_enter Tryz.func9, Tryz.ntmps9
      go_wp2
      go_ret
      exact ⟨ret_bool HF.out.symm, by (repeat (first | with_reducible exact Below.refl _ _ | with_reducible apply bl_alloc | with_reducible apply bl_drew | with_reducible apply bl_after | (with_reducible refine bl_call ?_ (by assumption))))⟩
    · have h' : (40 : Int) < (D.offs.length : Int) := by omega
      clear h
      go_enter Tryz.func9, Tryz.ntmps9
      go_wp2
      all_goals go_ret
      all_goals exact ⟨ret_bool HF.out.symm, by (repeat (first | with_reducible exact Below.refl _ _ | with_reducible apply bl_alloc | with_reducible apply bl_drew | with_reducible apply bl_after | (with_reducible refine bl_call ?_ (by assumption))))⟩
    · have h' : (40 : Int) < (D.wks.length : Int) := by omega
      clear h
      go_enter Tryz.func9, Tryz.ntmps9
      go_wp2
      all_goals go_ret
      all_goals exact ⟨ret_bool HF.out.symm, by (repeat (first | with_reducible exact Below.refl _ _ | with_reducible apply bl_alloc | with_reducible apply bl_drew | with_reducible apply bl_after | (with_reducible refine bl_call ?_ (by assumption))))⟩
  · have l1 : ¬ (40 : Int) < (D.cs.length : Int) := by omega
    have l2 : ¬ (40 : Int) < (D.offs.length : Int) := by omega
    have l3 : ¬ (40 : Int) < (D.wks.length : Int) := by omega
    have hC := fun (W : World) (h : Below w.heap.size w W) => rCheck8_any A B C ca cb cc D W (ha.below h) (hb.below h) (hc.below h) (by omega) (by omega) (by omega)
    by_cases hD : dspB D = true
    · have e1 : chkD D = 0 := by rw [chkD, if_pos hD]
      rw [e1] at hC
      have HF := Lib.hid (show farB8 D = (manyW D.offs || decide (2 < D.wh.skew) || decide (4 < D.wh.slip) || decide (1 < D.wh.read) || decide (4 < D.wks.length) || decide (200 ≤ D.wh.ghi - D.wh.glo)) by unfold farB8; rw [if_neg hbig, if_pos hD])
      replace hC := Lib.hid hC
      have hok := Lib.hid (dsp_ok hD)
      have HL := Lib.hid (And.intro (show D.offs.length ≤ 40 by omega) hb)
      have e0' := Lib.hid e0
      (have la := e0.lt); (have ya0 := e0.cell 0); (have ya1 := e0.cell 1); (have ya2 := e0.cell 2); (have ya3 := e0.cell 3); (have ya4 := e0.cell 4); (have ya5 := e0.cell 5); (have ya6 := e0.cell 6); (have ya7 := e0.cell 7); (have ya8 := e0.cell 8); (have ya9 := e0.cell 9); (have ya10 := e0.cell 10); (have ya11 := e0.cell 11); simp only [List.getElem?_toArray, List.getElem?_cons_zero, List.getElem?_cons_succ] at ya0 ya1 ya2 ya3 ya4 ya5 ya6 ya7 ya8 ya9 ya10 ya11
      clear ha hb hc hbig hD e1
      go_enter Tryz.func9, Tryz.ntmps9
      go_upto_region 5 with ((go_at_call 32); (with_reducible refine Calls.mono (hC.out _ (by (repeat (first | with_reducible exact Below.refl _ _ | with_reducible apply bl_alloc | with_reducible apply bl_drew | with_reducible apply bl_after | (with_reducible refine bl_call ?_ (by assumption)))))) ?_); rintro e wn ⟨rfl, hbn⟩; first | ((with_reducible apply kp_in_step (hb := hbn)); (with_reducible assumption); rintro ⟨hk, hc, hf, hzc, hzf⟩) | ((with_reducible refine kp_in_first hbn ?_); rintro ⟨hk, hc, hf, hzc, hzf⟩))
      have hB1 : Below ((w.alloc (.cells #[.slice A D.cs.length ca, .slice B D.offs.length cb, (Value.int .i64 (D.unit)), (Value.int .i64 (D.wh.full)), (Value.int .i64 (D.wh.read)), (Value.int .i64 (D.wh.slip)), (Value.int .i64 (D.wh.skew)), (Value.int .i64 (D.wh.circle)), (Value.int .i64 (D.wh.glo)), (Value.int .i64 (D.wh.ghi)), (Value.int .i64 (D.wh.wrong)), .slice C D.wks.length cc] 30))).heap.size (w.alloc (.cells #[.slice A D.cs.length ca, .slice B D.offs.length cb, (Value.int .i64 (D.unit)), (Value.int .i64 (D.wh.full)), (Value.int .i64 (D.wh.read)), (Value.int .i64 (D.wh.slip)), (Value.int .i64 (D.wh.skew)), (Value.int .i64 (D.wh.circle)), (Value.int .i64 (D.wh.glo)), (Value.int .i64 (D.wh.ghi)), (Value.int .i64 (D.wh.wrong)), .slice C D.wks.length cc] 30)) wn := by (repeat (first | with_reducible exact Below.refl _ _ | with_reducible apply bl_alloc | with_reducible apply bl_drew | with_reducible apply bl_after | (with_reducible refine bl_call ?_ (by assumption))))
      have hbx : Below w.heap.size w wn := bl_call (by (repeat (first | with_reducible exact Below.refl _ _ | with_reducible apply bl_alloc | with_reducible apply bl_drew | with_reducible apply bl_after | (with_reducible refine bl_call ?_ (by assumption))))) hB1
      have HB := e0'.out.below hB1
      clear la ya0 ya1 ya2 ya3 ya4 ya5 ya6 ya7 ya8 ya9 ya10 ya11 e0 e0' hC hB1 hbn
      ((try clear hk hc hf hzc hzf); (try clear hk hc hf hzc hzf); (try clear hk hc hf hzc hzf); (try clear hk hc hf hzc hzf))
      go_wp2
      go_loopg [3, 4] D.offs.length (fun g n i wr => ∃ k : Nat, k ≤ D.offs.length ∧ g = D.offs.length - k ∧ n = (Value.int .i64 (waysTo D.offs k)) ∧ i = (Value.int .i64 ((k : Int))) ∧ 0 ≤ waysTo D.offs k ∧ waysTo D.offs k ≤ 750 ∧ (∀ j, j < k → waysTo D.offs (j + 1) ≤ 750) ∧ Blk wr w.heap.size 30 #[.slice A D.cs.length ca, .slice B D.offs.length cb, (Value.int .i64 (D.unit)), (Value.int .i64 (D.wh.full)), (Value.int .i64 (D.wh.read)), (Value.int .i64 (D.wh.slip)), (Value.int .i64 (D.wh.skew)), (Value.int .i64 (D.wh.circle)), (Value.int .i64 (D.wh.glo)), (Value.int .i64 (D.wh.ghi)), (Value.int .i64 (D.wh.wrong)), .slice C D.wks.length cc] ∧ Below w.heap.size w wr)
      case atStart => exact ⟨0, Nat.zero_le _, rfl, rfl, rfl, by simp [waysTo], by simp [waysTo], (fun j hj => by omega), HB, hbx⟩
      case round =>
        clear HB
        obtain ⟨k, kn, rfl, rfl, rfl, n0, n1, HP, HB, hbw⟩ := hrel
        replace HP := Lib.hid HP
        have HB' := Lib.hid HB
        (have la := HB.lt); (have ya0 := HB.cell 0); (have ya1 := HB.cell 1); (have ya2 := HB.cell 2); (have ya3 := HB.cell 3); (have ya4 := HB.cell 4); (have ya5 := HB.cell 5); (have ya6 := HB.cell 6); (have ya7 := HB.cell 7); (have ya8 := HB.cell 8); (have ya9 := HB.cell 9); (have ya10 := HB.cell 10); (have ya11 := HB.cell 11); simp only [List.getElem?_toArray, List.getElem?_cons_zero, List.getElem?_cons_succ] at ya0 ya1 ya2 ya3 ya4 ya5 ya6 ya7 ya8 ya9 ya10 ya11
        by_cases hlt : k < D.offs.length
        · obtain ⟨b, o, rfl, hp⟩ := HL.out.2.at_ hlt
          have hp' := hp.below hbw
          have k0 := hp'.xi hlt
          have lb := hp'.lt
          have i1 : (k : Int) < (D.offs.length : Int) := by omega
          have a01 : 0 ≤ iat D.offs k ∧ iat D.offs k ≤ 2 := by
            have := hok.out.off k hlt
            exact this
          have hst := ways_step n0 n1 a01.1 a01.2
          have ew : waysTo D.offs (k + 1) = waysTo D.offs k * ((2 * iat D.offs k + 1) * (2 * iat D.offs k + 1)) := rfl
          have EW := Lib.hid ew
          generalize hx : iat D.offs k = x at *
          generalize hn : waysTo D.offs k = n at *
          have hq : 0 ≤ (2 * x + 1) * (2 * x + 1) ∧ (2 * x + 1) * (2 * x + 1) ≤ 25 := by
            rcases (by omega : x = 0 ∨ x = 1 ∨ x = 2) with h | h | h <;> rw [h] <;> omega
          have z1 : IntKind.i64.wrap (2 * x) = 2 * x := IntWalk.i64_in _ (by omega)
          have z2 : IntKind.i64.wrap (2 * x + 1) = 2 * x + 1 := IntWalk.i64_in _ (by omega)
          have z3 : IntKind.i64.wrap ((2 * x + 1) * (2 * x + 1)) = (2 * x + 1) * (2 * x + 1) := IntWalk.i64_in _ (by omega)
          have z4 : IntKind.i64.wrap (n * ((2 * x + 1) * (2 * x + 1))) = n * ((2 * x + 1) * (2 * x + 1)) := IntWalk.i64_in _ (by rw [ew] at hst; omega)
          have y1 := wrap64_in (x := 2 * x) (by omega) (by omega)
          have y2 := wrap64_in (x := 2 * x + 1) (by omega) (by omega)
          have y3 := wrap64_in (x := (2 * x + 1) * (2 * x + 1)) (by omega) (by omega)
          have y4 := wrap64_in (x := n * ((2 * x + 1) * (2 * x + 1))) (by rw [ew] at hst; omega) (by rw [ew] at hst; omega)
          have HX := Lib.hid hst
          clear hp hp' HB hst ew hx hn hq
          go_upto_region 9 with fail
          refine wp_region_after (by kernel_rfl) (by kernel_rfl) ?_; (repeat (go_big_quiet_step ((fail)))); refine wpQuiet_nil ?_; rintro _ ⟨z, rfl⟩; (first | ((with_reducible apply kp_in_after (z := z)); (with_reducible assumption); rintro ⟨hk, hc, hf, hzc, hzf⟩) | ((with_reducible refine kp_in_after0 z ?_); rintro ⟨hk, hc, hf, hzc, hzf⟩))
          clear z1 z2 z3 z4 y1 y2 y3 y4
          by_cases hbg : 750 < n * ((2 * x + 1) * (2 * x + 1))
          · have HE := Lib.hid (show farB8 D = true by
              have : manyW D.offs = true := List.any_eq_true.2 ⟨k, List.mem_range.2 hlt, by rw [decide_eq_true_eq, EW.out]; exact hbg⟩
              rw [HF.out, this]
              simp)
            have hbg' : decide (750 < n * ((2 * x + 1) * (2 * x + 1))) = true := by simpa using hbg
            go_wp2
            go_ret
            exact ⟨ret_bool HE.out.symm, by (repeat (first | with_reducible exact Below.refl _ _ | with_reducible apply bl_alloc | with_reducible apply bl_drew | with_reducible apply bl_after | (with_reducible refine bl_call ?_ (by assumption))))⟩
          · have hbg' : decide (750 < n * ((2 * x + 1) * (2 * x + 1))) = false := by simpa using hbg
            go_wp2
            go_roundg (D.offs.length - (k + 1))
            case measure => omega
            case rel => exact ⟨k + 1, by omega, rfl, by rw [EW.out], by go_num, HX.out.1, by rw [EW.out]; omega, lt_succ8 (P := fun j => waysTo D.offs (j + 1) ≤ 750) HP.out (by rw [EW.out]; omega), HB'.out.below z.ok, by (repeat (first | with_reducible exact Below.refl _ _ | with_reducible apply bl_alloc | with_reducible apply bl_drew | with_reducible apply bl_after | (with_reducible refine bl_call ?_ (by assumption))))⟩
        · obtain rfl : k = D.offs.length := by omega
          have HM := Lib.hid (show manyW D.offs = false by
            unfold manyW
            rw [List.any_eq_false]
            intro j hj
            rw [decide_eq_true_eq]
            have := HP.out j (List.mem_range.1 hj)
            omega)
          have zg : IntKind.i64.wrap (D.wh.ghi - D.wh.glo) = D.wh.ghi - D.wh.glo := IntWalk.i64_in _ (by have := hok.out.wh; have := this.g0; have := hok.out.wh.g1; have := hok.out.wh.g2; omega)
          have zg' := wrap64_in (x := D.wh.ghi - D.wh.glo) (by have := hok.out.wh; have := this.g0; have := hok.out.wh.g1; have := hok.out.wh.g2; omega) (by have := hok.out.wh; have := this.g0; have := hok.out.wh.g1; have := hok.out.wh.g2; omega)
          clear HB
          go_wp2
          all_goals go_ret
          all_goals refine ⟨?_, by (repeat (first | with_reducible exact Below.refl _ _ | with_reducible apply bl_alloc | with_reducible apply bl_drew | with_reducible apply bl_after | (with_reducible refine bl_call ?_ (by assumption))))⟩
          all_goals (apply ret_bool; rw [HF.out, HM.out]; first | (rw [Bool.false_or, show decide ((4 : Int) < (D.wks.length : Int)) = decide (4 < D.wks.length) from decide_eq_decide.2 (by omega)]; done) | (simp [*]; done) | (simp [*]; omega) | (simp; omega) | trace_state)
    · have e1 : chkD D = 80 := by rw [chkD, if_neg hD]
      rw [e1] at hC
      have HF := Lib.hid (show farB8 D = false by unfold farB8; rw [if_neg hbig, if_neg hD])
      replace hC := Lib.hid hC
      (have la := e0.lt); (have ya0 := e0.cell 0); (have ya1 := e0.cell 1); (have ya2 := e0.cell 2); (have ya3 := e0.cell 3); (have ya4 := e0.cell 4); (have ya5 := e0.cell 5); (have ya6 := e0.cell 6); (have ya7 := e0.cell 7); (have ya8 := e0.cell 8); (have ya9 := e0.cell 9); (have ya10 := e0.cell 10); (have ya11 := e0.cell 11); simp only [List.getElem?_toArray, List.getElem?_cons_zero, List.getElem?_cons_succ] at ya0 ya1 ya2 ya3 ya4 ya5 ya6 ya7 ya8 ya9 ya10 ya11
      clear ha hb hc hbig hD e1
      go_enter Tryz.func9, Tryz.ntmps9
      go_wp2_with ((go_at_call 32); (with_reducible refine Calls.mono (hC.out _ (by (repeat (first | with_reducible exact Below.refl _ _ | with_reducible apply bl_alloc | with_reducible apply bl_drew | with_reducible apply bl_after | (with_reducible refine bl_call ?_ (by assumption)))))) ?_); rintro e wn ⟨rfl, hbn⟩; first | ((with_reducible apply kp_in_step (hb := hbn)); (with_reducible assumption); rintro ⟨hk, hc, hf, hzc, hzf⟩) | ((with_reducible refine kp_in_first hbn ?_); rintro ⟨hk, hc, hf, hzc, hzf⟩))
      go_ret
      exact ⟨ret_bool HF.out.symm, by (repeat (first | with_reducible exact Below.refl _ _ | with_reducible apply bl_alloc | with_reducible apply bl_drew | with_reducible apply bl_after | (with_reducible refine bl_call ?_ (by assumption))))⟩
set_option maxRecDepth 100000 in
set_option maxHeartbeats 2000000 in
theorem ready8_any :
    Calls Tryz.prog 16 #[(Value.agg #[.slice A D.cs.length ca, .slice B D.offs.length cb, (Value.int .i64 (D.unit)), (Value.int .i64 (D.wh.full)), (Value.int .i64 (D.wh.read)), (Value.int .i64 (D.wh.slip)), (Value.int .i64 (D.wh.skew)), (Value.int .i64 (D.wh.circle)), (Value.int .i64 (D.wh.glo)), (Value.int .i64 (D.wh.ghi)), (Value.int .i64 (D.wh.wrong)), .slice C D.wks.length cc])] w fun e w' => e = .returned (.bool (rdyB D)) ∧ Below w.heap.size w w' := by
  have e0 : Blk (w.alloc (.cells #[.slice A D.cs.length ca, .slice B D.offs.length cb, (Value.int .i64 (D.unit)), (Value.int .i64 (D.wh.full)), (Value.int .i64 (D.wh.read)), (Value.int .i64 (D.wh.slip)), (Value.int .i64 (D.wh.skew)), (Value.int .i64 (D.wh.circle)), (Value.int .i64 (D.wh.glo)), (Value.int .i64 (D.wh.ghi)), (Value.int .i64 (D.wh.wrong)), .slice C D.wks.length cc] 30)) w.heap.size 30 #[.slice A D.cs.length ca, .slice B D.offs.length cb, (Value.int .i64 (D.unit)), (Value.int .i64 (D.wh.full)), (Value.int .i64 (D.wh.read)), (Value.int .i64 (D.wh.slip)), (Value.int .i64 (D.wh.skew)), (Value.int .i64 (D.wh.circle)), (Value.int .i64 (D.wh.glo)), (Value.int .i64 (D.wh.ghi)), (Value.int .i64 (D.wh.wrong)), .slice C D.wks.length cc] := Blk.new _ _ _
  have hF := fun (W : World) (h : Below w.heap.size w W) => Far8_any A B C ca cb cc D W (ha.below h) (hb.below h) (hc.below h)
  (have la := e0.lt); (have ya0 := e0.cell 0); (have ya1 := e0.cell 1); (have ya2 := e0.cell 2); (have ya3 := e0.cell 3); (have ya4 := e0.cell 4); (have ya5 := e0.cell 5); (have ya6 := e0.cell 6); (have ya7 := e0.cell 7); (have ya8 := e0.cell 8); (have ya9 := e0.cell 9); (have ya10 := e0.cell 10); (have ya11 := e0.cell 11); simp only [List.getElem?_toArray, List.getElem?_cons_zero, List.getElem?_cons_succ] at ya0 ya1 ya2 ya3 ya4 ya5 ya6 ya7 ya8 ya9 ya10 ya11
  cases hfar : farB8 D
  · rw [hfar] at hF
    have hlen : D.cs.length ≤ 40 ∧ D.offs.length ≤ 40 ∧ D.wks.length ≤ 40 := by
      unfold farB8 at hfar
      split at hfar
      · cases hfar
      · omega
    have hC := fun (W : World) (h : Below w.heap.size w W) => rCheck8_any A B C ca cb cc D W (ha.below h) (hb.below h) (hc.below h) hlen.1 hlen.2.1 hlen.2.2
    cases hD : dspB D
    · have HE := Lib.hid (show rdyB D = false by rw [rdyB, hD]; simp)
      rw [chkD, hD] at hC
      simp only [Bool.false_eq_true, if_false] at hC
      replace hC := Lib.hid hC
      replace hF := Lib.hid hF
      clear ha hb hc
      go_enter Tryz.func16, Tryz.ntmps16
      go_wp2_with (first | ((go_at_call 9); (with_reducible refine Calls.mono (hF.out _ (by (repeat (first | with_reducible exact Below.refl _ _ | with_reducible apply bl_alloc | with_reducible apply bl_drew | with_reducible apply bl_after | (with_reducible refine bl_call ?_ (by assumption)))))) ?_); rintro e wn ⟨rfl, hbn⟩; first | ((with_reducible apply kp_in_step (hb := hbn)); (with_reducible assumption); rintro ⟨hk, hc, hf, hzc, hzf⟩) | ((with_reducible refine kp_in_first hbn ?_); rintro ⟨hk, hc, hf, hzc, hzf⟩)) | ((go_at_call 32); (with_reducible refine Calls.mono (hC.out _ (by (repeat (first | with_reducible exact Below.refl _ _ | with_reducible apply bl_alloc | with_reducible apply bl_drew | with_reducible apply bl_after | (with_reducible refine bl_call ?_ (by assumption)))))) ?_); rintro e wn ⟨rfl, hbn⟩; first | ((with_reducible apply kp_in_step (hb := hbn)); (with_reducible assumption); rintro ⟨hk, hc, hf, hzc, hzf⟩) | ((with_reducible refine kp_in_first hbn ?_); rintro ⟨hk, hc, hf, hzc, hzf⟩)))
      go_ret
      exact ⟨ret_bool HE.out.symm, by (repeat (first | with_reducible exact Below.refl _ _ | with_reducible apply bl_alloc | with_reducible apply bl_drew | with_reducible apply bl_after | (with_reducible refine bl_call ?_ (by assumption))))⟩
    · have HE := Lib.hid (show rdyB D = true by rw [rdyB, hD, hfar]; rfl)
      rw [chkD, if_pos hD] at hC
      replace hC := Lib.hid hC
      replace hF := Lib.hid hF
      clear ha hb hc
      go_enter Tryz.func16, Tryz.ntmps16
      go_wp2_with (first | ((go_at_call 9); (with_reducible refine Calls.mono (hF.out _ (by (repeat (first | with_reducible exact Below.refl _ _ | with_reducible apply bl_alloc | with_reducible apply bl_drew | with_reducible apply bl_after | (with_reducible refine bl_call ?_ (by assumption)))))) ?_); rintro e wn ⟨rfl, hbn⟩; first | ((with_reducible apply kp_in_step (hb := hbn)); (with_reducible assumption); rintro ⟨hk, hc, hf, hzc, hzf⟩) | ((with_reducible refine kp_in_first hbn ?_); rintro ⟨hk, hc, hf, hzc, hzf⟩)) | ((go_at_call 32); (with_reducible refine Calls.mono (hC.out _ (by (repeat (first | with_reducible exact Below.refl _ _ | with_reducible apply bl_alloc | with_reducible apply bl_drew | with_reducible apply bl_after | (with_reducible refine bl_call ?_ (by assumption)))))) ?_); rintro e wn ⟨rfl, hbn⟩; first | ((with_reducible apply kp_in_step (hb := hbn)); (with_reducible assumption); rintro ⟨hk, hc, hf, hzc, hzf⟩) | ((with_reducible refine kp_in_first hbn ?_); rintro ⟨hk, hc, hf, hzc, hzf⟩)))
      go_ret
      exact ⟨ret_bool HE.out.symm, by (repeat (first | with_reducible exact Below.refl _ _ | with_reducible apply bl_alloc | with_reducible apply bl_drew | with_reducible apply bl_after | (with_reducible refine bl_call ?_ (by assumption))))⟩
  · rw [hfar] at hF
    have HE := Lib.hid (show rdyB D = false by rw [rdyB, hfar]; rfl)
    replace hF := Lib.hid hF
    clear ha hb hc
    go_enter Tryz.func16, Tryz.ntmps16
    go_wp2_with ((go_at_call 9); (with_reducible refine Calls.mono (hF.out _ (by (repeat (first | with_reducible exact Below.refl _ _ | with_reducible apply bl_alloc | with_reducible apply bl_drew | with_reducible apply bl_after | (with_reducible refine bl_call ?_ (by assumption)))))) ?_); rintro e wn ⟨rfl, hbn⟩; first | ((with_reducible apply kp_in_step (hb := hbn)); (with_reducible assumption); rintro ⟨hk, hc, hf, hzc, hzf⟩) | ((with_reducible refine kp_in_first hbn ?_); rintro ⟨hk, hc, hf, hzc, hzf⟩))
    go_ret
    exact ⟨ret_bool HE.out.symm, by (repeat (first | with_reducible exact Below.refl _ _ | with_reducible apply bl_alloc | with_reducible apply bl_drew | with_reducible apply bl_after | (with_reducible refine bl_call ?_ (by assumption))))⟩
end
end Go.Proofs.YthijegacjboclaaGreat
