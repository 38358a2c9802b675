/- The reference's functions IsDeed, Agree and Agrees of sheets. -/
import Derived.Test.YtegdnbceiopklaaAg4
import Derived.Test.YtegdnbceiopklaaRe4
import Derived.Test.YtegdnbceiopklaaTwF
import Derived.Test.YtegdnbceiopklaaRefCheck
namespace Go.Proofs.Ytegdnbceiopklaa
open Go.RowKit
attribute [local go_sem] After.cell After.frozen

theorem sumOne_bd {l : List Pt} (h : ∀ i, i < l.length → isPt (pat l i) = true) : ∀ k, k ≤ l.length → -(80000 * (k : Int)) ≤ sumTo oneF l k ∧ sumTo oneF l k ≤ 80000 * (k : Int)
  | 0, _ => by simp [sumTo]
  | k + 1, hk => by
    have ih := sumOne_bd h k (by omega)
    have h3 := cross_bd1 (h k (by omega)) (h (nxt l k) (nxt_lt k (by omega)))
    simp only [sumTo, oneF, Int.one_mul] at *
    omega
theorem tw_bd2 {l : List Pt} (h : Ok l) : -10000000 ≤ tw l ∧ tw l ≤ 10000000 := by
  have h1 := sumOne_bd h.2.1 l.length (Nat.le_refl _)
  have h2 := h.1.2
  have h3 : tw l = sumTo oneF l l.length := rfl
  rw [h3]
  omega
theorem abT_bd2 {l : List Pt} (h : Ok l) : 0 ≤ abT l ∧ abT l ≤ 10000000 := by have := tw_bd2 h; unfold abT; omega
/-- The sheet with both spans one factor. -/
def oneS (S : Sht) (f : Pt) : Sht := ⟨f.1, f.1, f.2, f.2, S.cs, S.wrong⟩
theorem one_prs (S : Sht) (f : Pt) : prs (oneS S f) = [f] := by
  have h1 : nX (oneS S f) = 1 := by unfold nX oneS; simp only; omega
  have h2 : nY (oneS S f) = 1 := by unfold nY oneS; simp only; omega
  unfold prs
  rw [h1, h2]
  simp [prAt, h2, oneS]
theorem one_wrg (S : Sht) (f : Pt) : wrg (oneS S f) f = wrg S f := rfl
theorem one_trs {S : Sht} {f : Pt} (h : truB S f = true) : trs (oneS S f) = [f] := by
  have h1 : wrg S f ≤ S.wrong := by
    simp only [truB, Bool.and_eq_true, decide_eq_true_eq] at h
    exact h.2
  unfold trs
  rw [one_prs, List.filter_cons, one_wrg, decide_eq_true (show wrg S f ≤ (oneS S f).wrong from h1)]
  rfl
theorem one_sht {S : Sht} {f : Pt} (h0 : shtB S = true) (h : truB S f = true) : shtB (oneS S f) = true := by
  have hS := sht_ok h0
  have hx := hS.x0; have hx2 := hS.x2; have hy := hS.y0; have hy2 := hS.y2
  simp only [shtB, Bool.and_eq_true] at h0
  simp only [truB, within, Bool.and_eq_true, decide_eq_true_eq] at h
  have hx3 : spnB f.1 f.1 = true := by simp only [spnB, within, Bool.and_eq_true, decide_eq_true_eq]; omega
  have hy3 : spnB f.2 f.2 = true := by simp only [spnB, within, Bool.and_eq_true, decide_eq_true_eq]; omega
  simp only [shtB, oneS, Bool.and_eq_true]
  exact ⟨⟨⟨⟨hx3, hy3⟩, h0.1.1.2⟩, h0.1.2⟩, h0.2⟩
theorem knw_one (p : Pt → Bool) (f : Pt) : knw p [f] ≠ 3 := by
  unfold knw cnt
  rw [List.filter_cons]
  cases p f <;> simp
theorem low_le {q : Int × Int} (h : FrOk q) : low q * q.2 ≤ q.1 ∧ q.1 ≤ hig q * q.2 ∧ 0 ≤ low q ∧ low q ≤ hig q ∧ hig q - low q ≤ 1 := by
  obtain ⟨⟨h0, h1⟩, h2, h3⟩ := h
  have e1 : low q = q.1 / q.2 := Int.tdiv_eq_ediv_of_nonneg h0
  have e2 : hig q = (q.1 + q.2 - 1) / q.2 := Int.tdiv_eq_ediv_of_nonneg (by omega)
  have d1 := Int.mul_ediv_add_emod q.1 q.2
  have d2 := Int.mul_ediv_add_emod (q.1 + q.2 - 1) q.2
  have m1 := Int.emod_nonneg q.1 (b := q.2) (by omega)
  have m2 := Int.emod_lt_of_pos q.1 h2
  have m3 := Int.emod_nonneg (q.1 + q.2 - 1) (b := q.2) (by omega)
  have m4 := Int.emod_lt_of_pos (q.1 + q.2 - 1) h2
  have n1 : 0 ≤ q.1 / q.2 := Int.ediv_nonneg h0 (by omega)
  rw [e1, e2]
  generalize q.1 / q.2 = x at *
  generalize (q.1 + q.2 - 1) / q.2 = y at *
  generalize q.1 % q.2 = r at *
  generalize (q.1 + q.2 - 1) % q.2 = s at *
  rw [Int.mul_comm] at d1 d2
  refine ⟨by omega, by omega, n1, ?_, ?_⟩
  · refine Int.not_lt.1 fun hlt => ?_
    have := Int.mul_le_mul_of_nonneg_right (show y + 1 ≤ x from hlt) (show 0 ≤ q.2 by omega)
    rw [Int.add_mul, Int.one_mul] at this
    omega
  · refine Int.not_lt.1 fun hlt => ?_
    have := Int.mul_le_mul_of_nonneg_right (show x + 2 ≤ y by omega) (show 0 ≤ q.2 by omega)
    rw [Int.add_mul] at this
    omega
theorem hig_sane {q : Int × Int} (h : FrOk q) (hq : q.1 ≤ 10000000000000) (hd : 810000 ≤ q.2) : hig q < 1073741824 := by
  have h1 := low_le h
  refine Int.not_le.1 fun hlt => ?_
  have := Int.mul_le_mul_of_nonneg_left hd (show 0 ≤ low q from h1.2.2.1)
  omega
def saneB (lo hi : Int) : Bool := decide (0 ≤ lo) && decide (lo ≤ hi) && decide (hi < 1073741824)
set_option maxHeartbeats 1000000 in
theorem sane4 (lo hi : Int) (h : saneB lo hi = true) (w : World) :
    Calls Try.prog 25 #[.agg #[(Value.int .i64 (lo)), (Value.int .i64 (hi))]] w fun e w' => e = .returned (.bool true) ∧ Below w.heap.size w w' := by
  simp only [saneB, Bool.and_eq_true, decide_eq_true_eq] at h
  obtain ⟨⟨h1, h2⟩, h3⟩ := h
  go_enter Try.func25, Try.ntmps25
  go_wp2
  go_ret
  exact ⟨rfl, by (repeat (first | with_reducible exact Below.refl _ _ | with_reducible apply bl_alloc | with_reducible apply bl_drew | with_reducible apply bl_after | (with_reducible refine bl_call ?_ (by assumption))))⟩
theorem labs4 (n : Int) (hn : -4000000000000000000 ≤ n ∧ n ≤ 4000000000000000000) (w : World) :
    Calls Try.prog 26 #[(Value.int .i64 (n))] w fun e w' => e = .returned (Value.int .i64 (max n (-n))) ∧ w = w' := by
  have z := wrap64_in (x := -n) (by omega) (by omega)
  go_enter Try.func26, Try.ntmps26
  go_wp2
  go_ret
  exact ⟨rfl, rfl⟩
end Go.Proofs.Ytegdnbceiopklaa
namespace Go.Proofs.Ytegdnbceiopklaa
open Go.RowKit Go.Shelf
attribute [local go_sem] After.cell After.frozen

set_option maxHeartbeats 1000000 in
theorem rIsDeed4 (deed off : Int) (w : World) :
    Calls Try.prog 21 #[(Value.int .i64 (deed)), (Value.int .i64 (off))] w fun e w' => e = .returned (.bool (deedB deed off)) ∧ w = w' := by
  have HD := Lib.hid (show deedB deed off = (within deed 0 999999 && within off 0 999999) from rfl)
  have k1 := fun (W : World) => r4Within_any deed 0 999999 W
  have k2 := fun (W : World) => r4Within_any off 0 999999 W
  cases h1 : within deed 0 999999 <;> cases h2 : within off 0 999999 <;> rw [h1] at k1 <;> rw [h2] at k2 <;> rw [h1, h2] at HD <;> replace k1 := Lib.hid k1 <;> replace k2 := Lib.hid k2
  all_goals
    clear h1 h2
    go_enter Try.func21, Try.ntmps21
    go_wp2_with (first | (go_at_call 58; with_reducible refine Calls.mono (k1.out _) ?_; rintro e w' ⟨rfl, rfl⟩) | (go_at_call 58; with_reducible refine Calls.mono (k2.out _) ?_; rintro e w' ⟨rfl, rfl⟩))
    go_ret
    exact ⟨congrArg (fun n : Bool => Ending.returned (.bool n)) HD.out.symm, rfl⟩
set_option maxHeartbeats 1000000 in
theorem rAgree4 (t n deed off : Int) (hn : n = max t (-t)) (ht : -800000000000 ≤ t ∧ t ≤ 800000000000) (f : Pt) (h : AgBd n deed off f) (w : World) :
    Calls Try.prog 56 #[(Value.int .i64 (t)), (Value.int .i64 (deed)), (Value.int .i64 (off)), (Value.agg #[.int .i64 f.1, .int .i64 f.2])] w fun e w' => e = .returned (.bool (agB n deed off f)) ∧ Below w.heap.size w w' := by
  have h1 := h.u; have h2 := h.n; have h3 := h.d; have h4 := h.o
  have z1 := wrap64_in (x := f.1 * f.2) (by omega) (by omega)
  have z2 := wrap64_in (x := n * 1000000) (by omega) (by omega)
  have z3 := wrap64_in (x := deed * (f.1 * f.2)) (by omega) (by omega)
  have z4 := wrap64_in (x := off * (f.1 * f.2)) (by omega) (by omega)
  have z5 := wrap64_in (x := n * 1000000 - deed * (f.1 * f.2)) (by omega) (by omega)
  have e1 : agB n deed off f = decide (max (n * 1000000 - deed * (f.1 * f.2)) (-(n * 1000000 - deed * (f.1 * f.2))) ≤ off * (f.1 * f.2)) := rfl
  have k1 := Lib.hid fun (W : World) => rAbs_any t (by omega) W
  have k2 := Lib.hid fun (W : World) => rAbs_any (n * 1000000 - deed * (f.1 * f.2)) (by omega) W
  have HE := Lib.hid e1
  rw [← hn] at k1
  clear h h1 h2 h3 h4 e1 hn ht
  go_enter Try.func56, Try.ntmps56
  go_wp2_with (first | (go_at_call 94; with_reducible refine Calls.mono (k1.out _) ?_; rintro e w' ⟨rfl, rfl⟩) | (go_at_call 94; with_reducible refine Calls.mono (k2.out _) ?_; rintro e w' ⟨rfl, rfl⟩))
  go_ret
  exact ⟨congrArg (fun n : Bool => Ending.returned (.bool n)) HE.out.symm, by (repeat (first | with_reducible exact Below.refl _ _ | with_reducible apply bl_alloc | with_reducible apply bl_drew | with_reducible apply bl_after | (with_reducible refine bl_call ?_ (by assumption))))⟩
theorem agE_eq (S : Sht) (l : List Pt) (deed off : Int) : knE S (chk l) (deedB deed off) = agE S l deed off := by
  unfold knE agE msE
  by_cases h : shtB S = true
  · simp only [h, if_true]
  · simp only [h]
    simp
set_option maxRecDepth 100000 in
set_option maxHeartbeats 4000000 in
theorem rAgrees4 (A B : Option Addr) (ca cb : Nat) (S : Sht) (l : List Pt) (deed off : Int) (w : World) (ha : Cts w A S.cs) (hb : Pts w B l) (hlb : l.length ≤ 1000000) :
    Calls Try.prog 17 #[(Value.agg #[(Value.int .i64 (S.xlo)), (Value.int .i64 (S.xhi)), (Value.int .i64 (S.ylo)), (Value.int .i64 (S.yhi)), .slice A S.cs.length ca, (Value.int .i64 (S.wrong))]), .slice B l.length cb, (Value.int .i64 (deed)), (Value.int .i64 (off))] w fun e w' => e = .returned (.tuple #[(Value.int .i64 (agV S l deed off)), (Value.int .i64 (agE S l deed off))]) ∧ Below w.heap.size w w' := by
  have hok := fun (W : World) (h : Below w.heap.size w W) => rKn_ok A ca S (chk l) (deedB deed off) W (ha.below h)
  have hno := fun (W : World) (h : Below w.heap.size w W) => rKn_no A ca S (chk l) (deedB deed off) W (ha.below h)
  rw [agE_eq] at hok hno
  have hCk := Lib.hid fun (W : World) (h : Below w.heap.size w W) => rCheck_any B cb l W (hb.below h) hlb
  have hDd := Lib.hid fun (W : World) => rIsDeed4 deed off W
  have c1 : Blk (w.alloc (.cells #[(Value.int .i64 (S.xlo)), (Value.int .i64 (S.xhi)), (Value.int .i64 (S.ylo)), (Value.int .i64 (S.yhi)), .slice A S.cs.length ca, (Value.int .i64 (S.wrong))] 26)) w.heap.size 26 #[(Value.int .i64 (S.xlo)), (Value.int .i64 (S.xhi)), (Value.int .i64 (S.ylo)), (Value.int .i64 (S.yhi)), .slice A S.cs.length ca, (Value.int .i64 (S.wrong))] := Blk.new _ _ _
  have hb0 : Below w.heap.size w (w.alloc (.cells #[(Value.int .i64 (S.xlo)), (Value.int .i64 (S.xhi)), (Value.int .i64 (S.ylo)), (Value.int .i64 (S.yhi)), .slice A S.cs.length ca, (Value.int .i64 (S.wrong))] 26)) := by (repeat (first | with_reducible exact Below.refl _ _ | with_reducible apply bl_alloc | with_reducible apply bl_drew | with_reducible apply bl_after | (with_reducible refine bl_call ?_ (by assumption))))
  (have la := c1.lt); (have ya0 := c1.cell 0); (have ya1 := c1.cell 1); (have ya2 := c1.cell 2); (have ya3 := c1.cell 3); (have ya4 := c1.cell 4); (have ya5 := c1.cell 5); simp only [List.getElem?_toArray, List.getElem?_cons_zero, List.getElem?_cons_succ] at ya0 ya1 ya2 ya3 ya4 ya5
  by_cases h : agE S l deed off = 0
  · have HK := Lib.hid fun W h1 => hok W h1 h
    have hms : msE S l = 0 := by
      by_cases hm : msE S l = 0
      · exact hm
      · rw [agE, if_neg hm] at h; exact absurd h hm
    have hop : opS S (deedB deed off) = 0 := by rwa [agE, if_pos hms] at h
    have hdd := (opS_zero hop).2.1
    have hS := sht_ok (opS_zero hop).1
    have hok2 : Ok l := chk_zero (by rwa [msE, if_pos (opS_zero hop).1] at hms)
    have HQ := Lib.hid fun (f : Pt) (hf : f ∈ trs S) => agbd (deed := deed) (off := off) (abT_bd hok2) hdd (trs_ok hS hf)
    have HV := Lib.hid (show Value.tuple #[(Value.int .i64 (agV S l deed off)), (Value.int .i64 (agE S l deed off))] = .tuple #[(Value.int .i64 (knwN ((cnt (agB (abT l) deed off) (trs S) : Nat) : Int) ((trs S).length : Int))), (Value.int .i64 (0))] by rw [agV, if_pos h, h, knw_eq])
    have hlen := trs_bd hS
    have htw := tw_bd hok2
    obtain ⟨b, o, rfl, hp⟩ := hb.ok hok2
    clear h hok hno hms hop hdd
    have hkn := Lib.hid rKnownN
    go_enter Try.func17, Try.ntmps17
    go_upto_region 1 with fail; refine wp_region_CN (fun w' => ∃ z : After (w.alloc (.cells #[(Value.int .i64 (S.xlo)), (Value.int .i64 (S.xhi)), (Value.int .i64 (S.ylo)), (Value.int .i64 (S.yhi)), .slice A S.cs.length ca, (Value.int .i64 (S.wrong))] 26)), w' = z.val) (by kernel_rfl) ?_; change wpAnyC _ _ _ _ _ _ _ (World.drew (w.alloc (.cells #[(Value.int .i64 (S.xlo)), (Value.int .i64 (S.xhi)), (Value.int .i64 (S.ylo)), (Value.int .i64 (S.yhi)), .slice A S.cs.length ca, (Value.int .i64 (S.wrong))] 26))); (have hd0 : Below ((w.alloc (.cells #[(Value.int .i64 (S.xlo)), (Value.int .i64 (S.xhi)), (Value.int .i64 (S.ylo)), (Value.int .i64 (S.yhi)), .slice A S.cs.length ca, (Value.int .i64 (S.wrong))] 26))).heap.size (w.alloc (.cells #[(Value.int .i64 (S.xlo)), (Value.int .i64 (S.xhi)), (Value.int .i64 (S.ylo)), (Value.int .i64 (S.yhi)), .slice A S.cs.length ca, (Value.int .i64 (S.wrong))] 26)) ((w.alloc (.cells #[(Value.int .i64 (S.xlo)), (Value.int .i64 (S.xhi)), (Value.int .i64 (S.ylo)), (Value.int .i64 (S.yhi)), .slice A S.cs.length ca, (Value.int .i64 (S.wrong))] 26))).drew := bl_drew (Below.refl _ _)); refine wpAnyC_take (i := 0) (v := ?v0u) rfl (by kernel_rfl) (by kernel_rfl) (by kernel_rfl) ?q0u rfl ?y0u ?r0u; (case q0u => exact fun _ _ _ h => h); (case y0u => ((rintro _ ⟨z, rfl⟩); (go_simp); (try with_reducible rfl))); simp only [Act.put, List.getElem_toArray, List.getElem_cons_succ, List.getElem_cons_zero, List.setIfInBounds_toArray, List.set_cons_succ, List.set_cons_zero]; refine wpAnyC_take (i := 1) (v := ?v1u) rfl (by kernel_rfl) (by kernel_rfl) (by kernel_rfl) ?q1u rfl ?y1u ?r1u; (case q1u => exact fun _ _ _ h => h); (case y1u => ((rintro _ ⟨z, rfl⟩); (go_simp); (try with_reducible rfl))); simp only [Act.put, List.getElem_toArray, List.getElem_cons_succ, List.getElem_cons_zero, List.setIfInBounds_toArray, List.set_cons_succ, List.set_cons_zero]; refine wpAnyC_take (i := 3) (v := ?v3u) rfl (by kernel_rfl) (by kernel_rfl) (by kernel_rfl) ?q3u rfl ?y3u ?r3u; (case q3u => exact fun _ _ _ h => h); (case y3u => ((rintro _ ⟨z, rfl⟩); (go_simp); (try with_reducible rfl))); simp only [Act.put, List.getElem_toArray, List.getElem_cons_succ, List.getElem_cons_zero, List.setIfInBounds_toArray, List.set_cons_succ, List.set_cons_zero]; refine wpAnyC_take (i := 4) (v := ?v4u) rfl (by kernel_rfl) (by kernel_rfl) (by kernel_rfl) ?q4u rfl ?y4u ?r4u; (case q4u => exact fun _ _ _ h => h); (case y4u => ((rintro _ ⟨z, rfl⟩); (go_simp); (try with_reducible rfl))); simp only [Act.put, List.getElem_toArray, List.getElem_cons_succ, List.getElem_cons_zero, List.setIfInBounds_toArray, List.set_cons_succ, List.set_cons_zero]; refine wpAnyC_one (i := 2) (by kernel_rfl) rfl ⟨⟨_, hd0⟩, rfl⟩ rfl (fun K hK => ?_); go_simp; go_at_call 48; (with_reducible refine Calls.mono (hCk.out _ (bl_drew hb0)) ?_); rintro e1 w1 ⟨rfl, hb1⟩; refine hK _ _ ?_; clear hK K; (have hd1 := hd0.trans (hb1.mono hd0.size)); (refine wpAnyC_one (i := 5) (by kernel_rfl) rfl ⟨⟨_, hd1⟩, rfl⟩ rfl (fun K hK => ?_); go_simp; go_at_call 21; (with_reducible refine Calls.mono (hDd.out _) ?_); rintro e w' ⟨rfl, rfl⟩; refine hK _ _ ?_; clear hK K); refine wpAnyC_one (i := 6) (by kernel_rfl) rfl ⟨⟨_, hd1⟩, rfl⟩ rfl (fun K hK => ?_); go_simp; go_at_call 55; (with_reducible refine Calls.mono (HK.out _ (bl_call (bl_drew hb0) hb1)) ?_)
    rintro e2 w2 ⟨⟨A1, ca1, rfl, hI⟩, hb2⟩
    refine hK _ _ ?_; clear hK K; (have hd2 := hd1.trans (hb2.mono hd1.size)); refine wpAnyC_take (i := 7) (v := ?v7u) rfl (by kernel_rfl) (by kernel_rfl) (by kernel_rfl) ?q7u rfl ?y7u ?r7u; (case q7u => exact fun _ _ _ h => h); (case y7u => ((rintro _ ⟨z, rfl⟩); (go_simp); (try with_reducible rfl))); simp only [Act.put, List.getElem_toArray, List.getElem_cons_succ, List.getElem_cons_zero, List.setIfInBounds_toArray, List.set_cons_succ, List.set_cons_zero]; refine wpAnyC_take (i := 8) (v := ?v8u) rfl (by kernel_rfl) (by kernel_rfl) (by kernel_rfl) ?q8u rfl ?y8u ?r8u; (case q8u => exact fun _ _ _ h => h); (case y8u => ((rintro _ ⟨z, rfl⟩); (go_simp); (try with_reducible rfl))); simp only [Act.put, List.getElem_toArray, List.getElem_cons_succ, List.getElem_cons_zero, List.setIfInBounds_toArray, List.set_cons_succ, List.set_cons_zero]; refine wpAnyC_take (i := 9) (v := ?v9u) rfl (by kernel_rfl) (by kernel_rfl) (by kernel_rfl) ?q9u rfl ?y9u ?r9u; (case q9u => exact fun _ _ _ h => h); (case y9u => ((rintro _ ⟨z, rfl⟩); (go_simp); (try with_reducible rfl))); simp only [Act.put, List.getElem_toArray, List.getElem_cons_succ, List.getElem_cons_zero, List.setIfInBounds_toArray, List.set_cons_succ, List.set_cons_zero]; refine wpAnyC_take (i := 10) (v := ?v10u) rfl (by kernel_rfl) (by kernel_rfl) (by kernel_rfl) ?q10u rfl ?y10u ?r10u; (case q10u => exact fun _ _ _ h => h); (case y10u => ((rintro _ ⟨z, rfl⟩); (go_simp); (try with_reducible rfl))); simp only [Act.put, List.getElem_toArray, List.getElem_cons_succ, List.getElem_cons_zero, List.setIfInBounds_toArray, List.set_cons_succ, List.set_cons_zero]; refine wpAnyC_take (i := 11) (v := ?v11u) rfl (by kernel_rfl) (by kernel_rfl) (by kernel_rfl) ?q11u rfl ?y11u ?r11u; (case q11u => exact fun _ _ _ h => h); (case y11u => ((rintro _ ⟨z, rfl⟩); (go_simp); (try with_reducible rfl))); simp only [Act.put, List.getElem_toArray, List.getElem_cons_succ, List.getElem_cons_zero, List.setIfInBounds_toArray, List.set_cons_succ, List.set_cons_zero]; refine wpAnyC_doneN (by kernel_rfl) ⟨⟨_, hd2⟩, rfl⟩ ?_ _; (have hbW := bl_call (bl_call (bl_drew hb0) hb1) hb2)
    clear la ya0 ya1 ya2 ya3 ya4 ya5 hb0 hd0 hd1 hd2 hb1 hb2 HK ha c1
    have hX := hp.below hbW
    go_wp2
    go_loopw [12, 13] (fun n i wr => ∃ k : Nat, k ≤ (trs S).length ∧ i = (Value.int .i64 ((k : Int))) ∧ n = (Value.int .i64 (((cntTo (agB (abT l) deed off) (trs S) k : Nat) : Int))) ∧ Below w2.heap.size w2 wr) (fun _ i _ => (trs S).length - (intOf i).toNat)
    case atStart => exact ⟨0, Nat.zero_le _, rfl, rfl, Below.refl _ _⟩
    case round =>
      obtain ⟨k, kn, rfl, rfl, hbr⟩ := hrel
      have hbR := bl_call hbW hbr
      by_cases hlt : k < (trs S).length
      · obtain ⟨bc, oc, rfl, pc⟩ := (hI.below hbr).at_ hlt
        obtain ⟨lc, x1, x2⟩ := prs_cells pc hlt
        have hx := pat_get hlt
        have hsu := cntTo_succ (p := agB (abT l) deed off) hx
        have hcl := cntTo_le (agB (abT l) deed off) (trs S) k
        have hTw := Lib.hid fun (z : After wr) => TwiceOf_any b o cb l z.val ((hX.below hbr).below z.ok) hok2.1.1 hok2.1.2 hok2.2.1
        have hAg := fun (W : World) => rAgree4 (tw l) (abT l) deed off rfl htw (pat (trs S) k) (HQ.out _ (List.mem_of_getElem? hx)) W
        clear pc hx
        cases h2 : agB (abT l) deed off (pat (trs S) k) <;> rw [h2] at hsu hAg <;> simp only [Bool.false_eq_true, if_false, if_true, Nat.add_zero] at hsu <;> replace hsu := Lib.hid hsu <;> replace hAg := Lib.hid hAg
        all_goals
          clear h2
          go_wp2
          refine wp_region_after (by kernel_rfl) (by kernel_rfl) ?_; (repeat (go_big_quiet_step (((first | (go_at_call 27; with_reducible exact calls_after (hTw.out _)) | (go_at_call 56; with_reducible exact calls_after (hAg.out _))))))); refine wpQuiet_nil ?_; rintro _ ⟨z, rfl⟩; (first | ((with_reducible apply kp_in_after (z := z)); (with_reducible assumption); rintro ⟨hk, hc, hf, hzc, hzf⟩) | ((with_reducible refine kp_in_after0 z ?_); rintro ⟨hk, hc, hf, hzc, hzf⟩))
          go_wp2
          go_roundw
        all_goals first | (case rel => exact ⟨k + 1, by omega, by go_num, by rw [hsu.out]; first | done | rfl, bl_after z hbr⟩) | (case measure => (simp [intOf]; omega))
      · obtain rfl : k = (trs S).length := by omega
        rw [cntTo_all]
        go_wp2_with (go_at_call 57; with_reducible refine Calls.mono (hkn.out _ _ _) ?_; rintro e w' ⟨rfl, rfl⟩)
        go_ret2
        exact ⟨congrArg Ending.returned HV.out.symm, hbR⟩
  · have HK := Lib.hid fun W h1 => hno W h1 h
    rw [agV, if_neg h]
    have h1 : (agE S l deed off != 0) = true := by rw [bne_iff_ne]; exact h
    clear h hok hno
    go_enter Try.func17, Try.ntmps17
    go_upto_region 1 with fail; refine wp_region_CN (fun w' => ∃ z : After (w.alloc (.cells #[(Value.int .i64 (S.xlo)), (Value.int .i64 (S.xhi)), (Value.int .i64 (S.ylo)), (Value.int .i64 (S.yhi)), .slice A S.cs.length ca, (Value.int .i64 (S.wrong))] 26)), w' = z.val) (by kernel_rfl) ?_; change wpAnyC _ _ _ _ _ _ _ (World.drew (w.alloc (.cells #[(Value.int .i64 (S.xlo)), (Value.int .i64 (S.xhi)), (Value.int .i64 (S.ylo)), (Value.int .i64 (S.yhi)), .slice A S.cs.length ca, (Value.int .i64 (S.wrong))] 26))); (have hd0 : Below ((w.alloc (.cells #[(Value.int .i64 (S.xlo)), (Value.int .i64 (S.xhi)), (Value.int .i64 (S.ylo)), (Value.int .i64 (S.yhi)), .slice A S.cs.length ca, (Value.int .i64 (S.wrong))] 26))).heap.size (w.alloc (.cells #[(Value.int .i64 (S.xlo)), (Value.int .i64 (S.xhi)), (Value.int .i64 (S.ylo)), (Value.int .i64 (S.yhi)), .slice A S.cs.length ca, (Value.int .i64 (S.wrong))] 26)) ((w.alloc (.cells #[(Value.int .i64 (S.xlo)), (Value.int .i64 (S.xhi)), (Value.int .i64 (S.ylo)), (Value.int .i64 (S.yhi)), .slice A S.cs.length ca, (Value.int .i64 (S.wrong))] 26))).drew := bl_drew (Below.refl _ _)); refine wpAnyC_take (i := 0) (v := ?v0v) rfl (by kernel_rfl) (by kernel_rfl) (by kernel_rfl) ?q0v rfl ?y0v ?r0v; (case q0v => exact fun _ _ _ h => h); (case y0v => ((rintro _ ⟨z, rfl⟩); (go_simp); (try with_reducible rfl))); simp only [Act.put, List.getElem_toArray, List.getElem_cons_succ, List.getElem_cons_zero, List.setIfInBounds_toArray, List.set_cons_succ, List.set_cons_zero]; refine wpAnyC_take (i := 1) (v := ?v1v) rfl (by kernel_rfl) (by kernel_rfl) (by kernel_rfl) ?q1v rfl ?y1v ?r1v; (case q1v => exact fun _ _ _ h => h); (case y1v => ((rintro _ ⟨z, rfl⟩); (go_simp); (try with_reducible rfl))); simp only [Act.put, List.getElem_toArray, List.getElem_cons_succ, List.getElem_cons_zero, List.setIfInBounds_toArray, List.set_cons_succ, List.set_cons_zero]; refine wpAnyC_take (i := 3) (v := ?v3v) rfl (by kernel_rfl) (by kernel_rfl) (by kernel_rfl) ?q3v rfl ?y3v ?r3v; (case q3v => exact fun _ _ _ h => h); (case y3v => ((rintro _ ⟨z, rfl⟩); (go_simp); (try with_reducible rfl))); simp only [Act.put, List.getElem_toArray, List.getElem_cons_succ, List.getElem_cons_zero, List.setIfInBounds_toArray, List.set_cons_succ, List.set_cons_zero]; refine wpAnyC_take (i := 4) (v := ?v4v) rfl (by kernel_rfl) (by kernel_rfl) (by kernel_rfl) ?q4v rfl ?y4v ?r4v; (case q4v => exact fun _ _ _ h => h); (case y4v => ((rintro _ ⟨z, rfl⟩); (go_simp); (try with_reducible rfl))); simp only [Act.put, List.getElem_toArray, List.getElem_cons_succ, List.getElem_cons_zero, List.setIfInBounds_toArray, List.set_cons_succ, List.set_cons_zero]; refine wpAnyC_one (i := 2) (by kernel_rfl) rfl ⟨⟨_, hd0⟩, rfl⟩ rfl (fun K hK => ?_); go_simp; go_at_call 48; (with_reducible refine Calls.mono (hCk.out _ (bl_drew hb0)) ?_); rintro e1 w1 ⟨rfl, hb1⟩; refine hK _ _ ?_; clear hK K; (have hd1 := hd0.trans (hb1.mono hd0.size)); (refine wpAnyC_one (i := 5) (by kernel_rfl) rfl ⟨⟨_, hd1⟩, rfl⟩ rfl (fun K hK => ?_); go_simp; go_at_call 21; (with_reducible refine Calls.mono (hDd.out _) ?_); rintro e w' ⟨rfl, rfl⟩; refine hK _ _ ?_; clear hK K); refine wpAnyC_one (i := 6) (by kernel_rfl) rfl ⟨⟨_, hd1⟩, rfl⟩ rfl (fun K hK => ?_); go_simp; go_at_call 55; (with_reducible refine Calls.mono (HK.out _ (bl_call (bl_drew hb0) hb1)) ?_)
    rintro e2 w2 ⟨⟨A1, ca1, rfl⟩, hb2⟩
    refine hK _ _ ?_; clear hK K; (have hd2 := hd1.trans (hb2.mono hd1.size)); refine wpAnyC_take (i := 7) (v := ?v7v) rfl (by kernel_rfl) (by kernel_rfl) (by kernel_rfl) ?q7v rfl ?y7v ?r7v; (case q7v => exact fun _ _ _ h => h); (case y7v => ((rintro _ ⟨z, rfl⟩); (go_simp); (try with_reducible rfl))); simp only [Act.put, List.getElem_toArray, List.getElem_cons_succ, List.getElem_cons_zero, List.setIfInBounds_toArray, List.set_cons_succ, List.set_cons_zero]; refine wpAnyC_take (i := 8) (v := ?v8v) rfl (by kernel_rfl) (by kernel_rfl) (by kernel_rfl) ?q8v rfl ?y8v ?r8v; (case q8v => exact fun _ _ _ h => h); (case y8v => ((rintro _ ⟨z, rfl⟩); (go_simp); (try with_reducible rfl))); simp only [Act.put, List.getElem_toArray, List.getElem_cons_succ, List.getElem_cons_zero, List.setIfInBounds_toArray, List.set_cons_succ, List.set_cons_zero]; refine wpAnyC_take (i := 9) (v := ?v9v) rfl (by kernel_rfl) (by kernel_rfl) (by kernel_rfl) ?q9v rfl ?y9v ?r9v; (case q9v => exact fun _ _ _ h => h); (case y9v => ((rintro _ ⟨z, rfl⟩); (go_simp); (try with_reducible rfl))); simp only [Act.put, List.getElem_toArray, List.getElem_cons_succ, List.getElem_cons_zero, List.setIfInBounds_toArray, List.set_cons_succ, List.set_cons_zero]; refine wpAnyC_take (i := 10) (v := ?v10v) rfl (by kernel_rfl) (by kernel_rfl) (by kernel_rfl) ?q10v rfl ?y10v ?r10v; (case q10v => exact fun _ _ _ h => h); (case y10v => ((rintro _ ⟨z, rfl⟩); (go_simp); (try with_reducible rfl))); simp only [Act.put, List.getElem_toArray, List.getElem_cons_succ, List.getElem_cons_zero, List.setIfInBounds_toArray, List.set_cons_succ, List.set_cons_zero]; refine wpAnyC_take (i := 11) (v := ?v11v) rfl (by kernel_rfl) (by kernel_rfl) (by kernel_rfl) ?q11v rfl ?y11v ?r11v; (case q11v => exact fun _ _ _ h => h); (case y11v => ((rintro _ ⟨z, rfl⟩); (go_simp); (try with_reducible rfl))); simp only [Act.put, List.getElem_toArray, List.getElem_cons_succ, List.getElem_cons_zero, List.setIfInBounds_toArray, List.set_cons_succ, List.set_cons_zero]; refine wpAnyC_doneN (by kernel_rfl) ⟨⟨_, hd2⟩, rfl⟩ ?_ _; (have hbW := bl_call (bl_call (bl_drew hb0) hb1) hb2)
    go_wp2
    go_ret2
    exact ⟨rfl, hbW⟩
end Go.Proofs.Ytegdnbceiopklaa
