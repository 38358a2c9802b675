/- The law DiscordBlame answers true for any dispute. -/
import Derived.Test.YthijegacjboclaaPb8
import Derived.Test.YthijegacjboclaaEx8
import Derived.Test.YthijegacjboclaaFar8
import Derived.Test.YthijegacjboclaaOpd
import Derived.Test.YthijegacjboclaaRows
namespace Go.Proofs.Ythijegacjboclaa
open Go.ChangeShapes Go.WideShapes Go.RowKit
attribute [local go_sem] After.cell After.frozen

section
variable (A B C : Option Addr) (ca cb cc : Nat) (D : Dsp) (w : World) (ha : Pts w A D.cs) (hb : Ints w B D.offs) (hc : Wks w C D.wks)
include ha hb hc
set_option maxRecDepth 100000 in
set_option maxHeartbeats 4000000 in
theorem lawBlame_any : Calls Try.prog 4 #[(Value.agg #[.slice A D.cs.length ca, .slice B D.offs.length cb, (Value.int .i64 (D.unit)), (Value.int .i64 (D.wh.full)), (Value.int .i64 (D.wh.read)), (Value.int .i64 (D.wh.slip)), (Value.int .i64 (D.wh.skew)), (Value.int .i64 (D.wh.circle)), (Value.int .i64 (D.wh.glo)), (Value.int .i64 (D.wh.ghi)), (Value.int .i64 (D.wh.wrong)), .slice C D.wks.length cc])] w fun e w' => e = .returned (.bool true) ∧ Below w.heap.size w w' := by
  have e0 : Blk (w.alloc (.cells #[.slice A D.cs.length ca, .slice B D.offs.length cb, (Value.int .i64 (D.unit)), (Value.int .i64 (D.wh.full)), (Value.int .i64 (D.wh.read)), (Value.int .i64 (D.wh.slip)), (Value.int .i64 (D.wh.skew)), (Value.int .i64 (D.wh.circle)), (Value.int .i64 (D.wh.glo)), (Value.int .i64 (D.wh.ghi)), (Value.int .i64 (D.wh.wrong)), .slice C D.wks.length cc] 30)) w.heap.size 30 #[.slice A D.cs.length ca, .slice B D.offs.length cb, (Value.int .i64 (D.unit)), (Value.int .i64 (D.wh.full)), (Value.int .i64 (D.wh.read)), (Value.int .i64 (D.wh.slip)), (Value.int .i64 (D.wh.skew)), (Value.int .i64 (D.wh.circle)), (Value.int .i64 (D.wh.glo)), (Value.int .i64 (D.wh.ghi)), (Value.int .i64 (D.wh.wrong)), .slice C D.wks.length cc] := Blk.new _ _ _
  have hR := fun (W : World) (h : Below w.heap.size w W) => ready8_any A B C ca cb cc D W (ha.below h) (hb.below h) (hc.below h)
  cases hr : rdyB D
  · rw [hr] at hR
    replace hR := Lib.hid hR
    (have la := e0.lt); (have ya0 := e0.cell 0); (have ya1 := e0.cell 1); (have ya2 := e0.cell 2); (have ya3 := e0.cell 3); (have ya4 := e0.cell 4); (have ya5 := e0.cell 5); (have ya6 := e0.cell 6); (have ya7 := e0.cell 7); (have ya8 := e0.cell 8); (have ya9 := e0.cell 9); (have ya10 := e0.cell 10); (have ya11 := e0.cell 11); simp only [List.getElem?_toArray, List.getElem?_cons_zero, List.getElem?_cons_succ] at ya0 ya1 ya2 ya3 ya4 ya5 ya6 ya7 ya8 ya9 ya10 ya11
    clear ha hb hc
    go_enter Try.func4, Try.ntmps4
    go_wp2_with (first | ((go_at_call 7); (with_reducible refine Calls.mono (hR.out _ (by (repeat (first | with_reducible exact Below.refl _ _ | with_reducible apply bl_alloc | with_reducible apply bl_drew | with_reducible apply bl_after | (with_reducible refine bl_call ?_ (by assumption)))))) ?_); rintro e wn ⟨rfl, hbn⟩; first | ((with_reducible apply kp_in_step (hb := hbn)); (with_reducible assumption); rintro ⟨hk, hc, hf, hzc, hzf⟩) | ((with_reducible refine kp_in_first hbn ?_); rintro ⟨hk, hc, hf, hzc, hzf⟩)) | ((go_at_call 8); (with_reducible refine Calls.mono (works8_any _) ?_); rintro e wn ⟨rfl, hbn⟩; first | ((with_reducible apply kp_in_step (hb := hbn)); (with_reducible assumption); rintro ⟨hk, hc, hf, hzc, hzf⟩) | ((with_reducible refine kp_in_first hbn ?_); rintro ⟨hk, hc, hf, hzc, hzf⟩)))
    go_ret
    exact ⟨rfl, by (repeat (first | with_reducible exact Below.refl _ _ | with_reducible apply bl_alloc | with_reducible apply bl_drew | with_reducible apply bl_after | (with_reducible refine bl_call ?_ (by assumption))))⟩
  · rw [hr] at hR
    replace hR := Lib.hid hR
    obtain ⟨hD, -⟩ := rdy_ok hr
    obtain ⟨⟨b1, b2, b3, b4⟩, hlaw⟩ := blame_law hD
    have hF := fun (W : World) (h : Below w.heap.size w W) => Fewest_any8 A B C ca cb cc D W (ha.below h) (hb.below h) (hc.below h)
    have hBl : ∀ (W : World), Below w.heap.size w W → Calls Try.prog 14 #[(Value.agg #[.slice A D.cs.length ca, .slice B D.offs.length cb, (Value.int .i64 (D.unit)), (Value.int .i64 (D.wh.full)), (Value.int .i64 (D.wh.read)), (Value.int .i64 (D.wh.slip)), (Value.int .i64 (D.wh.skew)), (Value.int .i64 (D.wh.circle)), (Value.int .i64 (D.wh.glo)), (Value.int .i64 (D.wh.ghi)), (Value.int .i64 (D.wh.wrong)), .slice C D.wks.length cc])] W fun e w' => (∃ A1 c1 A2 c2, e = .returned (.tuple #[.slice A1 (natI (bcL D)).length c1, .slice A2 (natI (bwL D)).length c2, (Value.int .i64 (lsE D (fwO D)))]) ∧ Ints w' A1 (natI (bcL D)) ∧ Ints w' A2 (natI (bwL D))) ∧ Below W.heap.size W w' := fun W h =>
      (Blamed_any8 A B C ca cb cc D W (ha.below h) (hb.below h) (hc.below h)).mono fun e w' ⟨⟨v1, v2, he, h1, h2⟩, h3⟩ => by
        obtain ⟨A1, c1, rfl, i1⟩ := RowI.parts h1
        obtain ⟨A2, c2, rfl, i2⟩ := RowI.parts h2
        exact ⟨⟨A1, c1, A2, c2, he, i1, i2⟩, h3⟩
    have hSu : ∀ (W : World), Below w.heap.size w W → Calls Try.prog 15 #[(Value.agg #[.slice A D.cs.length ca, .slice B D.offs.length cb, (Value.int .i64 (D.unit)), (Value.int .i64 (D.wh.full)), (Value.int .i64 (D.wh.read)), (Value.int .i64 (D.wh.slip)), (Value.int .i64 (D.wh.skew)), (Value.int .i64 (D.wh.circle)), (Value.int .i64 (D.wh.glo)), (Value.int .i64 (D.wh.ghi)), (Value.int .i64 (D.wh.wrong)), .slice C D.wks.length cc])] W fun e w' => (∃ A1 c1 A2 c2, e = .returned (.tuple #[.slice A1 (natI (scL D)).length c1, .slice A2 (natI (swL D)).length c2, (Value.int .i64 (lsE D (fwO D)))]) ∧ Ints w' A1 (natI (scL D)) ∧ Ints w' A2 (natI (swL D))) ∧ Below W.heap.size W w' := fun W h =>
      (Sure_any8 A B C ca cb cc D W (ha.below h) (hb.below h) (hc.below h)).mono fun e w' ⟨⟨v1, v2, he, h1, h2⟩, h3⟩ => by
        obtain ⟨A1, c1, rfl, i1⟩ := RowI.parts h1
        obtain ⟨A2, c2, rfl, i2⟩ := RowI.parts h2
        exact ⟨⟨A1, c1, A2, c2, he, i1, i2⟩, h3⟩
    clear ha hb hc hr
    rcases hlaw with ⟨q1, q2, q3, q4, q5, q6⟩ | ⟨n, q1, q2, q3, q4, q5, q6, q7, q8⟩
    · rw [q1, q2] at hF
      rw [q1, q3, q4] at hBl
      rw [q1, q5, q6] at hSu
      replace hF := Lib.hid hF
      replace hBl := Lib.hid hBl
      replace hSu := Lib.hid hSu
      have en : (natI []).length = 0 := rfl
      have hK := Lib.hid fun (W : World) => isKnown8_any 3 W
      (have la := e0.lt); (have ya0 := e0.cell 0); (have ya1 := e0.cell 1); (have ya2 := e0.cell 2); (have ya3 := e0.cell 3); (have ya4 := e0.cell 4); (have ya5 := e0.cell 5); (have ya6 := e0.cell 6); (have ya7 := e0.cell 7); (have ya8 := e0.cell 8); (have ya9 := e0.cell 9); (have ya10 := e0.cell 10); (have ya11 := e0.cell 11); simp only [List.getElem?_toArray, List.getElem?_cons_zero, List.getElem?_cons_succ] at ya0 ya1 ya2 ya3 ya4 ya5 ya6 ya7 ya8 ya9 ya10 ya11
      clear b1 b2 b3 b4 q1 q2 q3 q4 q5 q6
      go_enter Try.func4, Try.ntmps4
      go_wp2_with (first | ((go_at_call 7); (with_reducible refine Calls.mono (hR.out _ (by (repeat (first | with_reducible exact Below.refl _ _ | with_reducible apply bl_alloc | with_reducible apply bl_drew | with_reducible apply bl_after | (with_reducible refine bl_call ?_ (by assumption)))))) ?_); rintro e wn ⟨rfl, hbn⟩; first | ((with_reducible apply kp_in_step (hb := hbn)); (with_reducible assumption); rintro ⟨hk, hc, hf, hzc, hzf⟩) | ((with_reducible refine kp_in_first hbn ?_); rintro ⟨hk, hc, hf, hzc, hzf⟩)) | ((go_at_call 9); (with_reducible refine Calls.mono (hF.out _ (by (repeat (first | with_reducible exact Below.refl _ _ | with_reducible apply bl_alloc | with_reducible apply bl_drew | with_reducible apply bl_after | (with_reducible refine bl_call ?_ (by assumption)))))) ?_); rintro e wn ⟨rfl, hbn⟩; first | ((with_reducible apply kp_in_step (hb := hbn)); (with_reducible assumption); rintro ⟨hk, hc, hf, hzc, hzf⟩) | ((with_reducible refine kp_in_first hbn ?_); rintro ⟨hk, hc, hf, hzc, hzf⟩)) | ((go_at_call 14); (with_reducible refine Calls.mono (hBl.out _ (by (repeat (first | with_reducible exact Below.refl _ _ | with_reducible apply bl_alloc | with_reducible apply bl_drew | with_reducible apply bl_after | (with_reducible refine bl_call ?_ (by assumption)))))) ?_); rintro e w4 ⟨⟨A1, c1, A2, c2, rfl, hN1, hN2⟩, hb4⟩; first | ((with_reducible apply kp_in_step (hb := hb4)); (with_reducible assumption); rintro ⟨hk, hc, hf, hzc, hzf⟩) | ((with_reducible refine kp_in_first hb4 ?_); rintro ⟨hk, hc, hf, hzc, hzf⟩)) | ((go_at_call 15); (with_reducible refine Calls.mono (hSu.out _ (by (repeat (first | with_reducible exact Below.refl _ _ | with_reducible apply bl_alloc | with_reducible apply bl_drew | with_reducible apply bl_after | (with_reducible refine bl_call ?_ (by assumption)))))) ?_); rintro e w5 ⟨⟨A3, c3, A4, c4, rfl, hN3, hN4⟩, hb5⟩; first | ((with_reducible apply kp_in_step (hb := hb5)); (with_reducible assumption); rintro ⟨hk, hc, hf, hzc, hzf⟩) | ((with_reducible refine kp_in_first hb5 ?_); rintro ⟨hk, hc, hf, hzc, hzf⟩)) | (go_at_call 10; with_reducible refine Calls.mono (hK.out _) ?_; rintro e w' ⟨rfl, rfl⟩) | ((go_at_call 8); (with_reducible refine Calls.mono (works8_any _) ?_); rintro e wn ⟨rfl, hbn⟩; first | ((with_reducible apply kp_in_step (hb := hbn)); (with_reducible assumption); rintro ⟨hk, hc, hf, hzc, hzf⟩) | ((with_reducible refine kp_in_first hbn ?_); rintro ⟨hk, hc, hf, hzc, hzf⟩)))
      go_ret
      exact ⟨rfl, by (repeat (first | with_reducible exact Below.refl _ _ | with_reducible apply bl_alloc | with_reducible apply bl_drew | with_reducible apply bl_after | (with_reducible refine bl_call ?_ (by assumption))))⟩
    · have n1 : (natI (bcL D)).length ≤ 40 := by rw [natI_len]; exact b1
      have n2 : (natI (bwL D)).length ≤ 40 := by rw [natI_len]; exact b2
      have n3 : (natI (scL D)).length ≤ 40 := by rw [natI_len]; exact b3
      have n4 : (natI (swL D)).length ≤ 40 := by rw [natI_len]; exact b4
      rw [← natI_len (bcL D), ← natI_len (bwL D)] at q6 q8
      rw [← natI_len (scL D), ← natI_len (swL D)] at q7
      rw [q1, q2] at hF
      rw [q1] at hBl hSu
      generalize natI (bcL D) = l1 at *
      generalize natI (bwL D) = l2 at *
      generalize natI (scL D) = l3 at *
      generalize natI (swL D) = l4 at *
      clear b1 b2 b3 b4 q1 q2
      replace hF := Lib.hid hF
      replace hBl := Lib.hid hBl
      replace hSu := Lib.hid hSu
      have hK := Lib.hid fun (W : World) => isKnown8_any 0 W
      have hX := Lib.hid fun (P Q : Option Addr) (cp cq : Nat) (V : World) (hp : Ints V P l3) (hq : Ints V Q l1) => (by
        have h := subset8_any P Q cp cq l3 l1 V hp (by omega) hq (by omega)
        rw [q4] at h
        exact h : Calls Try.prog 13 #[.slice P l3.length cp, .slice Q l1.length cq] V fun e w' => e = .returned (.bool true) ∧ Below V.heap.size V w')
      have hY := Lib.hid fun (P Q : Option Addr) (cp cq : Nat) (V : World) (hp : Ints V P l4) (hq : Ints V Q l2) => (by
        have h := subset8_any P Q cp cq l4 l2 V hp (by omega) hq (by omega)
        rw [q5] at h
        exact h : Calls Try.prog 13 #[.slice P l4.length cp, .slice Q l2.length cq] V fun e w' => e = .returned (.bool true) ∧ Below V.heap.size V w')
      clear q4 q5
      have m1 : ¬ (40 : Int) < (l1.length : Int) := by omega
      have m2 : ¬ (40 : Int) < (l2.length : Int) := by omega
      have m3 : ¬ (40 : Int) < (l3.length : Int) := by omega
      have m4 : ¬ (40 : Int) < (l4.length : Int) := by omega
      have z1 : IntKind.i64.wrap ((l1.length : Int) + (l2.length : Int)) = (l1.length : Int) + (l2.length : Int) := IntWalk.i64_in _ (by omega)
      have z2 : IntKind.i64.wrap ((l3.length : Int) + (l4.length : Int)) = (l3.length : Int) + (l4.length : Int) := IntWalk.i64_in _ (by omega)
      have y1 := wrap64_in (x := (l1.length : Int) + (l2.length : Int)) (by omega) (by omega)
      have y2 := wrap64_in (x := (l3.length : Int) + (l4.length : Int)) (by omega) (by omega)
      have g1 : decide ((n : Int) ≤ (l1.length : Int) + (l2.length : Int)) = true := by simp; omega
      have g2 : decide ((l3.length : Int) + (l4.length : Int) ≤ (n : Int)) = true := by simp; omega
      have g3 : (((n : Int) == 0) == ((l1.length : Int) + (l2.length : Int) == 0)) = true := by
        rw [beq_iff_eq, Bool.eq_iff_iff, beq_iff_eq, beq_iff_eq]; omega
      (have la := e0.lt); (have ya0 := e0.cell 0); (have ya1 := e0.cell 1); (have ya2 := e0.cell 2); (have ya3 := e0.cell 3); (have ya4 := e0.cell 4); (have ya5 := e0.cell 5); (have ya6 := e0.cell 6); (have ya7 := e0.cell 7); (have ya8 := e0.cell 8); (have ya9 := e0.cell 9); (have ya10 := e0.cell 10); (have ya11 := e0.cell 11); simp only [List.getElem?_toArray, List.getElem?_cons_zero, List.getElem?_cons_succ] at ya0 ya1 ya2 ya3 ya4 ya5 ya6 ya7 ya8 ya9 ya10 ya11
      clear n1 n2 n3 n4 q3 q6 q7 q8
      go_enter Try.func4, Try.ntmps4
      go_upto_region 6 with (first | ((go_at_call 7); (with_reducible refine Calls.mono (hR.out _ (by (repeat (first | with_reducible exact Below.refl _ _ | with_reducible apply bl_alloc | with_reducible apply bl_drew | with_reducible apply bl_after | (with_reducible refine bl_call ?_ (by assumption)))))) ?_); rintro e wn ⟨rfl, hbn⟩; first | ((with_reducible apply kp_in_step (hb := hbn)); (with_reducible assumption); rintro ⟨hk, hc, hf, hzc, hzf⟩) | ((with_reducible refine kp_in_first hbn ?_); rintro ⟨hk, hc, hf, hzc, hzf⟩)) | ((go_at_call 9); (with_reducible refine Calls.mono (hF.out _ (by (repeat (first | with_reducible exact Below.refl _ _ | with_reducible apply bl_alloc | with_reducible apply bl_drew | with_reducible apply bl_after | (with_reducible refine bl_call ?_ (by assumption)))))) ?_); rintro e wn ⟨rfl, hbn⟩; first | ((with_reducible apply kp_in_step (hb := hbn)); (with_reducible assumption); rintro ⟨hk, hc, hf, hzc, hzf⟩) | ((with_reducible refine kp_in_first hbn ?_); rintro ⟨hk, hc, hf, hzc, hzf⟩)) | ((go_at_call 14); (with_reducible refine Calls.mono (hBl.out _ (by (repeat (first | with_reducible exact Below.refl _ _ | with_reducible apply bl_alloc | with_reducible apply bl_drew | with_reducible apply bl_after | (with_reducible refine bl_call ?_ (by assumption)))))) ?_); rintro e w4 ⟨⟨A1, c1, A2, c2, rfl, hN1, hN2⟩, hb4⟩; first | ((with_reducible apply kp_in_step (hb := hb4)); (with_reducible assumption); rintro ⟨hk, hc, hf, hzc, hzf⟩) | ((with_reducible refine kp_in_first hb4 ?_); rintro ⟨hk, hc, hf, hzc, hzf⟩)) | ((go_at_call 15); (with_reducible refine Calls.mono (hSu.out _ (by (repeat (first | with_reducible exact Below.refl _ _ | with_reducible apply bl_alloc | with_reducible apply bl_drew | with_reducible apply bl_after | (with_reducible refine bl_call ?_ (by assumption)))))) ?_); rintro e w5 ⟨⟨A3, c3, A4, c4, rfl, hN3, hN4⟩, hb5⟩; (have hM1 := hN1.below hb5); (have hM2 := hN2.below hb5); first | ((with_reducible apply kp_in_step (hb := hb5)); (with_reducible assumption); rintro ⟨hk, hc, hf, hzc, hzf⟩) | ((with_reducible refine kp_in_first hb5 ?_); rintro ⟨hk, hc, hf, hzc, hzf⟩)))
      go_wp2_with (first | (go_at_call 10; with_reducible refine Calls.mono (hK.out _) ?_; rintro e w' ⟨rfl, rfl⟩) | ((go_at_call 13); (with_reducible refine Calls.mono (hX.out A3 A1 c3 c1 _ hN3 hM1) ?_); rintro e w6 ⟨rfl, hb6⟩; (have hM2' := hM2.below hb6); (have hN4' := hN4.below hb6); first | ((with_reducible apply kp_in_step (hb := hb6)); (with_reducible assumption); rintro ⟨hk, hc, hf, hzc, hzf⟩) | ((with_reducible refine kp_in_first hb6 ?_); rintro ⟨hk, hc, hf, hzc, hzf⟩)) | ((go_at_call 13); (with_reducible refine Calls.mono (hY.out A4 A2 c4 c2 _ hN4' hM2') ?_); rintro e w7 ⟨rfl, hb7⟩; first | ((with_reducible apply kp_in_step (hb := hb7)); (with_reducible assumption); rintro ⟨hk, hc, hf, hzc, hzf⟩) | ((with_reducible refine kp_in_first hb7 ?_); rintro ⟨hk, hc, hf, hzc, hzf⟩)) | ((go_at_call 8); (with_reducible refine Calls.mono (works8_any _) ?_); rintro e wn ⟨rfl, hbn⟩; first | ((with_reducible apply kp_in_step (hb := hbn)); (with_reducible assumption); rintro ⟨hk, hc, hf, hzc, hzf⟩) | ((with_reducible refine kp_in_first hbn ?_); rintro ⟨hk, hc, hf, hzc, hzf⟩)))
      go_ret
      exact ⟨rfl, by (repeat (first | with_reducible exact Below.refl _ _ | with_reducible apply bl_alloc | with_reducible apply bl_drew | with_reducible apply bl_after | (with_reducible refine bl_call ?_ (by assumption))))⟩
end

section
open Go.ChangeAt
set_option maxRecDepth 100000 in
theorem discordBlame_lifted (os : Os) (started : os.Started) (H : Type) (enc : TypeId × Value → H) :
    ReturnsInHanded {} Try.checked os 4 .any (Rows.discordBlameSpec.pre6 enc Try.prog Try.f4 Rows.discordBlameRow.domain false) (Rows.discordBlameSpec.post enc Try.prog Try.f4 false true false false) := by
  refine returnsInHanded_of_change (C := Try.checked) own_knob started (by kernel_rfl) Try.func4
    (ChangeSpec.witness6 (enc := enc) (C := Try.checked) false ⟨#[], #[.agg #[.slice none 0 0, .slice none 0 0, .int .i64 0, .int .i64 0, .int .i64 0, .int .i64 0, .int .i64 0, .int .i64 0, .int .i64 0, .int .i64 0, .int .i64 0, .slice none 0 0]], []⟩ 8 (by kernel_rfl) (by kernel_rfl) (by kernel_rfl) (by kernel_rfl)) ?_
  intro W base args ds gs before hval0 hW hcnd _
  have hval : ∀ (j : Nat) t v, Try.f4.params[j]? = some t → args[j]? = some v → Value.okWide Try.prog W .any base t v := hval0
  have hW2 := hW
  obtain ⟨p, q, hA0, hV, rfl, hfz, hnd⟩ := hW
  have hA : DataW.TrodAll enc Try.prog W 0 (fun _ => true) true Try.f4.params.toList args.toList ds p := hA0
  rw [Try.params4] at hA hval
  obtain ⟨v0, d0, rfl, rfl, h0⟩ := trodAll_one hA; obtain ⟨A, B, C, ca, cb, cc, D, rfl, hP0, hP1, hP2, hl0, hl1, hl2⟩ := open_dispute (hval 0 _ _ rfl rfl) h0
  obtain ⟨rfl, rfl⟩ := trodVars_none hV
  clear hA0 hval0
  simp only [List.append_nil, List.nil_append] at hW2
  (try simp only [List.append_nil, List.nil_append] at hA)
  refine (lawBlame_any A B C ca cb cc D W hP0 hP1 hP2).mono fun e W2 ⟨he, hb⟩ => ?_
  subst he
  refine ⟨_, rfl, post_of_below (pa := _) (pv := []) hW2 (fun _ _ _ => trodAll_mk1 (shut_bool und_bool _)) (fun sp hs => args_stay hb (by rw [Try.params4]; intro t ht; simp at ht; (try rcases ht with rfl | rfl | rfl) <;> (try rcases ht with rfl | rfl) <;> (try subst ht) <;> exact ⟨by kernel_rfl, by decide +kernel⟩) (by rw [Try.params4]; exact hA) hs) (fun _ _ => rfl) (by simp) hb (ok_one (by kernel_rfl) rfl (okWide_bool_mk und_bool _))⟩

theorem discordBlame_holds : Rows.DiscordBlameSaid :=
  OpenClaim.holds_of_wide 4 Try.f4 rfl rfl rfl rfl rfl rfl rfl ⟨rfl, rfl, rfl, rfl, rfl⟩ rfl rfl rfl rfl rfl (by kernel_rfl) Try.func4 (by kernel_rfl)
    (of_decide_eq_true (by kernel_rfl)) (by unfold Func.isWrapper; first | (rw [if_pos (by decide +kernel)]; kernel_rfl) | (rw [if_neg (by decide +kernel)]; exact ⟨rfl, rfl⟩))
    (fun os started H enc _ => discordBlame_lifted os started H enc)
end
end Go.Proofs.Ythijegacjboclaa
