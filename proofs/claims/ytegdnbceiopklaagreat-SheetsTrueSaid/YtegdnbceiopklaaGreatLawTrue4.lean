/- The law SheetsTrue answers true for any sheet, polygon, truth, deed and points. -/
import Derived.Test.YtegdnbceiopklaaGreatIk4
import Derived.Test.YtegdnbceiopklaaGreatRi4
import Derived.Test.YtegdnbceiopklaaGreatLe4
import Derived.Test.YtegdnbceiopklaaGreatWk4
import Derived.Test.YtegdnbceiopklaaGreatRLe4
import Derived.Test.YtegdnbceiopklaaGreatOpc
import Derived.Test.YtegdnbceiopklaaGreatRows
namespace Go.Proofs.YtegdnbceiopklaaGreat
open Go.RowKit
attribute [local go_sem] After.cell After.frozen

/-- Whether what is known is so if it is, or is not. -/
def agrB (k : Int) (is : Bool) : Bool := if k = 1 then is else if k = 2 then !is else k == 3
theorem agr_knw {p : Pt → Bool} {L : List Pt} {f : Pt} (hf : f ∈ L) : agrB (knw p L) (p f) = true := by
  unfold knw
  by_cases c1 : cnt p L = L.length
  · rw [if_pos c1]
    have := cnt_full.1 c1 f hf
    simp [agrB, this]
  · rw [if_neg c1]
    by_cases c2 : cnt p L = 0
    · rw [if_pos c2]
      have := cnt_zero.1 c2 f hf
      simp [agrB, this]
    · rw [if_neg c2]
      rfl
theorem ln_sane {a b f : Pt} (hab : lnB a b = true) (hf : FacOk f) : hig (lnQ a b f) < 1073741824 ∧ 0 ≤ low (lnQ a b f) ∧ low (lnQ a b f) ≤ hig (lnQ a b f) := by
  have hb := lnQ_bd hab hf
  have hfr : FrOk (lnQ a b f) := sqQ_ok hb
  have h1 := low_le hfr
  have h5 := hb.p; have h6 := hb.q; have h7 := hb.d
  refine ⟨Int.not_le.1 fun hlt => ?_, h1.2.2.1, h1.2.2.2.1⟩
  have e1 : (lnQ a b f).1 = 1000000 * ((b.1 - a.1) * (b.1 - a.1) * (f.2 * f.2) + (b.2 - a.2) * (b.2 - a.2) * (f.1 * f.1)) := rfl
  have e2 : (lnQ a b f).2 = f.1 * f.1 * (f.2 * f.2) := rfl
  have h2 := Int.mul_le_mul_of_nonneg_left (show (656100000000 : Int) ≤ (lnQ a b f).2 by rw [e2]; omega) (show 0 ≤ low (lnQ a b f) from h1.2.2.1)
  omega
theorem ln_num {a b f : Pt} (hab : lnB a b = true) (hf : FacOk f) (hn : 0 < (lnQ a b f).1) : ((lnQ a b f).1 - 1).tdiv (lnQ a b f).2 < hig (lnQ a b f) := by
  have hb := lnQ_bd hab hf
  have hfr : FrOk (lnQ a b f) := sqQ_ok hb
  obtain ⟨⟨h0, h1⟩, h2, h3⟩ := hfr
  have e1 : ((lnQ a b f).1 - 1).tdiv (lnQ a b f).2 = ((lnQ a b f).1 - 1) / (lnQ a b f).2 := Int.tdiv_eq_ediv_of_nonneg (by omega)
  have e2 : hig (lnQ a b f) = ((lnQ a b f).1 + (lnQ a b f).2 - 1) / (lnQ a b f).2 := Int.tdiv_eq_ediv_of_nonneg (by omega)
  rw [e1, e2, show (lnQ a b f).1 + (lnQ a b f).2 - 1 = ((lnQ a b f).1 - 1) + (lnQ a b f).2 * 1 by omega, Int.add_mul_ediv_left _ _ (by omega)]
  omega
section
variable {S : Sht} {f : Pt} (h0 : shtB S = true) (hf : f ∈ trs S)
include hf
theorem tp_ne : trs S ≠ [] := fun e => by rw [e] at hf; cases hf
include h0
theorem tp_op (is : Bool) (hi : is = true) : opS S is = 0 := opS_of h0 hi (tp_ne hf)
theorem tp_fc (way : Int) (hw : wayB way = true) : fac f way ∈ fcV S way ∧ (fcV S way).length ≤ 300 := by
  rw [fcV, if_pos (tp_op h0 hf _ hw)]
  constructor
  · rw [fcS, mem_srt, fcTo, List.take_length]
    exact List.mem_map.2 ⟨f, hf, rfl⟩
  · rw [fcS_eq (sht_ok h0)]
    exact Nat.le_trans (rfTo_len _ _) (by decide)
theorem tp_al : agrB (alV S) (alB f) = true := by
  rw [alV, if_pos (tp_op h0 hf _ rfl)]
  exact agr_knw hf
theorem tp_ag {l : List Pt} {d o : Int} (hl : Ok l) (hd : deedB d o = true) : agE S l d o = 0 ∧ agrB (agV S l d o) (agB (abT l) d o f) = true := by
  have hm : msE S l = 0 := by rw [msE, if_pos h0, chk_ok hl]
  have he : agE S l d o = 0 := by rw [agE, if_pos hm]; exact tp_op h0 hf _ hd
  refine ⟨he, ?_⟩
  rw [agV, if_pos he]
  exact agr_knw hf
theorem tp_ar {l : List Pt} (hl : Ok l) : arE S l true = 0 ∧ saneB (arLo S l) (arHi S l) = true ∧ arLo S l * (f.1 * f.2) ≤ abT l * 1000000 ∧ abT l * 1000000 ≤ arHi S l * (f.1 * f.2) := by
  have ht := tp_ne hf
  have hS := sht_ok h0
  have hm : msE S l = 0 := by rw [msE, if_pos h0, chk_ok hl]
  have he : arE S l true = 0 := by rw [arE, if_pos hm]; exact tp_op h0 hf _ rfl
  rw [arLo, arHi, if_pos he, if_pos he]
  have hfr := arQ_ok hl (trs_ok hS hf)
  have h1 := low_le hfr
  have h2 := (bLo_le (g := arQ l) ht _).2 ⟨f, hf, Int.le_refl (low (arQ l f))⟩
  have h3 := (le_bHi (g := arQ l) ht _).2 ⟨f, hf, Int.le_refl (hig (arQ l f))⟩
  obtain ⟨f1, hf1, h4⟩ := (bLo_le ht _).1 (Int.le_refl (bLo (arQ l) (trs S)))
  obtain ⟨f2, hf2, h5⟩ := (le_bHi ht _).1 (Int.le_refl (bHi (arQ l) (trs S)))
  have h6 := (low_le (arQ_ok hl (trs_ok hS hf1))).2.2.1
  have hab := abT_bd2 hl
  have h7 := hig_sane (arQ_ok hl (trs_ok hS hf2)) (by simp only [arQ]; omega) (ff_bd (trs_ok hS hf2)).1
  have hff := ff_bd (trs_ok hS hf)
  have e1 : (arQ l f).1 = abT l * 1000000 := rfl
  have e2 : (arQ l f).2 = f.1 * f.2 := rfl
  rw [e1, e2] at h1
  refine ⟨he, ?_, ?_, ?_⟩
  · simp only [saneB, Bool.and_eq_true, decide_eq_true_eq]
    omega
  · have := Int.mul_le_mul_of_nonneg_right h2 (show 0 ≤ f.1 * f.2 by omega)
    omega
  · have := Int.mul_le_mul_of_nonneg_right h3 (show 0 ≤ f.1 * f.2 by omega)
    omega
theorem tp_ln {a b : Pt} (hab : lnB a b = true) : lnE S a b = 0 ∧ saneB (lnLo S a b) (lnHi S a b) = true ∧ lnLo S a b ≤ (lnQ a b f).1.tdiv (lnQ a b f).2 ∧ (0 < (lnQ a b f).1 → ((lnQ a b f).1 - 1).tdiv (lnQ a b f).2 < lnHi S a b) := by
  have ht := tp_ne hf
  have hS := sht_ok h0
  have he : lnE S a b = 0 := tp_op h0 hf _ hab
  rw [lnLo, lnHi, if_pos he, if_pos he]
  have h2 := (bLo_le (g := lnQ a b) ht _).2 ⟨f, hf, Int.le_refl (low (lnQ a b f))⟩
  have h3 := (le_bHi (g := lnQ a b) ht _).2 ⟨f, hf, Int.le_refl (hig (lnQ a b f))⟩
  obtain ⟨f1, hf1, h4⟩ := (bLo_le ht _).1 (Int.le_refl (bLo (lnQ a b) (trs S)))
  obtain ⟨f2, hf2, h5⟩ := (le_bHi ht _).1 (Int.le_refl (bHi (lnQ a b) (trs S)))
  have h6 := (ln_sane hab (trs_ok hS hf1)).2.1
  have h7 := (ln_sane hab (trs_ok hS hf2)).1
  have h8 := (ln_sane hab (trs_ok hS hf)).2.2
  refine ⟨he, ?_, h2, fun hn => ?_⟩
  · simp only [saneB, Bool.and_eq_true, decide_eq_true_eq]
    omega
  · have := ln_num hab (trs_ok hS hf) hn
    omega
theorem tp_str : (strV S).length ≤ 8 ∧ ∀ x ∈ strV S, ∃ i : Nat, x = (i : Int) ∧ i < S.cs.length ∧ rightB (cat S.cs i) f = false := by
  rw [strV, if_pos (tp_op h0 hf _ rfl)]
  refine ⟨Nat.le_trans (strTo_len S _) (sht_ok h0).len, fun x hx => ?_⟩
  unfold strTo at hx
  obtain ⟨i, hi, rfl⟩ := List.mem_map.1 hx
  obtain ⟨hi1, hi2⟩ := List.mem_filter.1 hi
  refine ⟨i, rfl, List.mem_range.1 hi1, ?_⟩
  rw [knw_two (tp_ne hf), beq_iff_eq] at hi2
  exact cnt_zero.1 hi2 f hf
end
set_option maxHeartbeats 1000000 in
theorem agrees4 (k : Int) (is : Bool) (h : agrB k is = true) (w : World) :
    Calls Tryz.prog 31 #[(Value.int .i64 (k)), .bool is] w fun e w' => e = .returned (.bool true) ∧ w = w' := by
  by_cases h1 : k = 1
  · subst h1
    have hi : is = true := by simpa [agrB] using h
    subst hi
    clear h
    go_enter Tryz.func31, Tryz.ntmps31
    go_wp2
    go_ret
    exact ⟨rfl, rfl⟩
  · by_cases h2 : k = 2
    · subst h2
      have hi : is = false := by simpa [agrB] using h
      subst hi
      clear h
      go_enter Tryz.func31, Tryz.ntmps31
      go_wp2
      go_ret
      exact ⟨rfl, rfl⟩
    · have h3 : k = 3 := by simpa [agrB, h1, h2] using h
      subst h3
      clear h
      go_enter Tryz.func31, Tryz.ntmps31
      go_wp2
      go_ret
      exact ⟨rfl, rfl⟩
end Go.Proofs.YtegdnbceiopklaaGreat
namespace Go.Proofs.YtegdnbceiopklaaGreat
open Go.ChangeShapes Go.WideShapes Go.RowKit
attribute [local go_sem] After.cell After.frozen
theorem nat_neg4 (j : Nat) : decide ((j : Int) < 0) = false := decide_eq_false (by omega)
attribute [local go_sem] nat_neg4

set_option maxRecDepth 100000 in
set_option maxHeartbeats 4000000 in
theorem lawTrue_no (A B : Option Addr) (ca cb : Nat) (S : Sht) (l : List Pt) (f a b : Pt) (d o : Int) (w : World) (ha : Cts w A S.cs) (hla : S.cs.length ≤ 9223372036854775807) (hb : Pts w B l) (hlb : l.length ≤ 9223372036854775807)
    (x1 x2 x3 x4 x5 x6 : Bool) (h1 : rdyB S = x1) (h2 : polB l = x2) (h3 : rdyB S = true → truB S f = x3) (h4 : deedB d o = x4) (h5 : isPt a = x5) (h6 : isPt b = x6) (hx : x1 = false ∨ (x1 = true ∧ x2 = false) ∨ (x1 = true ∧ x2 = true ∧ x3 = false) ∨ (x1 = true ∧ x2 = true ∧ x3 = true ∧ x4 = false) ∨ (x1 = true ∧ x2 = true ∧ x3 = true ∧ x4 = true ∧ x5 = false) ∨ (x1 = true ∧ x2 = true ∧ x3 = true ∧ x4 = true ∧ x5 = true ∧ x6 = false)) :
    Calls Tryz.prog 4 #[(Value.agg #[(Value.int .i64 (S.xlo)), (Value.int .i64 (S.xhi)), (Value.int .i64 (S.ylo)), (Value.int .i64 (S.yhi)), .slice A S.cs.length ca, (Value.int .i64 (S.wrong))]), .slice B l.length cb, .agg #[(Value.int .i64 (f.1)), (Value.int .i64 (f.2)), (Value.int .i64 (d)), (Value.int .i64 (o)), (Value.int .i64 (a.1)), (Value.int .i64 (a.2)), (Value.int .i64 (b.1)), (Value.int .i64 (b.2))]] w fun e w' => e = .returned (.bool true) ∧ Below w.heap.size w w' := by
  have hR := fun (W : World) (h : Below w.heap.size w W) => ready4 A ca S W (ha.below h) hla
  have hP := fun (W : World) (h : Below w.heap.size w W) => isPolygon4 B cb l W (hb.below h) hlb
  have hT := fun (h : rdyB S = true) (W : World) (hw : Below w.heap.size w W) => rIsTruth4 A ca S (sht_ok (by simp only [rdyB, Bool.and_eq_true] at h; exact h.2)) f W (ha.below hw)
  have hD := Lib.hid fun (W : World) => rIsDeed4 d o W
  have hI1 := Lib.hid fun (W : World) => rIsPoint_any a W
  have hI2 := Lib.hid fun (W : World) => rIsPoint_any b W
  have c1 : Blk ((w.alloc (.cells #[(Value.int .i64 (S.xlo)), (Value.int .i64 (S.xhi)), (Value.int .i64 (S.ylo)), (Value.int .i64 (S.yhi)), .slice A S.cs.length ca, (Value.int .i64 (S.wrong))] 26)).alloc (.cells #[(Value.int .i64 (f.1)), (Value.int .i64 (f.2)), (Value.int .i64 (d)), (Value.int .i64 (o)), (Value.int .i64 (a.1)), (Value.int .i64 (a.2)), (Value.int .i64 (b.1)), (Value.int .i64 (b.2))] 48)) w.heap.size 26 #[(Value.int .i64 (S.xlo)), (Value.int .i64 (S.xhi)), (Value.int .i64 (S.ylo)), (Value.int .i64 (S.yhi)), .slice A S.cs.length ca, (Value.int .i64 (S.wrong))] := (Blk.new _ _ _).alloc _
  have c2 : Blk ((w.alloc (.cells #[(Value.int .i64 (S.xlo)), (Value.int .i64 (S.xhi)), (Value.int .i64 (S.ylo)), (Value.int .i64 (S.yhi)), .slice A S.cs.length ca, (Value.int .i64 (S.wrong))] 26)).alloc (.cells #[(Value.int .i64 (f.1)), (Value.int .i64 (f.2)), (Value.int .i64 (d)), (Value.int .i64 (o)), (Value.int .i64 (a.1)), (Value.int .i64 (a.2)), (Value.int .i64 (b.1)), (Value.int .i64 (b.2))] 48)) (w.heap.size + 1) 48 #[(Value.int .i64 (f.1)), (Value.int .i64 (f.2)), (Value.int .i64 (d)), (Value.int .i64 (o)), (Value.int .i64 (a.1)), (Value.int .i64 (a.2)), (Value.int .i64 (b.1)), (Value.int .i64 (b.2))] := Blk.new_at (by simp)
  (have la := c1.lt); (have ya0 := c1.cell 0); (have ya1 := c1.cell 1); (have ya2 := c1.cell 2); (have ya3 := c1.cell 3); (have ya4 := c1.cell 4); (have ya5 := c1.cell 5); simp only [List.getElem?_toArray, List.getElem?_cons_zero, List.getElem?_cons_succ] at ya0 ya1 ya2 ya3 ya4 ya5
  (have lb := c2.lt); (have yb0 := c2.cell 0); (have yb1 := c2.cell 1); (have yb2 := c2.cell 2); (have yb3 := c2.cell 3); (have yb4 := c2.cell 4); (have yb5 := c2.cell 5); (have yb6 := c2.cell 6); (have yb7 := c2.cell 7); simp only [List.getElem?_toArray, List.getElem?_cons_zero, List.getElem?_cons_succ] at yb0 yb1 yb2 yb3 yb4 yb5 yb6 yb7
  rw [h1] at hR
  rw [h2] at hP
  rw [h4] at hD
  rw [h5] at hI1
  rw [h6] at hI2
  replace hR := Lib.hid hR
  replace hP := Lib.hid hP
  clear ha hb hla hlb c1 c2 h2 h4 h5 h6
  rcases hx with rfl | ⟨rfl, rfl⟩ | ⟨rfl, rfl, rfl⟩ | ⟨rfl, rfl, rfl, rfl⟩ | ⟨rfl, rfl, rfl, rfl, rfl⟩ | ⟨rfl, rfl, rfl, rfl, rfl, rfl⟩
  · clear hT h1 h3
    go_enter Tryz.func4, Tryz.ntmps4
    go_wp2_with (first | ((go_at_call 16); (with_reducible refine Calls.mono (hR.out _ (by (repeat (first | with_reducible exact Below.refl _ _ | with_reducible apply bl_alloc | with_reducible apply bl_drew | with_reducible apply bl_after | (with_reducible refine bl_call ?_ (by assumption)))))) ?_); rintro e wn ⟨rfl, hbn⟩; first | ((with_reducible apply kp_in_step (hb := hbn)); (with_reducible assumption); rintro ⟨hk, hc, hf, hzc, hzf⟩) | ((with_reducible refine kp_in_first hbn ?_); rintro ⟨hk, hc, hf, hzc, hzf⟩)) | ((go_at_call 17); (with_reducible refine Calls.mono (hP.out _ (by (repeat (first | with_reducible exact Below.refl _ _ | with_reducible apply bl_alloc | with_reducible apply bl_drew | with_reducible apply bl_after | (with_reducible refine bl_call ?_ (by assumption)))))) ?_); rintro e wn ⟨rfl, hbn⟩; first | ((with_reducible apply kp_in_step (hb := hbn)); (with_reducible assumption); rintro ⟨hk, hc, hf, hzc, hzf⟩) | ((with_reducible refine kp_in_first hbn ?_); rintro ⟨hk, hc, hf, hzc, hzf⟩)) | ((go_at_call 18); (with_reducible refine Calls.mono (hT.out _ (by (repeat (first | with_reducible exact Below.refl _ _ | with_reducible apply bl_alloc | with_reducible apply bl_drew | with_reducible apply bl_after | (with_reducible refine bl_call ?_ (by assumption)))))) ?_); rintro e wn ⟨rfl, hbn⟩; first | ((with_reducible apply kp_in_step (hb := hbn)); (with_reducible assumption); rintro ⟨hk, hc, hf, hzc, hzf⟩) | ((with_reducible refine kp_in_first hbn ?_); rintro ⟨hk, hc, hf, hzc, hzf⟩)) | (go_at_call 19; with_reducible refine Calls.mono (hD.out _) ?_; rintro e w' ⟨rfl, rfl⟩) | ((go_at_call 20); (with_reducible refine Calls.mono (hI1.out _) ?_); rintro e wn ⟨rfl, hbn⟩; first | ((with_reducible apply kp_in_step (hb := hbn)); (with_reducible assumption); rintro ⟨hk, hc, hf, hzc, hzf⟩) | ((with_reducible refine kp_in_first hbn ?_); rintro ⟨hk, hc, hf, hzc, hzf⟩)) | ((go_at_call 20); (with_reducible refine Calls.mono (hI2.out _) ?_); rintro e wn ⟨rfl, hbn⟩; first | ((with_reducible apply kp_in_step (hb := hbn)); (with_reducible assumption); rintro ⟨hk, hc, hf, hzc, hzf⟩) | ((with_reducible refine kp_in_first hbn ?_); rintro ⟨hk, hc, hf, hzc, hzf⟩)) | ((go_at_call 7); (with_reducible refine Calls.mono (works4 _) ?_); rintro e w9 ⟨rfl, hb9⟩; first | ((with_reducible apply kp_in_step (hb := hb9)); (with_reducible assumption); rintro ⟨hk, hc, hf, hzc, hzf⟩) | ((with_reducible refine kp_in_first hb9 ?_); rintro ⟨hk, hc, hf, hzc, hzf⟩)))
    go_ret
    exact ⟨rfl, by (repeat (first | with_reducible exact Below.refl _ _ | with_reducible apply bl_alloc | with_reducible apply bl_drew | with_reducible apply bl_after | (with_reducible refine bl_call ?_ (by assumption))))⟩
  · clear hT h1 h3
    go_enter Tryz.func4, Tryz.ntmps4
    go_wp2_with (first | ((go_at_call 16); (with_reducible refine Calls.mono (hR.out _ (by (repeat (first | with_reducible exact Below.refl _ _ | with_reducible apply bl_alloc | with_reducible apply bl_drew | with_reducible apply bl_after | (with_reducible refine bl_call ?_ (by assumption)))))) ?_); rintro e wn ⟨rfl, hbn⟩; first | ((with_reducible apply kp_in_step (hb := hbn)); (with_reducible assumption); rintro ⟨hk, hc, hf, hzc, hzf⟩) | ((with_reducible refine kp_in_first hbn ?_); rintro ⟨hk, hc, hf, hzc, hzf⟩)) | ((go_at_call 17); (with_reducible refine Calls.mono (hP.out _ (by (repeat (first | with_reducible exact Below.refl _ _ | with_reducible apply bl_alloc | with_reducible apply bl_drew | with_reducible apply bl_after | (with_reducible refine bl_call ?_ (by assumption)))))) ?_); rintro e wn ⟨rfl, hbn⟩; first | ((with_reducible apply kp_in_step (hb := hbn)); (with_reducible assumption); rintro ⟨hk, hc, hf, hzc, hzf⟩) | ((with_reducible refine kp_in_first hbn ?_); rintro ⟨hk, hc, hf, hzc, hzf⟩)) | ((go_at_call 18); (with_reducible refine Calls.mono (hT.out _ (by (repeat (first | with_reducible exact Below.refl _ _ | with_reducible apply bl_alloc | with_reducible apply bl_drew | with_reducible apply bl_after | (with_reducible refine bl_call ?_ (by assumption)))))) ?_); rintro e wn ⟨rfl, hbn⟩; first | ((with_reducible apply kp_in_step (hb := hbn)); (with_reducible assumption); rintro ⟨hk, hc, hf, hzc, hzf⟩) | ((with_reducible refine kp_in_first hbn ?_); rintro ⟨hk, hc, hf, hzc, hzf⟩)) | (go_at_call 19; with_reducible refine Calls.mono (hD.out _) ?_; rintro e w' ⟨rfl, rfl⟩) | ((go_at_call 20); (with_reducible refine Calls.mono (hI1.out _) ?_); rintro e wn ⟨rfl, hbn⟩; first | ((with_reducible apply kp_in_step (hb := hbn)); (with_reducible assumption); rintro ⟨hk, hc, hf, hzc, hzf⟩) | ((with_reducible refine kp_in_first hbn ?_); rintro ⟨hk, hc, hf, hzc, hzf⟩)) | ((go_at_call 20); (with_reducible refine Calls.mono (hI2.out _) ?_); rintro e wn ⟨rfl, hbn⟩; first | ((with_reducible apply kp_in_step (hb := hbn)); (with_reducible assumption); rintro ⟨hk, hc, hf, hzc, hzf⟩) | ((with_reducible refine kp_in_first hbn ?_); rintro ⟨hk, hc, hf, hzc, hzf⟩)) | ((go_at_call 7); (with_reducible refine Calls.mono (works4 _) ?_); rintro e w9 ⟨rfl, hb9⟩; first | ((with_reducible apply kp_in_step (hb := hb9)); (with_reducible assumption); rintro ⟨hk, hc, hf, hzc, hzf⟩) | ((with_reducible refine kp_in_first hb9 ?_); rintro ⟨hk, hc, hf, hzc, hzf⟩)))
    go_ret
    exact ⟨rfl, by (repeat (first | with_reducible exact Below.refl _ _ | with_reducible apply bl_alloc | with_reducible apply bl_drew | with_reducible apply bl_after | (with_reducible refine bl_call ?_ (by assumption))))⟩
  all_goals
    replace hT := hT h1
    rw [h3 h1] at hT
    replace hT := Lib.hid hT
    clear h1 h3
    go_enter Tryz.func4, Tryz.ntmps4
    go_wp2_with (first | ((go_at_call 16); (with_reducible refine Calls.mono (hR.out _ (by (repeat (first | with_reducible exact Below.refl _ _ | with_reducible apply bl_alloc | with_reducible apply bl_drew | with_reducible apply bl_after | (with_reducible refine bl_call ?_ (by assumption)))))) ?_); rintro e wn ⟨rfl, hbn⟩; first | ((with_reducible apply kp_in_step (hb := hbn)); (with_reducible assumption); rintro ⟨hk, hc, hf, hzc, hzf⟩) | ((with_reducible refine kp_in_first hbn ?_); rintro ⟨hk, hc, hf, hzc, hzf⟩)) | ((go_at_call 17); (with_reducible refine Calls.mono (hP.out _ (by (repeat (first | with_reducible exact Below.refl _ _ | with_reducible apply bl_alloc | with_reducible apply bl_drew | with_reducible apply bl_after | (with_reducible refine bl_call ?_ (by assumption)))))) ?_); rintro e wn ⟨rfl, hbn⟩; first | ((with_reducible apply kp_in_step (hb := hbn)); (with_reducible assumption); rintro ⟨hk, hc, hf, hzc, hzf⟩) | ((with_reducible refine kp_in_first hbn ?_); rintro ⟨hk, hc, hf, hzc, hzf⟩)) | ((go_at_call 18); (with_reducible refine Calls.mono (hT.out _ (by (repeat (first | with_reducible exact Below.refl _ _ | with_reducible apply bl_alloc | with_reducible apply bl_drew | with_reducible apply bl_after | (with_reducible refine bl_call ?_ (by assumption)))))) ?_); rintro e wn ⟨rfl, hbn⟩; first | ((with_reducible apply kp_in_step (hb := hbn)); (with_reducible assumption); rintro ⟨hk, hc, hf, hzc, hzf⟩) | ((with_reducible refine kp_in_first hbn ?_); rintro ⟨hk, hc, hf, hzc, hzf⟩)) | (go_at_call 19; with_reducible refine Calls.mono (hD.out _) ?_; rintro e w' ⟨rfl, rfl⟩) | ((go_at_call 20); (with_reducible refine Calls.mono (hI1.out _) ?_); rintro e wn ⟨rfl, hbn⟩; first | ((with_reducible apply kp_in_step (hb := hbn)); (with_reducible assumption); rintro ⟨hk, hc, hf, hzc, hzf⟩) | ((with_reducible refine kp_in_first hbn ?_); rintro ⟨hk, hc, hf, hzc, hzf⟩)) | ((go_at_call 20); (with_reducible refine Calls.mono (hI2.out _) ?_); rintro e wn ⟨rfl, hbn⟩; first | ((with_reducible apply kp_in_step (hb := hbn)); (with_reducible assumption); rintro ⟨hk, hc, hf, hzc, hzf⟩) | ((with_reducible refine kp_in_first hbn ?_); rintro ⟨hk, hc, hf, hzc, hzf⟩)) | ((go_at_call 7); (with_reducible refine Calls.mono (works4 _) ?_); rintro e w9 ⟨rfl, hb9⟩; first | ((with_reducible apply kp_in_step (hb := hb9)); (with_reducible assumption); rintro ⟨hk, hc, hf, hzc, hzf⟩) | ((with_reducible refine kp_in_first hb9 ?_); rintro ⟨hk, hc, hf, hzc, hzf⟩)))
    go_ret
    exact ⟨rfl, by (repeat (first | with_reducible exact Below.refl _ _ | with_reducible apply bl_alloc | with_reducible apply bl_drew | with_reducible apply bl_after | (with_reducible refine bl_call ?_ (by assumption))))⟩
set_option maxRecDepth 100000 in
set_option maxHeartbeats 8000000 in
theorem lawTrue_ok (A B : Option Addr) (ca cb : Nat) (S : Sht) (l : List Pt) (f a b : Pt) (d o : Int) (w : World) (ha : Cts w A S.cs) (hla : S.cs.length ≤ 9223372036854775807) (hb : Pts w B l) (hlb : l.length ≤ 9223372036854775807)
    (h1 : rdyB S = true) (h2 : polB l = true) (h3 : truB S f = true) (h4 : deedB d o = true) (h5 : isPt a = true) (h6 : isPt b = true) :
    Calls Tryz.prog 4 #[(Value.agg #[(Value.int .i64 (S.xlo)), (Value.int .i64 (S.xhi)), (Value.int .i64 (S.ylo)), (Value.int .i64 (S.yhi)), .slice A S.cs.length ca, (Value.int .i64 (S.wrong))]), .slice B l.length cb, .agg #[(Value.int .i64 (f.1)), (Value.int .i64 (f.2)), (Value.int .i64 (d)), (Value.int .i64 (o)), (Value.int .i64 (a.1)), (Value.int .i64 (a.2)), (Value.int .i64 (b.1)), (Value.int .i64 (b.2))]] w fun e w' => e = .returned (.bool true) ∧ Below w.heap.size w w' := by
  have h0 : shtB S = true := by simp only [rdyB, Bool.and_eq_true] at h1; exact h1.2
  have hS := sht_ok h0
  have hR := fun (W : World) (h : Below w.heap.size w W) => ready4 A ca S W (ha.below h) hla
  have hP := fun (W : World) (h : Below w.heap.size w W) => isPolygon4 B cb l W (hb.below h) hlb
  have hT := fun (W : World) (hw : Below w.heap.size w W) => rIsTruth4 A ca S hS f W (ha.below hw)
  have hD := fun (W : World) => rIsDeed4 d o W
  have hI1 := fun (W : World) => rIsPoint_any a W
  have hI2 := fun (W : World) => rIsPoint_any b W
  have hok := polB_ok.1 h2
  have hft : f ∈ trs S := mem_trs.2 h3
  have hab : lnB a b = true := by rw [lnB, h5, h6]; rfl
  have HH := Lib.hid (And.intro h0 (And.intro hok (And.intro hft (And.intro h4 hab))))
  rw [h1] at hR
  rw [h2] at hP
  rw [h3] at hT
  rw [h4] at hD
  rw [h5] at hI1
  rw [h6] at hI2
  replace hR := Lib.hid hR
  replace hP := Lib.hid hP
  replace hT := Lib.hid hT
  replace hD := Lib.hid hD
  replace hI1 := Lib.hid hI1
  replace hI2 := Lib.hid hI2
  have hl10 := hok.1
  have h8 := hS.len
  have c1 : Blk ((w.alloc (.cells #[(Value.int .i64 (S.xlo)), (Value.int .i64 (S.xhi)), (Value.int .i64 (S.ylo)), (Value.int .i64 (S.yhi)), .slice A S.cs.length ca, (Value.int .i64 (S.wrong))] 26)).alloc (.cells #[(Value.int .i64 (f.1)), (Value.int .i64 (f.2)), (Value.int .i64 (d)), (Value.int .i64 (o)), (Value.int .i64 (a.1)), (Value.int .i64 (a.2)), (Value.int .i64 (b.1)), (Value.int .i64 (b.2))] 48)) w.heap.size 26 #[(Value.int .i64 (S.xlo)), (Value.int .i64 (S.xhi)), (Value.int .i64 (S.ylo)), (Value.int .i64 (S.yhi)), .slice A S.cs.length ca, (Value.int .i64 (S.wrong))] := (Blk.new _ _ _).alloc _
  have c2 : Blk ((w.alloc (.cells #[(Value.int .i64 (S.xlo)), (Value.int .i64 (S.xhi)), (Value.int .i64 (S.ylo)), (Value.int .i64 (S.yhi)), .slice A S.cs.length ca, (Value.int .i64 (S.wrong))] 26)).alloc (.cells #[(Value.int .i64 (f.1)), (Value.int .i64 (f.2)), (Value.int .i64 (d)), (Value.int .i64 (o)), (Value.int .i64 (a.1)), (Value.int .i64 (a.2)), (Value.int .i64 (b.1)), (Value.int .i64 (b.2))] 48)) (w.heap.size + 1) 48 #[(Value.int .i64 (f.1)), (Value.int .i64 (f.2)), (Value.int .i64 (d)), (Value.int .i64 (o)), (Value.int .i64 (a.1)), (Value.int .i64 (a.2)), (Value.int .i64 (b.1)), (Value.int .i64 (b.2))] := Blk.new_at (by simp)
  have hb0 : Below w.heap.size w ((w.alloc (.cells #[(Value.int .i64 (S.xlo)), (Value.int .i64 (S.xhi)), (Value.int .i64 (S.ylo)), (Value.int .i64 (S.yhi)), .slice A S.cs.length ca, (Value.int .i64 (S.wrong))] 26)).alloc (.cells #[(Value.int .i64 (f.1)), (Value.int .i64 (f.2)), (Value.int .i64 (d)), (Value.int .i64 (o)), (Value.int .i64 (a.1)), (Value.int .i64 (a.2)), (Value.int .i64 (b.1)), (Value.int .i64 (b.2))] 48)) := by (repeat (first | with_reducible exact Below.refl _ _ | with_reducible apply bl_alloc | with_reducible apply bl_drew | with_reducible apply bl_after | (with_reducible refine bl_call ?_ (by assumption))))
  (have la := c1.lt); (have ya0 := c1.cell 0); (have ya1 := c1.cell 1); (have ya2 := c1.cell 2); (have ya3 := c1.cell 3); (have ya4 := c1.cell 4); (have ya5 := c1.cell 5); simp only [List.getElem?_toArray, List.getElem?_cons_zero, List.getElem?_cons_succ] at ya0 ya1 ya2 ya3 ya4 ya5
  (have lb := c2.lt); (have yb0 := c2.cell 0); (have yb1 := c2.cell 1); (have yb2 := c2.cell 2); (have yb3 := c2.cell 3); (have yb4 := c2.cell 4); (have yb5 := c2.cell 5); (have yb6 := c2.cell 6); (have yb7 := c2.cell 7); simp only [List.getElem?_toArray, List.getElem?_cons_zero, List.getElem?_cons_succ] at yb0 yb1 yb2 yb3 yb4 yb5 yb6 yb7
  clear h0 h1 h2 h3 h4 h5 h6 hla hlb hok hft hab hS
  go_enter Tryz.func4, Tryz.ntmps4
  go_upto_region 3 with (first | ((go_at_call 16); (with_reducible refine Calls.mono (hR.out _ (by (repeat (first | with_reducible exact Below.refl _ _ | with_reducible apply bl_alloc | with_reducible apply bl_drew | with_reducible apply bl_after | (with_reducible refine bl_call ?_ (by assumption)))))) ?_); rintro e wn ⟨rfl, hbn⟩; first | ((with_reducible apply kp_in_step (hb := hbn)); (with_reducible assumption); rintro ⟨hk, hc, hf, hzc, hzf⟩) | ((with_reducible refine kp_in_first hbn ?_); rintro ⟨hk, hc, hf, hzc, hzf⟩)) | ((go_at_call 17); (with_reducible refine Calls.mono (hP.out _ (by (repeat (first | with_reducible exact Below.refl _ _ | with_reducible apply bl_alloc | with_reducible apply bl_drew | with_reducible apply bl_after | (with_reducible refine bl_call ?_ (by assumption)))))) ?_); rintro e wn ⟨rfl, hbn⟩; first | ((with_reducible apply kp_in_step (hb := hbn)); (with_reducible assumption); rintro ⟨hk, hc, hf, hzc, hzf⟩) | ((with_reducible refine kp_in_first hbn ?_); rintro ⟨hk, hc, hf, hzc, hzf⟩)) | ((go_at_call 18); (with_reducible refine Calls.mono (hT.out _ (by (repeat (first | with_reducible exact Below.refl _ _ | with_reducible apply bl_alloc | with_reducible apply bl_drew | with_reducible apply bl_after | (with_reducible refine bl_call ?_ (by assumption)))))) ?_); rintro e wn ⟨rfl, hbn⟩; first | ((with_reducible apply kp_in_step (hb := hbn)); (with_reducible assumption); rintro ⟨hk, hc, hf, hzc, hzf⟩) | ((with_reducible refine kp_in_first hbn ?_); rintro ⟨hk, hc, hf, hzc, hzf⟩)) | (go_at_call 19; with_reducible refine Calls.mono (hD.out _) ?_; rintro e w' ⟨rfl, rfl⟩) | ((go_at_call 20); (with_reducible refine Calls.mono (hI1.out _) ?_); rintro e wn ⟨rfl, hbn⟩; first | ((with_reducible apply kp_in_step (hb := hbn)); (with_reducible assumption); rintro ⟨hk, hc, hf, hzc, hzf⟩) | ((with_reducible refine kp_in_first hbn ?_); rintro ⟨hk, hc, hf, hzc, hzf⟩)) | ((go_at_call 20); (with_reducible refine Calls.mono (hI2.out _) ?_); rintro e wn ⟨rfl, hbn⟩; first | ((with_reducible apply kp_in_step (hb := hbn)); (with_reducible assumption); rintro ⟨hk, hc, hf, hzc, hzf⟩) | ((with_reducible refine kp_in_first hbn ?_); rintro ⟨hk, hc, hf, hzc, hzf⟩)) | ((go_at_call 7); (with_reducible refine Calls.mono (works4 _) ?_); rintro e w9 ⟨rfl, hb9⟩; first | ((with_reducible apply kp_in_step (hb := hb9)); (with_reducible assumption); rintro ⟨hk, hc, hf, hzc, hzf⟩) | ((with_reducible refine kp_in_first hb9 ?_); rintro ⟨hk, hc, hf, hzc, hzf⟩)))
  have hWn : Below (((w.alloc (.cells #[(Value.int .i64 (S.xlo)), (Value.int .i64 (S.xhi)), (Value.int .i64 (S.ylo)), (Value.int .i64 (S.yhi)), .slice A S.cs.length ca, (Value.int .i64 (S.wrong))] 26)).alloc (.cells #[(Value.int .i64 (f.1)), (Value.int .i64 (f.2)), (Value.int .i64 (d)), (Value.int .i64 (o)), (Value.int .i64 (a.1)), (Value.int .i64 (a.2)), (Value.int .i64 (b.1)), (Value.int .i64 (b.2))] 48))).heap.size ((w.alloc (.cells #[(Value.int .i64 (S.xlo)), (Value.int .i64 (S.xhi)), (Value.int .i64 (S.ylo)), (Value.int .i64 (S.yhi)), .slice A S.cs.length ca, (Value.int .i64 (S.wrong))] 26)).alloc (.cells #[(Value.int .i64 (f.1)), (Value.int .i64 (f.2)), (Value.int .i64 (d)), (Value.int .i64 (o)), (Value.int .i64 (a.1)), (Value.int .i64 (a.2)), (Value.int .i64 (b.1)), (Value.int .i64 (b.2))] 48)) wn := by (repeat (first | with_reducible exact Below.refl _ _ | with_reducible apply bl_alloc | with_reducible apply bl_drew | with_reducible apply bl_after | (with_reducible refine bl_call ?_ (by assumption))))
  have e1 := c1.below hWn
  have e2 := c2.below hWn
  have hbV := bl_call hb0 hWn
  have hA := ha.below hbV
  have hB := hb.below hbV
  clear la ya0 ya1 ya2 ya3 ya4 ya5 lb yb0 yb1 yb2 yb3 yb4 yb5 yb6 yb7 c1 c2 hWn hbn hb0 ha hb hR hP hT hD hI1 hI2
  ((try clear hk hc hf hzc hzf); (try clear hk hc hf hzc hzf); (try clear hk hc hf hzc hzf); (try clear hk hc hf hzc hzf))
  (have la := e1.lt); (have ya0 := e1.cell 0); (have ya1 := e1.cell 1); (have ya2 := e1.cell 2); (have ya3 := e1.cell 3); (have ya4 := e1.cell 4); (have ya5 := e1.cell 5); simp only [List.getElem?_toArray, List.getElem?_cons_zero, List.getElem?_cons_succ] at ya0 ya1 ya2 ya3 ya4 ya5
  obtain ⟨h0, hok, hft, hdd, hab⟩ := HH.out
  obtain ⟨u1, u2⟩ := tp_fc h0 hft 1 rfl
  obtain ⟨u3, u4⟩ := tp_fc h0 hft 2 rfl
  have hw1 : wayB 1 = true := rfl
  have hw2 : wayB 2 = true := rfl
  have o1 := tp_op h0 hft true rfl
  have q1 := tp_al h0 hft
  obtain ⟨o2, q2⟩ := tp_ag h0 hft hok hdd
  obtain ⟨o3, q3, q4, q5⟩ := tp_ar h0 hft hok
  obtain ⟨o4, q6, q7, q8⟩ := tp_ln h0 hft hab
  obtain ⟨u5, u6⟩ := tp_str h0 hft
  have hfo := trs_ok (sht_ok h0) hft
  have hF1 := fun (V : World) (h : Below wn.heap.size wn V) => Factors_any A ca S 1 V (hA.below h)
  have hF2 := fun (V : World) (h : Below wn.heap.size wn V) => Factors_any A ca S 2 V (hA.below h)
  have hAr := fun (V : World) (h : Below wn.heap.size wn V) => Area_any A B ca cb S l V (hA.below h) (hB.below h) (by omega)
  have hLn := fun (V : World) (h : Below wn.heap.size wn V) => Length_any A ca S a b V (hA.below h)
  have hAl := fun (V : World) (h : Below wn.heap.size wn V) => Alike_any A ca S V (hA.below h)
  have hAg := fun (V : World) (h : Below wn.heap.size wn V) => Agrees_any A B ca cb S l d o V (hA.below h) (hB.below h) (by omega)
  have hSt := fun (V : World) (h : Below wn.heap.size wn V) => Strange_any A ca S V (hA.below h)
  have hSq := fun (V : World) => rSquare4 a b f hab hfo V
  have hIr := Lib.hid fun (i : Nat) (hi : i < S.cs.length) (V : World) => rIsRight_any f (cat S.cs i) hfo ((sht_ok h0).all _ (cat_mem hi)).2 V
  have hae := fun (V : World) => rAgree4 (tw l) (abT l) d o rfl (tw_bd hok) f (agbd (abT_bd hok) hdd hfo) V
  obtain ⟨bp, op, hBp, pp⟩ := hB.ok hok
  subst hBp
  have hTw := Lib.hid fun (V : World) (h : Below wn.heap.size wn V) => TwiceOf_any bp op cb l V (pp.below h) hok.1.1 hok.1.2 hok.2.1
  rw [hw1, o1] at hF1
  rw [hw2, o1] at hF2
  rw [o3] at hAr
  rw [o4] at hLn
  rw [o1] at hAl hSt
  rw [o2] at hAg
  have htw := tw_bd2 hok
  have hab2 := abT_bd2 hok
  have hff := ff_bd hfo
  have hnb : (0 ≤ (lnQ a b f).1 ∧ (lnQ a b f).1 ≤ 1000000000000000000) ∧ (0 < (lnQ a b f).2 ∧ (lnQ a b f).2 ≤ 10000000000000) := sqQ_ok (lnQ_bd hab hfo)
  have hnq := (fr_bd (q := lnQ a b f) hnb).1
  have hnl : low (lnQ a b f) = (lnQ a b f).1.tdiv (lnQ a b f).2 := rfl
  rw [hnl] at hnq
  have hAb := Lib.hid fun (V : World) => (show Calls Tryz.prog 29 #[(Value.int .i64 (tw l))] V fun e w' => e = .returned (Value.int .i64 (abT l)) ∧ V = w' from labs4 (tw l) (by omega) V)
  have hSn1 := Lib.hid fun (V : World) => sane4 (arLo S l) (arHi S l) q3 V
  have hSn2 := Lib.hid fun (V : World) => sane4 (lnLo S a b) (lnHi S a b) q6 V
  have hal := Lib.hid fun (V : World) => (show Calls Tryz.prog 31 #[(Value.int .i64 (alV S)), .bool (f.1 == f.2)] V fun e w' => e = .returned (.bool true) ∧ V = w' from agrees4 (alV S) (alB f) q1 V)
  have HA0 := Lib.hid hA
  have hag := Lib.hid fun (V : World) => agrees4 (agV S l d o) (agB (abT l) d o f) q2 V
  have hx1 := Lib.hid (show f.1 ∈ fcV S 1 from u1)
  have hx2 := Lib.hid (show f.2 ∈ fcV S 2 from u3)
  have hx6 := Lib.hid u6
  simp only [saneB, Bool.and_eq_true, decide_eq_true_eq] at q3 q6
  generalize fcV S 1 = F1 at *
  generalize fcV S 2 = F2 at *
  generalize arLo S l = alo at *
  generalize arHi S l = ahi at *
  generalize lnLo S a b = llo at *
  generalize lnHi S a b = lhi at *
  generalize (lnQ a b f).1 = nu at *
  generalize (lnQ a b f).2 = de at *
  generalize alV S = av at *
  generalize agV S l d o = gv at *
  generalize agB (abT l) d o f = gb at *
  generalize strV S = sv at *
  have zB : IntKind.i64.wrap (f.1 * f.2) = f.1 * f.2 := IntWalk.i64_in _ (by omega)
  have g1 : 0 ≤ alo * (f.1 * f.2) := Int.mul_nonneg (by omega) (by omega)
  have g2 : 0 ≤ ahi * (f.1 * f.2) ∧ ahi * (f.1 * f.2) ≤ 1073741824 * 1210000 := ⟨Int.mul_nonneg (by omega) (by omega), Int.mul_le_mul (by omega) hff.2 (by omega) (by omega)⟩
  have zC : IntKind.i64.wrap (alo * (f.1 * f.2)) = alo * (f.1 * f.2) := IntWalk.i64_in _ (by omega)
  have zD : IntKind.i64.wrap (ahi * (f.1 * f.2)) = ahi * (f.1 * f.2) := IntWalk.i64_in _ (by omega)
  have zE : IntKind.i64.wrap (abT l * 1000000) = abT l * 1000000 := IntWalk.i64_in _ (by omega)
  have zQ : IntKind.i64.wrap (nu.tdiv de) = nu.tdiv de := IntWalk.i64_in _ (by omega)
  have zS : IntKind.i64.wrap (nu - 1) = nu - 1 := IntWalk.i64_in _ (by omega)
  have hde : ¬ de = 0 := by omega
  have i40 : ¬ (40 : Int) < (sv.length : Int) := by omega
  have HN := Lib.hid (And.intro hnb (And.intro q4 (And.intro q5 (And.intro q7 q8))))
  replace hF1 := Lib.hid hF1
  replace hF2 := Lib.hid hF2
  replace hAr := Lib.hid hAr
  replace hLn := Lib.hid hLn
  replace hAl := Lib.hid hAl
  replace hAg := Lib.hid hAg
  replace hSt := Lib.hid hSt
  replace hSq := Lib.hid hSq
  replace hae := Lib.hid hae
  clear h0 hok hft hdd hab u1 u3 u6 hw1 hw2 o1 o2 o3 o4 q1 q2 q3 q4 q5 q6 q7 q8 hfo htw hab2 hff hnb hnq hnl g1 g2 hA hB pp HH
  have hV0 : Below wn.heap.size wn wn := Below.refl _ _
  go_upto_region 5 with (first | ((go_at_call 21); (with_reducible refine Calls.mono (hF1.out _ hV0) ?_); rintro e3 w3 ⟨⟨A3, c3, rfl, hJ1⟩, hb3⟩; (have hV3 := bl_call hV0 hb3); first | ((with_reducible apply kp_in_step (hb := hb3)); (with_reducible assumption); rintro ⟨hk, hc, hf, hzc, hzf⟩) | ((with_reducible refine kp_in_first hb3 ?_); rintro ⟨hk, hc, hf, hzc, hzf⟩)) | ((go_at_call 21); (with_reducible refine Calls.mono (hF2.out _ hV3) ?_); rintro e4 w4 ⟨⟨A4, c4, rfl, hJ2⟩, hb4⟩; (have hV4 := bl_call hV3 hb4); (have hJ14 := hJ1.below hb4); first | ((with_reducible apply kp_in_step (hb := hb4)); (with_reducible assumption); rintro ⟨hk, hc, hf, hzc, hzf⟩) | ((with_reducible refine kp_in_first hb4 ?_); rintro ⟨hk, hc, hf, hzc, hzf⟩)))
  have hW4 : Below wn.heap.size wn w4 := hV4
  replace e1 := e1.below hW4
  replace e2 := e2.below hW4
  clear la ya0 ya1 ya2 ya3 ya4 ya5 hb3 hb4 hV0 hV3 hJ1 hF1 hF2 hW4
  ((try clear hk hc hf hzc hzf); (try clear hk hc hf hzc hzf); (try clear hk hc hf hzc hzf); (try clear hk hc hf hzc hzf))
  (have la := e1.lt); (have ya0 := e1.cell 0); (have ya1 := e1.cell 1); (have ya2 := e1.cell 2); (have ya3 := e1.cell 3); (have ya4 := e1.cell 4); (have ya5 := e1.cell 5); simp only [List.getElem?_toArray, List.getElem?_cons_zero, List.getElem?_cons_succ] at ya0 ya1 ya2 ya3 ya4 ya5
  go_upto_region 6 with ((go_at_call 10); (with_reducible refine Calls.mono (hAr.out _ hV4) ?_); rintro e5 w5 ⟨rfl, hb5⟩; first | ((with_reducible apply kp_in_step (hb := hb5)); (with_reducible assumption); rintro ⟨hk, hc, hf, hzc, hzf⟩) | ((with_reducible refine kp_in_first hb5 ?_); rintro ⟨hk, hc, hf, hzc, hzf⟩))
  have hW5 : Below w4.heap.size w4 (w5.alloc (.cells #[(Value.int .i64 (alo)), (Value.int .i64 (ahi))] 23)) := bl_alloc hb5
  have hV5 := bl_alloc (o := (.cells #[(Value.int .i64 (alo)), (Value.int .i64 (ahi))] 23)) (bl_call hV4 hb5)
  have s5 := Blk.new w5 23 #[(Value.int .i64 (alo)), (Value.int .i64 (ahi))]
  replace e1 := e1.below hW5
  replace e2 := e2.below hW5
  replace hJ14 := hJ14.below hW5
  replace hJ2 := hJ2.below hW5
  clear la ya0 ya1 ya2 ya3 ya4 ya5 hb5 hV4 hAr hW5
  ((try clear hk hc hf hzc hzf); (try clear hk hc hf hzc hzf); (try clear hk hc hf hzc hzf); (try clear hk hc hf hzc hzf))
  generalize w5.alloc (.cells #[(Value.int .i64 (alo)), (Value.int .i64 (ahi))] 23) = w6 at *
  generalize w5.heap.size = g5 at *
  (have la := e1.lt); (have ya0 := e1.cell 0); (have ya1 := e1.cell 1); (have ya2 := e1.cell 2); (have ya3 := e1.cell 3); (have ya4 := e1.cell 4); (have ya5 := e1.cell 5); simp only [List.getElem?_toArray, List.getElem?_cons_zero, List.getElem?_cons_succ] at ya0 ya1 ya2 ya3 ya4 ya5
  (have lb := e2.lt); (have yb0 := e2.cell 0); (have yb1 := e2.cell 1); (have yb2 := e2.cell 2); (have yb3 := e2.cell 3); (have yb4 := e2.cell 4); (have yb5 := e2.cell 5); (have yb6 := e2.cell 6); (have yb7 := e2.cell 7); simp only [List.getElem?_toArray, List.getElem?_cons_zero, List.getElem?_cons_succ] at yb0 yb1 yb2 yb3 yb4 yb5 yb6 yb7
  go_upto_region 7 with ((go_at_call 12); (with_reducible refine Calls.mono (hLn.out _ hV5) ?_); rintro e7 w7 ⟨rfl, hb7⟩; first | ((with_reducible apply kp_in_step (hb := hb7)); (with_reducible assumption); rintro ⟨hk, hc, hf, hzc, hzf⟩) | ((with_reducible refine kp_in_first hb7 ?_); rintro ⟨hk, hc, hf, hzc, hzf⟩))
  have hW7 : Below w6.heap.size w6 (w7.alloc (.cells #[(Value.int .i64 (llo)), (Value.int .i64 (lhi))] 23)) := bl_alloc hb7
  have hV7 := bl_alloc (o := (.cells #[(Value.int .i64 (llo)), (Value.int .i64 (lhi))] 23)) (bl_call hV5 hb7)
  have s7 := Blk.new w7 23 #[(Value.int .i64 (llo)), (Value.int .i64 (lhi))]
  replace e1 := e1.below hW7
  replace e2 := e2.below hW7
  replace s5 := s5.below hW7
  replace hJ14 := hJ14.below hW7
  replace hJ2 := hJ2.below hW7
  clear la ya0 ya1 ya2 ya3 ya4 ya5 lb yb0 yb1 yb2 yb3 yb4 yb5 yb6 yb7 hb7 hV5 hLn hW7
  ((try clear hk hc hf hzc hzf); (try clear hk hc hf hzc hzf); (try clear hk hc hf hzc hzf); (try clear hk hc hf hzc hzf))
  generalize w7.alloc (.cells #[(Value.int .i64 (llo)), (Value.int .i64 (lhi))] 23) = w8 at *
  generalize w7.heap.size = g7 at *
  (have la := e1.lt); (have ya0 := e1.cell 0); (have ya1 := e1.cell 1); (have ya2 := e1.cell 2); (have ya3 := e1.cell 3); (have ya4 := e1.cell 4); (have ya5 := e1.cell 5); simp only [List.getElem?_toArray, List.getElem?_cons_zero, List.getElem?_cons_succ] at ya0 ya1 ya2 ya3 ya4 ya5
  (have lb := e2.lt); (have yb0 := e2.cell 0); (have yb1 := e2.cell 1); (have yb2 := e2.cell 2); (have yb3 := e2.cell 3); (have yb4 := e2.cell 4); (have yb5 := e2.cell 5); (have yb6 := e2.cell 6); (have yb7 := e2.cell 7); simp only [List.getElem?_toArray, List.getElem?_cons_zero, List.getElem?_cons_succ] at yb0 yb1 yb2 yb3 yb4 yb5 yb6 yb7
  go_upto_region 10 with (first | ((go_at_call 22); (with_reducible refine Calls.mono (hAl.out _ hV7) ?_); rintro e9 w9 ⟨rfl, hb9⟩; (have hV9 := bl_call hV7 hb9); first | ((with_reducible apply kp_in_step (hb := hb9)); (with_reducible assumption); rintro ⟨hk, hc, hf, hzc, hzf⟩) | ((with_reducible refine kp_in_first hb9 ?_); rintro ⟨hk, hc, hf, hzc, hzf⟩)) | ((go_at_call 23); (with_reducible refine Calls.mono (hAg.out _ hV9) ?_); rintro e10 w10 ⟨rfl, hb10⟩; (have hV10 := bl_call hV9 hb10); first | ((with_reducible apply kp_in_step (hb := hb10)); (with_reducible assumption); rintro ⟨hk, hc, hf, hzc, hzf⟩) | ((with_reducible refine kp_in_first hb10 ?_); rintro ⟨hk, hc, hf, hzc, hzf⟩)) | ((go_at_call 24); (with_reducible refine Calls.mono (hSt.out _ hV10) ?_); rintro e11 w11 ⟨⟨A11, c11, rfl, hJ3⟩, hb11⟩; (have hV11 := bl_call hV10 hb11); first | ((with_reducible apply kp_in_step (hb := hb11)); (with_reducible assumption); rintro ⟨hk, hc, hf, hzc, hzf⟩) | ((with_reducible refine kp_in_first hb11 ?_); rintro ⟨hk, hc, hf, hzc, hzf⟩)))
  have hW11 : Below w8.heap.size w8 w11 := bl_call (bl_call hb9 hb10) hb11
  replace e1 := e1.below hW11
  replace e2 := e2.below hW11
  replace s5 := s5.below hW11
  replace s7 := s7.below hW11
  replace hJ14 := hJ14.below hW11
  replace hJ2 := hJ2.below hW11
  clear la ya0 ya1 ya2 ya3 ya4 ya5 lb yb0 yb1 yb2 yb3 yb4 yb5 yb6 yb7 hb9 hb10 hb11 hV7 hV9 hV10 hAl hAg hSt hW11
  ((try clear hk hc hf hzc hzf); (try clear hk hc hf hzc hzf); (try clear hk hc hf hzc hzf); (try clear hk hc hf hzc hzf))
  (have lb := e2.lt); (have yb0 := e2.cell 0); (have yb1 := e2.cell 1); (have yb2 := e2.cell 2); (have yb3 := e2.cell 3); (have yb4 := e2.cell 4); (have yb5 := e2.cell 5); (have yb6 := e2.cell 6); (have yb7 := e2.cell 7); simp only [List.getElem?_toArray, List.getElem?_cons_zero, List.getElem?_cons_succ] at yb0 yb1 yb2 yb3 yb4 yb5 yb6 yb7
  (have ld := s5.lt); (have yd0 := s5.cell 0); (have yd1 := s5.cell 1); simp only [List.getElem?_toArray, List.getElem?_cons_zero, List.getElem?_cons_succ] at yd0 yd1
  (have le := s7.lt); (have ye0 := s7.cell 0); (have ye1 := s7.cell 1); simp only [List.getElem?_toArray, List.getElem?_cons_zero, List.getElem?_cons_succ] at ye0 ye1
  have hi1 := Lib.hid (in4 A3 c3 F1 f.1 hx1.out w11 hJ14 (by omega))
  have hi2 := Lib.hid fun (V : World) (h : Below w11.heap.size w11 V) => in4 A4 c4 F2 f.2 hx2.out V (hJ2.below h) (by omega)
  clear hJ14 hJ2 hx1 hx2
  go_upto_region 12 with (first | ((go_at_call 25); (with_reducible refine Calls.mono hi1.out ?_); rintro e12 w12 ⟨rfl, hb12⟩; first | ((with_reducible apply kp_in_step (hb := hb12)); (with_reducible assumption); rintro ⟨hk, hc, hf, hzc, hzf⟩) | ((with_reducible refine kp_in_first hb12 ?_); rintro ⟨hk, hc, hf, hzc, hzf⟩)) | ((go_at_call 25); (with_reducible refine Calls.mono (hi2.out _ hb12) ?_); rintro e13 w13 ⟨rfl, hb13⟩; (have hb113 := bl_call hb12 hb13); first | ((with_reducible apply kp_in_step (hb := hb13)); (with_reducible assumption); rintro ⟨hk, hc, hf, hzc, hzf⟩) | ((with_reducible refine kp_in_first hb13 ?_); rintro ⟨hk, hc, hf, hzc, hzf⟩)) | ((go_at_call 26); (with_reducible refine Calls.mono (hSn1.out _) ?_); rintro e14 w14 ⟨rfl, hb14⟩; (have hb114 := bl_call hb113 hb14); first | ((with_reducible apply kp_in_step (hb := hb14)); (with_reducible assumption); rintro ⟨hk, hc, hf, hzc, hzf⟩) | ((with_reducible refine kp_in_first hb14 ?_); rintro ⟨hk, hc, hf, hzc, hzf⟩)) | ((go_at_call 26); (with_reducible refine Calls.mono (hSn2.out _) ?_); rintro e15 w15 ⟨rfl, hb15⟩; (have hb115 := bl_call hb114 hb15); first | ((with_reducible apply kp_in_step (hb := hb15)); (with_reducible assumption); rintro ⟨hk, hc, hf, hzc, hzf⟩) | ((with_reducible refine kp_in_first hb15 ?_); rintro ⟨hk, hc, hf, hzc, hzf⟩)))
  have hV15 := bl_call hV11 hb115
  replace e1 := e1.below hb115
  replace e2 := e2.below hb115
  replace s5 := s5.below hb115
  replace s7 := s7.below hb115
  have hJ4 := hJ3.below hb115
  clear lb yb0 yb1 yb2 yb3 yb4 yb5 yb6 yb7 ld yd0 yd1 le ye0 ye1 hi1 hi2 hb12 hb13 hb14 hb15 hb113 hb114 hb115 hSn1 hSn2 hJ3 hV11
  ((try clear hk hc hf hzc hzf); (try clear hk hc hf hzc hzf); (try clear hk hc hf hzc hzf); (try clear hk hc hf hzc hzf))
  (have lb := e2.lt); (have yb0 := e2.cell 0); (have yb1 := e2.cell 1); (have yb2 := e2.cell 2); (have yb3 := e2.cell 3); (have yb4 := e2.cell 4); (have yb5 := e2.cell 5); (have yb6 := e2.cell 6); (have yb7 := e2.cell 7); simp only [List.getElem?_toArray, List.getElem?_cons_zero, List.getElem?_cons_succ] at yb0 yb1 yb2 yb3 yb4 yb5 yb6 yb7
  go_upto_region 15 with (first | ((go_at_call 27); (with_reducible refine Calls.mono (hTw.out _ hV15) ?_); rintro e16 w16 ⟨rfl, hb16⟩; first | ((with_reducible apply kp_in_step (hb := hb16)); (with_reducible assumption); rintro ⟨hk, hc, hf, hzc, hzf⟩) | ((with_reducible refine kp_in_first hb16 ?_); rintro ⟨hk, hc, hf, hzc, hzf⟩)) | ((go_at_call 28); (with_reducible refine Calls.mono (hSq.out _) ?_); rintro e17 w17 ⟨rfl, hb17⟩; (have hb117 := bl_call hb16 hb17); first | ((with_reducible apply kp_in_step (hb := hb17)); (with_reducible assumption); rintro ⟨hk, hc, hf, hzc, hzf⟩) | ((with_reducible refine kp_in_first hb17 ?_); rintro ⟨hk, hc, hf, hzc, hzf⟩)))
  have hV17 := bl_call hV15 hb117
  replace e1 := e1.below hb117
  replace e2 := e2.below hb117
  replace s5 := s5.below hb117
  replace s7 := s7.below hb117
  replace hJ4 := hJ4.below hb117
  clear lb yb0 yb1 yb2 yb3 yb4 yb5 yb6 yb7 hb16 hb17 hb117 hTw hSq hV15
  ((try clear hk hc hf hzc hzf); (try clear hk hc hf hzc hzf); (try clear hk hc hf hzc hzf); (try clear hk hc hf hzc hzf))
  (have ld := s5.lt); (have yd0 := s5.cell 0); (have yd1 := s5.cell 1); simp only [List.getElem?_toArray, List.getElem?_cons_zero, List.getElem?_cons_succ] at yd0 yd1
  (have le := s7.lt); (have ye0 := s7.cell 0); (have ye1 := s7.cell 1); simp only [List.getElem?_toArray, List.getElem?_cons_zero, List.getElem?_cons_succ] at ye0 ye1
  clear s5 s7
  go_cut [225] (fun s225 wx => s225 = .bool false ∧ Below w17.heap.size w17 wx)
  case first =>
    obtain ⟨hnb, q4, q5, q7, q8⟩ := HN.out
    clear e1 e2 hJ4 hIr hal hag hae HN hx6 zB zS
    have zS : IntKind.i64.wrap (nu - 1) = nu - 1 := IntWalk.i64_in _ (by omega)
    have m1 : ¬ abT l * 1000000 < alo * (f.1 * f.2) := by omega
    have m2 : ¬ ahi * (f.1 * f.2) < abT l * 1000000 := by omega
    have m3 : ¬ nu.tdiv de < llo := by omega
    by_cases hn : 0 < nu
    · have q9 := q8 hn
      have zT : IntKind.i64.wrap ((nu - 1).tdiv de) = (nu - 1).tdiv de := IntWalk.i64_in _ (by
        have h1 := tdiv_bd (a := nu - 1) (b := de) (by omega) (by omega) (by omega)
        omega)
      have m4 : ¬ lhi ≤ (nu - 1).tdiv de := by omega
      clear q8 hnb
      refine wp_region_after (by kernel_rfl) (by kernel_rfl) ?_; (repeat (go_big_quiet_step (((go_at_call 29; with_reducible exact calls_after_same (hAb.out _)))))); refine wpQuiet_nil ?_; rintro _ ⟨z, rfl⟩; (first | ((with_reducible apply kp_in_after (z := z)); (with_reducible assumption); rintro ⟨hk, hc, hf, hzc, hzf⟩) | ((with_reducible refine kp_in_after0 z ?_); rintro ⟨hk, hc, hf, hzc, hzf⟩))
      go_wp2
      go_meet
      exact ⟨rfl, z.ok⟩
    · clear q8 hnb
      refine wp_region_after (by kernel_rfl) (by kernel_rfl) ?_; (repeat (go_big_quiet_step (((go_at_call 29; with_reducible exact calls_after_same (hAb.out _)))))); refine wpQuiet_nil ?_; rintro _ ⟨z, rfl⟩; (first | ((with_reducible apply kp_in_after (z := z)); (with_reducible assumption); rintro ⟨hk, hc, hf, hzc, hzf⟩) | ((with_reducible refine kp_in_after0 z ?_); rintro ⟨hk, hc, hf, hzc, hzf⟩))
      go_wp2
      go_meet
      exact ⟨rfl, z.ok⟩
  case rest =>
    obtain ⟨rfl, hb18⟩ := hcut
    have hV18 := bl_call hV17 hb18
    replace e1 := e1.below hb18
    replace e2 := e2.below hb18
    replace hJ4 := hJ4.below hb18
    clear ld yd0 yd1 le ye0 ye1 hb18 hV17 zB zC zD zE zQ zS hde i40 HN hAb
    go_wp2
    go_loopw [25] (fun i wr => ∃ k : Nat, k ≤ sv.length ∧ i = (Value.int .i64 ((k : Int))) ∧ Below wc.heap.size wc wr) (fun i _ => sv.length - (intOf i).toNat)
    case atStart => exact ⟨0, Nat.zero_le _, rfl, Below.refl _ _⟩
    case round =>
      obtain ⟨k, kn, rfl, hbr⟩ := hrel
      have v1 := e1.below hbr
      have v2 := e2.below hbr
      by_cases hlt : k < sv.length
      · obtain ⟨bq, oq, rfl, pq⟩ := (hJ4.below hbr).at_ hlt
        have x1 := pq.xi hlt
        have lq := pq.lt
        obtain ⟨j, hj, hjn, hjr⟩ := hx6.out (iat sv k) (by rw [← iat_eq hlt]; exact List.getElem_mem hlt)
        rw [hj] at x1
        have hAc := HA0.out.below (bl_call hV18 hbr)
        obtain ⟨b0, o0, rfl, p0⟩ := hAc.at_ hjn
        obtain ⟨l0, z0, z1, z2, z3⟩ := ctl_cells p0 hjn
        have hir := fun (V : World) => hIr.out j hjn V
        rw [hjr] at hir
        replace hir := Lib.hid hir
        have i1 : (k : Int) < (sv.length : Int) := by omega
        have i3 : decide (S.cs.length ≤ j) = false := decide_eq_false (by omega)
        have i4 : (j : Int) < (S.cs.length : Int) := by omega
        (have la := v1.lt); (have ya0 := v1.cell 0); (have ya1 := v1.cell 1); (have ya2 := v1.cell 2); (have ya3 := v1.cell 3); (have ya4 := v1.cell 4); (have ya5 := v1.cell 5); simp only [List.getElem?_toArray, List.getElem?_cons_zero, List.getElem?_cons_succ] at ya0 ya1 ya2 ya3 ya4 ya5
        (have lb := v2.lt); (have yb0 := v2.cell 0); (have yb1 := v2.cell 1); (have yb2 := v2.cell 2); (have yb3 := v2.cell 3); (have yb4 := v2.cell 4); (have yb5 := v2.cell 5); (have yb6 := v2.cell 6); (have yb7 := v2.cell 7); simp only [List.getElem?_toArray, List.getElem?_cons_zero, List.getElem?_cons_succ] at yb0 yb1 yb2 yb3 yb4 yb5 yb6 yb7
        clear v1 v2 pq p0 hAc hj hjr
        go_wp2
        refine wp_region_after (by kernel_rfl) (by kernel_rfl) ?_; (repeat (go_big_quiet_step (((go_at_call 30; with_reducible exact calls_after (hir.out _)))))); refine wpQuiet_nil ?_; rintro _ ⟨z, rfl⟩; (first | ((with_reducible apply kp_in_after (z := z)); (with_reducible assumption); rintro ⟨hk, hc, hf, hzc, hzf⟩) | ((with_reducible refine kp_in_after0 z ?_); rintro ⟨hk, hc, hf, hzc, hzf⟩))
        go_wp2
        go_roundw
        case rel => exact ⟨k + 1, by omega, by go_num, bl_after z hbr⟩
        case measure => simp [intOf]; omega
      · obtain rfl : k = sv.length := by omega
        (have lb := v2.lt); (have yb0 := v2.cell 0); (have yb1 := v2.cell 1); (have yb2 := v2.cell 2); (have yb3 := v2.cell 3); (have yb4 := v2.cell 4); (have yb5 := v2.cell 5); (have yb6 := v2.cell 6); (have yb7 := v2.cell 7); simp only [List.getElem?_toArray, List.getElem?_cons_zero, List.getElem?_cons_succ] at yb0 yb1 yb2 yb3 yb4 yb5 yb6 yb7
        have hV19 := bl_call hV18 hbr
        clear v1 v2
        go_wp2_with (first | (go_at_call 31; with_reducible refine Calls.mono (hal.out _) ?_; rintro e w' ⟨rfl, rfl⟩) | ((go_at_call 32); (with_reducible refine Calls.mono (hae.out _) ?_); rintro e20 w20 ⟨rfl, hb20⟩; (have hV20 := bl_call hV19 hb20); first | ((with_reducible apply kp_in_step (hb := hb20)); (with_reducible assumption); rintro ⟨hk, hc, hf, hzc, hzf⟩) | ((with_reducible refine kp_in_first hb20 ?_); rintro ⟨hk, hc, hf, hzc, hzf⟩)) | (go_at_call 31; with_reducible refine Calls.mono (hag.out _) ?_; rintro e w' ⟨rfl, rfl⟩) | ((go_at_call 7); (with_reducible refine Calls.mono (works4 _) ?_); rintro e21 w21 ⟨rfl, hb21⟩; (have hV21 := bl_call hV20 hb21); first | ((with_reducible apply kp_in_step (hb := hb21)); (with_reducible assumption); rintro ⟨hk, hc, hf, hzc, hzf⟩) | ((with_reducible refine kp_in_first hb21 ?_); rintro ⟨hk, hc, hf, hzc, hzf⟩)))
        go_ret
        exact ⟨rfl, bl_call hbV hV21⟩
theorem lawTrue_any (A B : Option Addr) (ca cb : Nat) (S : Sht) (l : List Pt) (f a b : Pt) (d o : Int) (w : World) (ha : Cts w A S.cs) (hla : S.cs.length ≤ 9223372036854775807) (hb : Pts w B l) (hlb : l.length ≤ 9223372036854775807) :
    Calls Tryz.prog 4 #[(Value.agg #[(Value.int .i64 (S.xlo)), (Value.int .i64 (S.xhi)), (Value.int .i64 (S.ylo)), (Value.int .i64 (S.yhi)), .slice A S.cs.length ca, (Value.int .i64 (S.wrong))]), .slice B l.length cb, .agg #[(Value.int .i64 (f.1)), (Value.int .i64 (f.2)), (Value.int .i64 (d)), (Value.int .i64 (o)), (Value.int .i64 (a.1)), (Value.int .i64 (a.2)), (Value.int .i64 (b.1)), (Value.int .i64 (b.2))]] w fun e w' => e = .returned (.bool true) ∧ Below w.heap.size w w' := by
  cases h1 : rdyB S with
  | false => exact lawTrue_no A B ca cb S l f a b d o w ha hla hb hlb false _ (truB S f) _ _ _ h1 rfl (fun _ => rfl) rfl rfl rfl (.inl rfl)
  | true =>
    cases h2 : polB l with
    | false => exact lawTrue_no A B ca cb S l f a b d o w ha hla hb hlb true false _ _ _ _ h1 h2 (fun _ => rfl) rfl rfl rfl (.inr (.inl ⟨rfl, rfl⟩))
    | true =>
      cases h3 : truB S f with
      | false => exact lawTrue_no A B ca cb S l f a b d o w ha hla hb hlb true true false _ _ _ h1 h2 (fun _ => h3) rfl rfl rfl (.inr (.inr (.inl ⟨rfl, rfl, rfl⟩)))
      | true =>
        cases h4 : deedB d o with
        | false => exact lawTrue_no A B ca cb S l f a b d o w ha hla hb hlb true true true false _ _ h1 h2 (fun _ => h3) h4 rfl rfl (.inr (.inr (.inr (.inl ⟨rfl, rfl, rfl, rfl⟩))))
        | true =>
          cases h5 : isPt a with
          | false => exact lawTrue_no A B ca cb S l f a b d o w ha hla hb hlb true true true true false _ h1 h2 (fun _ => h3) h4 h5 rfl (.inr (.inr (.inr (.inr (.inl ⟨rfl, rfl, rfl, rfl, rfl⟩)))))
          | true =>
            cases h6 : isPt b with
            | false => exact lawTrue_no A B ca cb S l f a b d o w ha hla hb hlb true true true true true false h1 h2 (fun _ => h3) h4 h5 h6 (.inr (.inr (.inr (.inr (.inr ⟨rfl, rfl, rfl, rfl, rfl, rfl⟩)))))
            | true => exact lawTrue_ok A B ca cb S l f a b d o w ha hla hb hlb h1 h2 h3 h4 h5 h6
section
open Go.Deep
variable {H : Type} {enc : TypeId × Value → H}
set_option maxRecDepth 100000 in
theorem open_told {W : World} {r : Reach} {b0 : Nat} {v : Value} {d : DataW H} {p : List MemPlace} (hv : Value.okWide Tryz.prog W r b0 48 v) (h : DataW.Trod enc Tryz.prog W 0 (fun _ => true) true 48 v d p) :
    ∃ (f : Pt) (x y : Int) (a b : Pt), v = .agg #[(Value.int .i64 (f.1)), (Value.int .i64 (f.2)), (Value.int .i64 (x)), (Value.int .i64 (y)), (Value.int .i64 (a.1)), (Value.int .i64 (a.2)), (Value.int .i64 (b.1)), (Value.int .i64 (b.2))] := by
  obtain ⟨cs, rfl, hsz⟩ := okWide_struct Tryz.underlying48 hv
  obtain ⟨cl⟩ := cs
  have hsz2 : cl.length = 8 := hsz.trans (by kernel_rfl)
  match cl, hsz2 with
  | [c0, c1, c2, c3, c4, c5, c6, c7], _ =>
    obtain ⟨fuel, hf⟩ := h
    obtain ⟨y0, y1, y2, y3, n, hx, _, h0, h1, h2, h3⟩ := Go.Joins.trod_struct4 Tryz.underlying48 hf
    have k0 : Tryz.prog.cellsOf 44 = 2 := by kernel_rfl
    have k1 : Tryz.prog.cellsOf 46 = 2 := by kernel_rfl
    have k2 : Tryz.prog.cellsOf 29 = 2 := by kernel_rfl
    simp only [Value.cells, k0, k1, k2, List.drop_zero, List.take_succ_cons, List.take_zero, List.drop_succ_cons] at h0 h1 h2 h3
    obtain ⟨z0, z1, m1, _, _, g0, g1⟩ := trod_struct2 Tryz.underlying44 h0
    obtain ⟨z2, z3, m2, _, _, g2, g3⟩ := trod_struct2 Tryz.underlying46 h1
    obtain ⟨z4, z5, m3, _, _, g4, g5⟩ := trod_struct2 Tryz.underlying29 h2
    obtain ⟨z6, z7, m4, _, _, g6, g7⟩ := trod_struct2 Tryz.underlying29 h3
    simp only [cellsInt, List.drop_zero, List.take_succ_cons, List.take_zero, List.drop_succ_cons] at g0 g1 g2 g3 g4 g5 g6 g7
    obtain ⟨x0, rfl, _⟩ := int_f g0
    obtain ⟨x1, rfl, _⟩ := int_f g1
    obtain ⟨x2, rfl, _⟩ := int_f g2
    obtain ⟨x3, rfl, _⟩ := int_f g3
    obtain ⟨x4, rfl, _⟩ := int_f g4
    obtain ⟨x5, rfl, _⟩ := int_f g5
    obtain ⟨x6, rfl, _⟩ := int_f g6
    obtain ⟨x7, rfl, _⟩ := int_f g7
    exact ⟨(x0, x1), x2, x3, (x4, x5), (x6, x7), rfl⟩
end
section
open Go.ChangeAt
set_option maxRecDepth 100000 in
theorem sheetsTrue_lifted (os : Os) (started : os.Started) (H : Type) (enc : TypeId × Value → H) :
    ReturnsInHanded {} Tryz.checked os 4 .any (Rows.sheetsTrueSpec.pre6 enc Tryz.prog Tryz.f4 Rows.sheetsTrueRow.domain false) (Rows.sheetsTrueSpec.post enc Tryz.prog Tryz.f4 false true false false) := by
  refine returnsInHanded_of_change (C := Tryz.checked) own_knob started (by kernel_rfl) Tryz.func4
    (ChangeSpec.witness6 (enc := enc) (C := Tryz.checked) false ⟨#[], #[.agg #[.int .i64 0, .int .i64 0, .int .i64 0, .int .i64 0, .slice none 0 0, .int .i64 0], .slice none 0 0, .agg #[.int .i64 0, .int .i64 0, .int .i64 0, .int .i64 0, .int .i64 0, .int .i64 0, .int .i64 0, .int .i64 0]], []⟩ 8 (by kernel_rfl) (by kernel_rfl) (by kernel_rfl) (by kernel_rfl)) ?_
  intro W base args ds gs before hval0 hW hcnd _
  have hval : ∀ (j : Nat) t v, Tryz.f4.params[j]? = some t → args[j]? = some v → Value.okWide Tryz.prog W .any base t v := hval0
  have hW2 := hW
  obtain ⟨p, q, hA0, hV, rfl, hfz, hnd⟩ := hW
  have hA : DataW.TrodAll enc Tryz.prog W 0 (fun _ => true) true Tryz.f4.params.toList args.toList ds p := hA0
  rw [Tryz.params4] at hA hval
  obtain ⟨v0, v1, v2, d0, d1, d2, p0, p1, p2, rfl, rfl, rfl, h0, h1, h2⟩ := trodAll_three hA; obtain ⟨A, ca, S, rfl, hP0, hl0, hT1, hT2, hT3, hT4, hT5⟩ := open_sheet (hval 0 _ _ rfl rfl) h0; obtain ⟨B, cb, l, rfl, hP1, hl1⟩ := open_points (okWide_slice undPts (hval 1 _ _ rfl rfl)) h1; obtain ⟨xf, xd, xo, xa, xb, rfl⟩ := open_told (hval 2 _ _ rfl rfl) h2
  obtain ⟨rfl, rfl⟩ := trodVars_none hV
  clear hA0 hval0
  simp only [List.append_nil, List.nil_append] at hW2
  (try simp only [List.append_nil, List.nil_append] at hA)
  refine (lawTrue_any A B ca cb S l xf xa xb xd xo W hP0 hl0 hP1 hl1).mono fun e W2 ⟨he, hb⟩ => ?_
  subst he
  refine ⟨_, rfl, post_of_below (pa := _) (pv := []) hW2 (fun _ _ _ => trodAll_mk1 (shut_bool und_bool _)) (fun sp hs => args_stay hb (by rw [Tryz.params4]; intro t ht; simp at ht; (try rcases ht with rfl | rfl | rfl) <;> (try rcases ht with rfl | rfl) <;> (try subst ht) <;> exact ⟨by kernel_rfl, by decide +kernel⟩) (by rw [Tryz.params4]; exact hA) hs) (fun _ _ => rfl) (by simp) hb (ok_one (by kernel_rfl) rfl (okWide_bool_mk und_bool _))⟩

theorem sheetsTrue_holds : Rows.SheetsTrueSaid :=
  OpenClaim.holds_of_wide 4 Tryz.f4 rfl rfl rfl rfl rfl rfl rfl ⟨rfl, rfl, rfl, rfl, rfl⟩ rfl rfl rfl rfl rfl (by kernel_rfl) Tryz.func4 (by kernel_rfl)
    (of_decide_eq_true (by kernel_rfl)) (by unfold Func.isWrapper; first | (rw [if_pos (by decide +kernel)]; kernel_rfl) | (rw [if_neg (by decide +kernel)]; exact ⟨rfl, rfl⟩))
    (fun os started H enc _ => sheetsTrue_lifted os started H enc)
end
end Go.Proofs.YtegdnbceiopklaaGreat
