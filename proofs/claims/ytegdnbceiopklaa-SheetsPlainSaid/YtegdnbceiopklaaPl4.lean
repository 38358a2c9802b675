/- Plain law of a sheet that has not shrunk: both factors are 1000. -/
import Derived.Test.YtegdnbceiopklaaOn4
import Derived.Test.YtegdnbceiopklaaLe4
namespace Go.Proofs.Ytegdnbceiopklaa
open Go.RowKit

theorem tw_bd3 {l : List Pt} (h : Ok l) : -800000 ≤ tw l ∧ tw l ≤ 800000 := by
  have h1 := sumOne_bd h.2.1 l.length (Nat.le_refl _)
  have h2 := h.1.2
  have h3 : tw l = sumTo oneF l l.length := rfl
  rw [h3]
  omega
theorem abT_bd3 {l : List Pt} (h : Ok l) : 0 ≤ abT l ∧ abT l ≤ 800000 := by have := tw_bd3 h; unfold abT; omega
def plS (cs : List Ctl) : Sht := ⟨1000, 1000, 1000, 1000, cs, 8⟩
theorem pl_one (cs : List Ctl) : oneS (plS cs) (1000, 1000) = plS cs := rfl
theorem pl_tru {cs : List Ctl} (h : shtB (plS cs) = true) : truB (plS cs) (1000, 1000) = true := by
  have h1 := (wrg_bd (plS cs) (1000, 1000)).2
  have h2 := (sht_ok h).len
  have h3 : (plS cs).wrong = 8 := rfl
  simp only [truB, Bool.and_eq_true, decide_eq_true_eq]
  exact ⟨⟨by simp [within, plS], by simp [within, plS]⟩, by omega⟩
theorem pl_trs {cs : List Ctl} (h : shtB (plS cs) = true) : trs (plS cs) = [(1000, 1000)] := by
  have := one_trs (pl_tru h)
  rwa [pl_one] at this
theorem pl_op {cs : List Ctl} (h : shtB (plS cs) = true) (is : Bool) (hi : is = true) : opS (plS cs) is = 0 := opS_of h hi (by rw [pl_trs h]; exact List.cons_ne_nil _ _)
section
variable {cs : List Ctl} (h : shtB (plS cs) = true) {l : List Pt} (hl : Ok l)
include h hl
theorem pl_ms : msE (plS cs) l = 0 := by rw [msE, if_pos h, chk_ok hl]
theorem pl_ar : arE (plS cs) l true = 0 := by rw [arE, if_pos (pl_ms h hl), pl_op h true rfl]
theorem pl_lo : arLo (plS cs) l = abT l := by
  have hb := abT_bd hl
  rw [arLo, if_pos (pl_ar h hl), pl_trs h]
  show (abT l * 1000000).tdiv (1000 * 1000) = abT l
  rw [Int.tdiv_eq_ediv_of_nonneg (by omega)]
  omega
theorem pl_hi : arHi (plS cs) l = abT l := by
  have hb := abT_bd hl
  rw [arHi, if_pos (pl_ar h hl), pl_trs h]
  show (abT l * 1000000 + 1000 * 1000 - 1).tdiv (1000 * 1000) = abT l
  rw [Int.tdiv_eq_ediv_of_nonneg (by omega)]
  omega
theorem pl_age : agE (plS cs) l (abT l) 0 = 0 := by
  have hb := abT_bd3 hl
  rw [agE, if_pos (pl_ms h hl)]
  exact pl_op h _ (by simp only [deedB, within, Bool.and_eq_true, decide_eq_true_eq]; omega)
theorem pl_agv : agV (plS cs) l (abT l) 0 = 1 := by
  rw [agV, if_pos (pl_age h hl), pl_trs h]
  have h1 : agB (abT l) (abT l) 0 (1000, 1000) = true := by
    unfold agB agD
    rw [decide_eq_true_eq]
    show max (abT l * 1000000 - abT l * (1000 * 1000)) (-(abT l * 1000000 - abT l * (1000 * 1000))) ≤ 0 * (1000 * 1000)
    omega
  unfold knw cnt
  rw [List.filter_cons, h1]
  rfl
end
section
variable {cs : List Ctl} (h : shtB (plS cs) = true) {a b : Pt} (hab : lnB a b = true)
include h hab
theorem pl_le : lnE (plS cs) a b = 0 := pl_op h _ hab
theorem pl_llo : lnLo (plS cs) a b = (a.1 - b.1) * (a.1 - b.1) + (a.2 - b.2) * (a.2 - b.2) := by
  have hq := lnQ_bd (f := (1000, 1000)) hab ⟨by simp, by simp⟩
  have h1 := hq.xx
  have h2 := hq.yy
  rw [lnLo, if_pos (pl_le h hab), pl_trs h]
  have e1 : (a.1 - b.1) * (a.1 - b.1) = (b.1 - a.1) * (b.1 - a.1) := by rw [← Int.neg_mul_neg, Int.neg_sub]
  have e2 : (a.2 - b.2) * (a.2 - b.2) = (b.2 - a.2) * (b.2 - a.2) := by rw [← Int.neg_mul_neg, Int.neg_sub]
  rw [e1, e2]
  show (1000000 * ((b.1 - a.1) * (b.1 - a.1) * (1000 * 1000) + (b.2 - a.2) * (b.2 - a.2) * (1000 * 1000))).tdiv (1000 * 1000 * (1000 * 1000)) = _
  generalize (b.1 - a.1) * (b.1 - a.1) = p at *
  generalize (b.2 - a.2) * (b.2 - a.2) = q at *
  rw [Int.tdiv_eq_ediv_of_nonneg (by omega)]
  omega
theorem pl_lhi : lnHi (plS cs) a b = (a.1 - b.1) * (a.1 - b.1) + (a.2 - b.2) * (a.2 - b.2) := by
  have hq := lnQ_bd (f := (1000, 1000)) hab ⟨by simp, by simp⟩
  have h1 := hq.xx
  have h2 := hq.yy
  rw [lnHi, if_pos (pl_le h hab), pl_trs h]
  have e1 : (a.1 - b.1) * (a.1 - b.1) = (b.1 - a.1) * (b.1 - a.1) := by rw [← Int.neg_mul_neg, Int.neg_sub]
  have e2 : (a.2 - b.2) * (a.2 - b.2) = (b.2 - a.2) * (b.2 - a.2) := by rw [← Int.neg_mul_neg, Int.neg_sub]
  rw [e1, e2]
  show (1000000 * ((b.1 - a.1) * (b.1 - a.1) * (1000 * 1000) + (b.2 - a.2) * (b.2 - a.2) * (1000 * 1000)) + 1000 * 1000 * (1000 * 1000) - 1).tdiv (1000 * 1000 * (1000 * 1000)) = _
  generalize (b.1 - a.1) * (b.1 - a.1) = p at *
  generalize (b.2 - a.2) * (b.2 - a.2) = q at *
  rw [Int.tdiv_eq_ediv_of_nonneg (by omega)]
  omega
end
end Go.Proofs.Ytegdnbceiopklaa
