/- The functions isKnown, in and subset of the laws of sheets. -/
import Derived.Test.YtegdnbceiopklaaGreatRe4
import Derived.Test.YtegdnbceiopklaaGreatFw4
import Derived.Test.YtegdnbceiopklaaGreatAr4
import Derived.Test.YtegdnbceiopklaaGreatLa4
namespace Go.Proofs.YtegdnbceiopklaaGreat
open Go.RowKit

theorem nodup_prs (S : Sht) : (prs S).Nodup := by
  unfold prs
  refine List.Pairwise.map _ ?_ List.nodup_range
  intro t u htu e
  apply htu
  simp only [prAt, Prod.mk.injEq] at e
  have h1 : t / nY S = u / nY S := by omega
  have h2 : t % nY S = u % nY S := by omega
  rw [← Nat.div_add_mod t (nY S), ← Nat.div_add_mod u (nY S), h1, h2]
theorem nodup_trs (S : Sht) : (trs S).Nodup := (nodup_prs S).filter _
theorem bLo_foldl {g : Pt → Int × Int} : ∀ (l : List Pt) (m x : Int), l.foldl (fun m x => min m (low (g x))) m ≤ x ↔ m ≤ x ∨ ∃ f ∈ l, low (g f) ≤ x
  | [], m, x => by simp
  | a :: l, m, x => by
    rw [List.foldl_cons, bLo_foldl l]
    simp only [List.mem_cons, exists_eq_or_imp, ← or_assoc]
    have : min m (low (g a)) ≤ x ↔ m ≤ x ∨ low (g a) ≤ x := by omega
    rw [this]
theorem bHi_foldl {g : Pt → Int × Int} : ∀ (l : List Pt) (m x : Int), x ≤ l.foldl (fun m x => max m (hig (g x))) m ↔ x ≤ m ∨ ∃ f ∈ l, x ≤ hig (g f)
  | [], m, x => by simp
  | a :: l, m, x => by
    rw [List.foldl_cons, bHi_foldl l]
    simp only [List.mem_cons, exists_eq_or_imp, ← or_assoc]
    have : x ≤ max m (hig (g a)) ↔ x ≤ m ∨ x ≤ hig (g a) := by omega
    rw [this]
/-- The bounds are at most, at least, what one of the list says. -/
theorem bLo_le {g : Pt → Int × Int} {l : List Pt} (hl : l ≠ []) (x : Int) : bLo g l ≤ x ↔ ∃ f ∈ l, low (g f) ≤ x := by
  cases l with
  | nil => exact absurd rfl hl
  | cons a l =>
    rw [show bLo g (a :: l) = l.foldl (fun m x => min m (low (g x))) (low (g a)) from rfl, bLo_foldl]
    simp only [List.mem_cons, exists_eq_or_imp]
theorem le_bHi {g : Pt → Int × Int} {l : List Pt} (hl : l ≠ []) (x : Int) : x ≤ bHi g l ↔ ∃ f ∈ l, x ≤ hig (g f) := by
  cases l with
  | nil => exact absurd rfl hl
  | cons a l =>
    rw [show bHi g (a :: l) = l.foldl (fun m x => max m (hig (g x))) (hig (g a)) from rfl, bHi_foldl]
    simp only [List.mem_cons, exists_eq_or_imp]
theorem low_hig {q : Int × Int} (h : FrOk q) : low q ≤ hig q := by
  obtain ⟨⟨h0, h1⟩, h2, h3⟩ := h
  have e1 : low q = q.1 / q.2 := Int.tdiv_eq_ediv_of_nonneg h0
  have e2 : hig q = (q.1 + q.2 - 1) / q.2 := Int.tdiv_eq_ediv_of_nonneg (by omega)
  rw [e1, e2]
  exact Int.ediv_le_ediv h2 (by omega)
theorem cnt_zero {p : Pt → Bool} {l : List Pt} : cnt p l = 0 ↔ ∀ f ∈ l, p f = false := by
  unfold cnt
  rw [List.length_eq_zero_iff, List.filter_eq_nil_iff]
  simp
theorem cnt_full {p : Pt → Bool} {l : List Pt} : cnt p l = l.length ↔ ∀ f ∈ l, p f = true := by
  unfold cnt
  rw [List.length_filter_eq_length_iff]
section
variable {S T : Sht} (h0 : shtB S = true) (h1 : shtB T = true) (hs : ∀ f ∈ trs T, f ∈ trs S) (ht : trs T ≠ [])
include hs ht in
theorem sub_ne : trs S ≠ [] := by
  intro e
  obtain ⟨f, hf⟩ := List.exists_mem_of_ne_nil _ ht
  have := hs f hf
  rw [e] at this
  cases this
include h0 h1 hs ht
theorem sub_op : opS T true = 0 ∧ opS S true = 0 := ⟨opS_of h1 rfl ht, opS_of h0 rfl (sub_ne hs ht)⟩
theorem sub_mn : 1 ≤ mnS T ∧ mnS T ≤ mnS S := by
  obtain ⟨e1, e2⟩ := sub_op h0 h1 hs ht
  have h2 := (nodup_trs T).length_le_of_subset hs
  have h3 : 0 < (trs T).length := List.length_pos_iff.2 ht
  rw [mnS, mnS, if_pos e1, if_pos e2]
  omega
theorem sub_fc (way : Int) (hw : wayB way = true) : (∀ x ∈ fcV T way, x ∈ fcV S way) ∧ (fcV T way).length ≤ (fcV S way).length ∧ (fcV S way).length ≤ 300 := by
  obtain ⟨e1, e2⟩ := sub_op h0 h1 hs ht
  have hm : ∀ x, x ∈ (trs T).map (fun f => fac f way) → x ∈ (trs S).map (fun f => fac f way) := fun x hx => by
    obtain ⟨f, hf, e⟩ := List.mem_map.1 hx
    exact List.mem_map.2 ⟨f, hs f hf, e⟩
  have b1 : ∀ x ∈ (trs T).map (fun f => fac f way), 900 ≤ x ∧ x ≤ 1100 := fun x hx => by
    obtain ⟨f, hf, rfl⟩ := List.mem_map.1 hx
    exact fac_bd (trs_ok (sht_ok h1) hf) way
  have b2 : ∀ x ∈ (trs S).map (fun f => fac f way), 900 ≤ x ∧ x ≤ 1100 := fun x hx => by
    obtain ⟨f, hf, rfl⟩ := List.mem_map.1 hx
    exact fac_bd (trs_ok (sht_ok h0) hf) way
  rw [fcV, fcV, hw, if_pos e1, if_pos e2, fcS_eq (sht_ok h0), fcS_eq (sht_ok h1)]
  have hsub : ∀ x ∈ rfTo ((trs T).map fun f => fac f way) 201, x ∈ rfTo ((trs S).map fun f => fac f way) 201 := fun x hx => (mem_rfTo b2).2 (hm x ((mem_rfTo b1).1 hx))
  refine ⟨hsub, ?_, Nat.le_trans (rfTo_len _ _) (by decide)⟩
  exact List.Nodup.length_le_of_subset ((rfTo_lt _ _).imp fun h => by omega) hsub
theorem sub_ar {l : List Pt} (hl : Ok l) : arE T l true = 0 ∧ arE S l true = 0 ∧ arLo S l ≤ arLo T l ∧ arLo T l ≤ arHi T l ∧ arHi T l ≤ arHi S l := by
  obtain ⟨e1, e2⟩ := sub_op h0 h1 hs ht
  have hn := sub_ne hs ht
  have m1 : msE T l = 0 := by rw [msE, if_pos h1, chk_ok hl]
  have m2 : msE S l = 0 := by rw [msE, if_pos h0, chk_ok hl]
  have a1 : arE T l true = 0 := by rw [arE, if_pos m1, e1]
  have a2 : arE S l true = 0 := by rw [arE, if_pos m2, e2]
  refine ⟨a1, a2, ?_⟩
  rw [arLo, arLo, arHi, arHi, if_pos a1, if_pos a2, if_pos a1, if_pos a2]
  refine ⟨?_, ?_, ?_⟩
  · obtain ⟨f, hf, h⟩ := (bLo_le ht _).1 (Int.le_refl (bLo (arQ l) (trs T)))
    exact (bLo_le hn _).2 ⟨f, hs f hf, h⟩
  · obtain ⟨f, hf⟩ := List.exists_mem_of_ne_nil _ ht
    have x1 := (bLo_le (g := arQ l) ht (low (arQ l f))).2 ⟨f, hf, Int.le_refl _⟩
    have x2 := (le_bHi (g := arQ l) ht (hig (arQ l f))).2 ⟨f, hf, Int.le_refl _⟩
    have x3 := low_hig (arQ_ok hl (trs_ok (sht_ok h1) hf))
    omega
  · obtain ⟨f, hf, h⟩ := (le_bHi ht _).1 (Int.le_refl (bHi (arQ l) (trs T)))
    exact (le_bHi hn _).2 ⟨f, hs f hf, h⟩
theorem sub_al : alV S = 3 ∨ alV T = alV S := by
  obtain ⟨e1, e2⟩ := sub_op h0 h1 hs ht
  rw [alV, alV, if_pos e1, if_pos e2]
  obtain ⟨f, hf⟩ := List.exists_mem_of_ne_nil _ ht
  unfold knw
  by_cases c1 : cnt alB (trs S) = (trs S).length
  · have d1 : cnt alB (trs T) = (trs T).length := cnt_full.2 fun f hf => cnt_full.1 c1 f (hs f hf)
    rw [if_pos c1, if_pos d1]
    exact .inr rfl
  · by_cases c2 : cnt alB (trs S) = 0
    · have d2 : cnt alB (trs T) = 0 := cnt_zero.2 fun f hf => cnt_zero.1 c2 f (hs f hf)
      have d1 : cnt alB (trs T) ≠ (trs T).length := by
        have : 0 < (trs T).length := List.length_pos_iff.2 ht
        omega
      rw [if_neg c1, if_pos c2, if_neg d1, if_pos d2]
      exact .inr rfl
    · rw [if_neg c1, if_neg c2]
      exact .inl rfl
end
/-- A sheet with one control more. -/
def moA (S : Sht) (c : Ctl) : Sht := ⟨S.xlo, S.xhi, S.ylo, S.yhi, S.cs ++ [c], S.wrong⟩
/-- A sheet with a narrower span. -/
def moB (S : Sht) (p q : Int) : Sht := ⟨S.xlo + p, S.xhi - q, S.ylo, S.yhi, S.cs, S.wrong⟩
/-- A sheet one of whose controls can be off by less. -/
def leC (c : Ctl) (d : Int) : Ctl := ⟨c.way, c.tru, c.read, c.off - d⟩
def moC (S : Sht) (i : Nat) (d : Int) : Sht := ⟨S.xlo, S.xhi, S.ylo, S.yhi, S.cs.set i (leC (cat S.cs i) d), S.wrong⟩
theorem tru_of {S T : Sht} {f : Pt} (hx : T.wrong = S.wrong) (hl : S.xlo ≤ T.xlo) (hh : T.xhi ≤ S.xhi) (hl2 : S.ylo = T.ylo) (hh2 : T.yhi = S.yhi) (hw : wrg S f ≤ wrg T f) (h : f ∈ trs T) : f ∈ trs S := by
  rw [mem_trs] at *
  simp only [truB, within, Bool.and_eq_true, decide_eq_true_eq] at *
  omega
theorem moA_sub (S : Sht) (c : Ctl) : ∀ f ∈ trs (moA S c), f ∈ trs S := fun f hf => by
  refine tru_of (T := moA S c) rfl (Int.le_refl _) (Int.le_refl _) rfl rfl ?_ hf
  unfold wrg wrgTo
  rw [List.take_length, List.take_length]
  simp only [moA, List.filter_append, List.length_append]
  omega
theorem moB_sub (S : Sht) {p q : Int} (hp : 0 ≤ p) (hq : 0 ≤ q) : ∀ f ∈ trs (moB S p q), f ∈ trs S := fun f hf =>
  tru_of (T := moB S p q) rfl (by simp only [moB]; omega) (by simp only [moB]; omega) rfl rfl (Int.le_refl _) hf
theorem right_le {c : Ctl} {d : Int} (hd : 0 ≤ d) {f : Pt} (h : rightB (leC c d) f = true) : rightB c f = true := by
  unfold rightB at h ⊢
  rw [decide_eq_true_eq] at h ⊢
  have e : rst (leC c d) f = rst c f := rfl
  have e2 : (leC c d).off = c.off - d := rfl
  rw [e, e2] at h
  omega
theorem filter_set_le {p : Ctl → Bool} : ∀ (l : List Ctl) (i : Nat) (c : Ctl), (∀ b, l[i]? = some b → p b = true → p c = true) → (l.filter p).length ≤ ((l.set i c).filter p).length
  | [], _, _, _ => by simp
  | b :: l, 0, c, h => by
    have h1 := h b (by simp)
    rw [List.set_cons_zero, List.filter_cons, List.filter_cons]
    cases e : p b with
    | false => cases p c <;> simp
    | true => simp [h1 e]
  | b :: l, i + 1, c, h => by
    have ih := filter_set_le l i c fun b' hb' => h b' (by simpa using hb')
    rw [List.set_cons_succ, List.filter_cons, List.filter_cons]
    cases p b <;> simp <;> omega
theorem moC_sub (S : Sht) (i : Nat) {d : Int} (hd : 0 ≤ d) : ∀ f ∈ trs (moC S i d), f ∈ trs S := fun f hf => by
  refine tru_of (T := moC S i d) rfl (Int.le_refl _) (Int.le_refl _) rfl rfl ?_ hf
  unfold wrg wrgTo
  rw [List.take_length, List.take_length]
  have h := filter_set_le (p := fun c => !rightB c f) S.cs i (leC (cat S.cs i) d) fun b hb h1 => by
    have hi : i < S.cs.length := (List.getElem?_eq_some_iff.1 hb).1
    rw [cat_get hi] at hb
    cases hb
    simp only [Bool.not_eq_true'] at h1 ⊢
    cases e : rightB (leC (cat S.cs i) d) f with
    | false => rfl
    | true => rw [right_le hd e] at h1; cases h1
  simp only [moC]
  omega
theorem fw_foldl {g : Pt → Int} : ∀ (l : List Pt) (m x : Int), l.foldl (fun m f => min m (g f)) m ≤ x ↔ m ≤ x ∨ ∃ f ∈ l, g f ≤ x
  | [], m, x => by simp
  | a :: l, m, x => by
    rw [List.foldl_cons, fw_foldl l]
    simp only [List.mem_cons, exists_eq_or_imp, ← or_assoc]
    have : min m (g a) ≤ x ↔ m ≤ x ∨ g a ≤ x := by omega
    rw [this]
theorem fw_iff {S : Sht} (h0 : shtB S = true) : fwS S ≤ S.wrong ↔ trs S ≠ [] := by
  have hS := sht_ok h0
  have hx := hS.x1
  have hy := hS.y1
  unfold fwS fwTo
  rw [List.take_length, fw_foldl]
  constructor
  · intro h
    have hf : ∃ f ∈ prs S, wrg S f ≤ S.wrong := by
      rcases h with h | h
      · refine ⟨(S.xlo, S.ylo), mem_prs.2 ⟨⟨Int.le_refl _, hx⟩, Int.le_refl _, hy⟩, ?_⟩
        have := (wrg_bd S (S.xlo, S.ylo)).2
        omega
      · exact h
    obtain ⟨f, hf, hw⟩ := hf
    intro e
    have : f ∈ trs S := List.mem_filter.2 ⟨hf, by simpa using hw⟩
    rw [e] at this
    cases this
  · intro h
    obtain ⟨f, hf⟩ := List.exists_mem_of_ne_nil _ h
    have := List.mem_filter.1 hf
    exact .inr ⟨f, this.1, by simpa using this.2⟩
theorem op_fw {S : Sht} (h0 : shtB S = true) : (opS S true = 0 ∨ opS S true = 3) ∧ (opS S true = 0 ↔ fwS S ≤ S.wrong) := by
  rw [fw_iff h0]
  unfold opS
  rw [if_pos h0, if_pos rfl]
  by_cases h : trs S = []
  · rw [if_pos h]
    simp [h]
  · rw [if_neg h]
    simp [h]
end Go.Proofs.YtegdnbceiopklaaGreat
namespace Go.Proofs.YtegdnbceiopklaaGreat
open Go.RowKit
attribute [local go_sem] After.cell After.frozen

set_option maxRecDepth 100000 in
set_option maxHeartbeats 1000000 in
theorem in4 (A : Option Addr) (ca : Nat) (l : List Int) (x : Int) (hx : x ∈ l) (w : World) (ha : Ints w A l) (hl : l.length ≤ 1000000) :
    Calls Tryz.prog 25 #[.slice A l.length ca, (Value.int .i64 (x))] w fun e w' => e = .returned (.bool true) ∧ Below w.heap.size w w' := by
  have HX := Lib.hid hx
  clear hx
  go_enter Tryz.func25, Tryz.ntmps25
  go_wp2
  go_loopw [5] (fun i wr => ∃ k : Nat, k ≤ l.length ∧ i = (Value.int .i64 ((k : Int))) ∧ (∀ j, j < k → iat l j ≠ x) ∧ Below w.heap.size w wr) (fun i _ => l.length - (intOf i).toNat)
  case atStart => exact ⟨0, Nat.zero_le _, rfl, (fun j hj => by omega), by (repeat (first | with_reducible exact Below.refl _ _ | with_reducible apply bl_alloc | with_reducible apply bl_drew | with_reducible apply bl_after | (with_reducible refine bl_call ?_ (by assumption))))⟩
  case round =>
    obtain ⟨k, kn, rfl, HR, hbw⟩ := hrel
    replace HR := Lib.hid HR
    by_cases hlt : k < l.length
    · obtain ⟨b, o, rfl, pa⟩ := (ha.below hbw).at_ hlt
      have x1 := pa.xi hlt
      have lb := pa.lt
      have i1 : (k : Int) < (l.length : Int) := by omega
      by_cases he : iat l k = x
      · have he' : (iat l k == x) = true := by rw [he]; simp
        clear he
        go_wp2
        go_ret
        exact ⟨rfl, by (repeat (first | with_reducible exact Below.refl _ _ | with_reducible apply bl_alloc | with_reducible apply bl_drew | with_reducible apply bl_after | (with_reducible refine bl_call ?_ (by assumption))))⟩
      · have he' : (iat l k == x) = false := by rw [beq_eq_false_iff_ne]; exact he
        have hfin : Hid (∀ j, j < k + 1 → iat l j ≠ x) := Lib.hid fun j hj => by
          rcases Nat.lt_succ_iff_lt_or_eq.1 hj with h | h
          · exact HR.out j h
          · rw [h]; exact he
        clear he
        go_wp2
        go_roundw
        case rel => exact ⟨k + 1, by omega, by go_num, hfin.out, by (repeat (first | with_reducible exact Below.refl _ _ | with_reducible apply bl_alloc | with_reducible apply bl_drew | with_reducible apply bl_after | (with_reducible refine bl_call ?_ (by assumption))))⟩
        case measure => simp [intOf]; omega
    · exfalso
      obtain ⟨j, hj, e⟩ := List.getElem_of_mem HX.out
      rw [iat_eq hj] at e
      exact HR.out j (by omega) e
end Go.Proofs.YtegdnbceiopklaaGreat
