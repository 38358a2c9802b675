/- Plain law of the turned sheet: the spans exchanged, the directions of all controls, and X and Y of all points: what is known of it. -/
import Derived.Test.YtegdnbceiopklaaRe4
import Derived.Test.YtegdnbceiopklaaLe4
namespace Go.Proofs.Ytegdnbceiopklaa
open Go.RowKit

def swp (p : Pt) : Pt := (p.2, p.1)
theorem swp_swp (p : Pt) : swp (swp p) = p := rfl
def swC (c : Ctl) : Ctl := ⟨3 - c.way, c.tru, c.read, c.off⟩
def tuS (S : Sht) : Sht := ⟨S.ylo, S.yhi, S.xlo, S.xhi, S.cs.map swC, S.wrong⟩
theorem pat_swp {l : List Pt} {i : Nat} (h : i < l.length) : pat (l.map swp) i = swp (pat l i) := by
  have h1 := pat_get (l := l.map swp) (i := i) (by simpa using h)
  rw [List.getElem?_map, pat_get h] at h1
  simpa using h1.symm
theorem turn_swp (a b c : Pt) : turn (swp a) (swp b) (swp c) = - turn a b c := by
  simp only [turn, swp]
  grind
theorem has_swp (a b p : Pt) : has (swp a) (swp b) (swp p) = has a b p := by
  unfold has
  rw [turn_swp, show (-turn a b p == 0) = (turn a b p == 0) by rw [Bool.eq_iff_iff]; simp only [beq_iff_eq]; omega]
  simp only [swp]
  generalize (turn a b p == 0) = x
  generalize within p.1 (min a.1 b.1) (max a.1 b.1) = y
  generalize within p.2 (min a.2 b.2) (max a.2 b.2) = z
  cases x <;> cases y <;> cases z <;> rfl
theorem apart_swp (a b p q : Pt) : apart (swp a) (swp b) (swp p) (swp q) = apart a b p q := by
  unfold apart
  rw [turn_swp, turn_swp, Bool.eq_iff_iff]
  simp only [Bool.or_eq_true, Bool.and_eq_true, decide_eq_true_eq]
  omega
theorem meets_swp (a b c d : Pt) : meets (swp a) (swp b) (swp c) (swp d) = meets a b c d := by
  unfold meets
  rw [has_swp, has_swp, has_swp, has_swp, apart_swp, apart_swp]
theorem isPt_swp (p : Pt) : isPt (swp p) = isPt p := by
  unfold isPt swp
  exact Bool.and_comm _ _
theorem nxt_swp (l : List Pt) (i : Nat) : nxt (l.map swp) i = nxt l i := by
  unfold nxt
  rw [List.length_map]
theorem ok_swp {l : List Pt} (h : Ok l) : Ok (l.map swp) := by
  have hl : (l.map swp).length = l.length := List.length_map _
  have hn : ∀ i, nxt l i < l.length := fun i => nxt_lt i (by have := h.1; omega)
  refine ⟨by rw [hl]; exact h.1, fun i hi => ?_, fun i hi k hk => ?_, fun i hi => ?_, fun i hi k hk => ?_⟩
  · rw [hl] at hi
    rw [pat_swp hi, isPt_swp]
    exact h.2.1 i hi
  · rw [hl] at hi
    rw [pat_swp hi, pat_swp (by omega)]
    intro e
    exact h.2.2.1 i hi k hk (by rw [← swp_swp (pat l k), e, swp_swp])
  · rw [hl] at hi
    rw [nxt_swp, nxt_swp, pat_swp hi, pat_swp (hn _), pat_swp (hn _), has_swp, has_swp]
    exact h.2.2.2.1 i hi
  · rw [hl] at hi hk
    rw [nxt_swp, nxt_swp, pat_swp hi, pat_swp hk, pat_swp (hn _), pat_swp (hn _), meets_swp]
    exact h.2.2.2.2 i hi k hk
theorem sumTo_swp (l : List Pt) : ∀ k, k ≤ l.length → sumTo oneF (l.map swp) k = - sumTo oneF l k
  | 0, _ => by simp [sumTo]
  | k + 1, hk => by
    have ih := sumTo_swp l k (by omega)
    simp only [sumTo]
    rw [ih, nxt_swp, pat_swp (by omega), pat_swp (nxt_lt k (by omega))]
    simp only [oneF, swp, cross]
    grind
theorem tw_swp (l : List Pt) : tw (l.map swp) = - tw l := by
  have h := sumTo_swp l l.length (Nat.le_refl _)
  have h2 : tw (l.map swp) = sumTo oneF (l.map swp) (l.map swp).length := rfl
  rw [h2, List.length_map, h]
  rfl
theorem abT_swp (l : List Pt) : abT (l.map swp) = abT l := by
  unfold abT
  rw [tw_swp]
  omega
theorem arQ_swp (l : List Pt) (f : Pt) : arQ (l.map swp) (swp f) = arQ l f := by
  unfold arQ
  rw [abT_swp]
  simp only [swp]
  rw [Int.mul_comm f.2]
theorem lnQ_swp (a b f : Pt) : lnQ (swp a) (swp b) (swp f) = lnQ a b f := by
  simp only [lnQ, sqQ, swp]
  refine Prod.ext ?_ ?_ <;> simp only <;> grind
theorem sht_swp {S : Sht} (h : shtB S = true) : shtB (tuS S) = true := by
  simp only [shtB, tuS, Bool.and_eq_true, List.length_map, List.all_map] at h ⊢
  refine ⟨⟨⟨⟨h.1.1.1.2, h.1.1.1.1⟩, h.1.1.2⟩, ?_⟩, h.2⟩
  have h2 := h.1.2
  rw [List.all_eq_true] at h2 ⊢
  intro c hc
  have h3 := h2 c hc
  simp only [Function.comp, ctlB, swC, wayB, Bool.and_eq_true, Bool.or_eq_true, beq_iff_eq] at h3 ⊢
  refine ⟨⟨⟨by omega, h3.1.1.2⟩, h3.1.2⟩, h3.2⟩
theorem right_swp {c : Ctl} (h : c.way = 1 ∨ c.way = 2) (f : Pt) : rightB (swC c) (swp f) = rightB c f := by
  have h1 : fac (swp f) (swC c).way = fac f c.way := by
    unfold fac swC swp
    rcases h with h | h <;> rw [h] <;> rfl
  unfold rightB rst
  rw [h1]
  rfl
theorem filter_len_map {α β : Type} (g : α → β) (p : β → Bool) (q : α → Bool) : ∀ l : List α, (∀ x ∈ l, p (g x) = q x) → ((l.map g).filter p).length = (l.filter q).length
  | [], _ => rfl
  | x :: l, h => by
    have ih := filter_len_map g p q l fun y hy => h y (List.mem_cons_of_mem _ hy)
    rw [List.map_cons, List.filter_cons, List.filter_cons, h x List.mem_cons_self]
    cases q x <;> simp [ih]
theorem wrg_swp {S : Sht} (hS : ShtOk S) (f : Pt) : wrg (tuS S) (swp f) = wrg S f := by
  unfold wrg wrgTo
  rw [List.take_length, List.take_length]
  congr 1
  exact filter_len_map swC _ _ S.cs fun c hc => by rw [right_swp (hS.all c hc).1]
theorem mem_trs_swp {S : Sht} (hS : ShtOk S) (f : Pt) : f ∈ trs (tuS S) ↔ swp f ∈ trs S := by
  rw [mem_trs, mem_trs]
  have h := wrg_swp hS (swp f)
  rw [swp_swp] at h
  unfold truB
  rw [h]
  simp only [tuS, swp, Bool.and_eq_true]
  exact ⟨fun h => ⟨⟨h.1.2, h.1.1⟩, h.2⟩, fun h => ⟨⟨h.1.2, h.1.1⟩, h.2⟩⟩
theorem nodup_prs (S : Sht) : (prs S).Nodup := by
  unfold prs
  refine List.Pairwise.map _ ?_ List.nodup_range
  intro t u htu e
  apply htu
  simp only [prAt, Prod.mk.injEq] at e
  have h1 : t / nY S = u / nY S := by omega
  have h2 : t % nY S = u % nY S := by omega
  rw [← Nat.div_add_mod t (nY S), ← Nat.div_add_mod u (nY S), h1, h2]
theorem nodup_trs (S : Sht) : (trs S).Nodup := (nodup_prs S).filter _
theorem trs_swp {S : Sht} (hS : ShtOk S) : (trs (tuS S)).Perm ((trs S).map swp) := by
  refine (List.perm_ext_iff_of_nodup (nodup_trs _) ?_).2 fun f => ?_
  · refine List.Pairwise.map _ ?_ (nodup_trs S)
    intro a b hab e
    exact hab (by rw [← swp_swp a, e, swp_swp])
  · rw [mem_trs_swp hS, List.mem_map]
    constructor
    · intro h
      exact ⟨swp f, h, swp_swp f⟩
    · rintro ⟨g, hg, rfl⟩
      rwa [swp_swp]
theorem bLo_foldl {g : Pt → Int × Int} : ∀ (l : List Pt) (m x : Int), l.foldl (fun m x => min m (low (g x))) m ≤ x ↔ m ≤ x ∨ ∃ f ∈ l, low (g f) ≤ x
  | [], m, x => by simp
  | a :: l, m, x => by
    rw [List.foldl_cons, bLo_foldl l]
    simp only [List.mem_cons, exists_eq_or_imp, ← or_assoc]
    have : min m (low (g a)) ≤ x ↔ m ≤ x ∨ low (g a) ≤ x := by omega
    rw [this]
theorem bHi_foldl {g : Pt → Int × Int} : ∀ (l : List Pt) (m x : Int), x ≤ l.foldl (fun m x => max m (hig (g x))) m ↔ x ≤ m ∨ ∃ f ∈ l, x ≤ hig (g f)
  | [], m, x => by simp
  | a :: l, m, x => by
    rw [List.foldl_cons, bHi_foldl l]
    simp only [List.mem_cons, exists_eq_or_imp, ← or_assoc]
    have : x ≤ max m (hig (g a)) ↔ x ≤ m ∨ x ≤ hig (g a) := by omega
    rw [this]
/-- The bounds are at most, at least, what one of the list says. -/
theorem bLo_le {g : Pt → Int × Int} {l : List Pt} (hl : l ≠ []) (x : Int) : bLo g l ≤ x ↔ ∃ f ∈ l, low (g f) ≤ x := by
  cases l with
  | nil => exact absurd rfl hl
  | cons a l =>
    rw [show bLo g (a :: l) = l.foldl (fun m x => min m (low (g x))) (low (g a)) from rfl, bLo_foldl]
    simp only [List.mem_cons, exists_eq_or_imp]
theorem le_bHi {g : Pt → Int × Int} {l : List Pt} (hl : l ≠ []) (x : Int) : x ≤ bHi g l ↔ ∃ f ∈ l, x ≤ hig (g f) := by
  cases l with
  | nil => exact absurd rfl hl
  | cons a l =>
    rw [show bHi g (a :: l) = l.foldl (fun m x => max m (hig (g x))) (hig (g a)) from rfl, bHi_foldl]
    simp only [List.mem_cons, exists_eq_or_imp]
theorem bLo_swp {S : Sht} (hS : ShtOk S) {g g' : Pt → Int × Int} (h : ∀ f, g' (swp f) = g f) : bLo g' (trs (tuS S)) = bLo g (trs S) := by
  have hp := trs_swp hS
  by_cases h0 : trs S = []
  · rw [h0] at hp ⊢
    rw [hp.eq_nil]
    rfl
  · have h1 : trs (tuS S) ≠ [] := by
      intro e
      rw [e] at hp
      exact h0 (by simpa using hp.symm.eq_nil)
    have hx : ∀ x, bLo g' (trs (tuS S)) ≤ x ↔ bLo g (trs S) ≤ x := fun x => by
      rw [bLo_le h1, bLo_le h0]
      constructor
      · rintro ⟨f, hf, hl⟩
        refine ⟨swp f, (mem_trs_swp hS f).1 hf, ?_⟩
        rwa [← h, swp_swp]
      · rintro ⟨f, hf, hl⟩
        refine ⟨swp f, (mem_trs_swp hS _).2 (by rwa [swp_swp]), ?_⟩
        rwa [h]
    exact Int.le_antisymm ((hx _).2 (Int.le_refl _)) ((hx _).1 (Int.le_refl _))
theorem bHi_swp {S : Sht} (hS : ShtOk S) {g g' : Pt → Int × Int} (h : ∀ f, g' (swp f) = g f) : bHi g' (trs (tuS S)) = bHi g (trs S) := by
  have hp := trs_swp hS
  by_cases h0 : trs S = []
  · rw [h0] at hp ⊢
    rw [hp.eq_nil]
    rfl
  · have h1 : trs (tuS S) ≠ [] := by
      intro e
      rw [e] at hp
      exact h0 (by simpa using hp.symm.eq_nil)
    have hx : ∀ x, x ≤ bHi g' (trs (tuS S)) ↔ x ≤ bHi g (trs S) := fun x => by
      rw [le_bHi h1, le_bHi h0]
      constructor
      · rintro ⟨f, hf, hl⟩
        refine ⟨swp f, (mem_trs_swp hS f).1 hf, ?_⟩
        rwa [← h, swp_swp]
      · rintro ⟨f, hf, hl⟩
        refine ⟨swp f, (mem_trs_swp hS _).2 (by rwa [swp_swp]), ?_⟩
        rwa [h]
    exact Int.le_antisymm ((hx _).1 (Int.le_refl _)) ((hx _).2 (Int.le_refl _))
section
variable {S : Sht} (h0 : shtB S = true)
include h0
theorem op_swp (is : Bool) : opS (tuS S) is = opS S is := by
  have hp := trs_swp (sht_ok h0)
  unfold opS
  rw [if_pos h0, if_pos (sht_swp h0)]
  by_cases h : trs S = []
  · have h1 : trs (tuS S) = [] := by rw [h] at hp; exact hp.eq_nil
    rw [h, h1]
  · have h1 : trs (tuS S) ≠ [] := by
      intro e
      rw [e] at hp
      exact h (by simpa using hp.symm.eq_nil)
    rw [if_neg h, if_neg h1]
theorem fc_swp : fcV (tuS S) 2 = fcV S 1 := by
  unfold fcV
  rw [op_swp h0, show wayB 2 = wayB 1 from rfl]
  split
  · rw [fcS_eq (sht_ok h0), fcS_eq (sht_ok (sht_swp h0))]
    unfold rfTo
    congr 1
    refine List.filter_congr fun i _ => decide_eq_decide.2 ?_
    rw [List.mem_map, List.mem_map]
    constructor
    · rintro ⟨f, hf, e⟩
      exact ⟨swp f, (mem_trs_swp (sht_ok h0) f).1 hf, by rw [← e]; rfl⟩
    · rintro ⟨f, hf, e⟩
      exact ⟨swp f, (mem_trs_swp (sht_ok h0) _).2 (by rwa [swp_swp]), by rw [← e]; rfl⟩
  · rfl
theorem mn_swp : mnS (tuS S) = mnS S := by
  unfold mnS
  rw [op_swp h0, (trs_swp (sht_ok h0)).length_eq, List.length_map]
theorem str_swp : strV (tuS S) = strV S := by
  have hS := sht_ok h0
  have hp := trs_swp hS
  unfold strV
  rw [op_swp h0]
  have hcs : (tuS S).cs.length = S.cs.length := List.length_map _
  rw [hcs]
  split
  · unfold strTo
    congr 1
    refine List.filter_congr fun i hi => ?_
    have hi2 : i < S.cs.length := List.mem_range.1 hi
    have hc : cat (tuS S).cs i = swC (cat S.cs i) := by
      have h1 := cat_get (l := S.cs.map swC) (i := i) (by simpa using hi2)
      rw [List.getElem?_map, cat_get hi2] at h1
      exact (Option.some.inj h1).symm
    have hk : cnt (rightB (cat (tuS S).cs i)) (trs (tuS S)) = cnt (rightB (cat S.cs i)) (trs S) := by
      unfold cnt
      rw [(hp.filter _).length_eq, hc]
      exact filter_len_map swp _ _ _ fun f _ => right_swp (hS.all _ (cat_mem hi2)).1 f
    unfold knw
    rw [hk, hp.length_eq, List.length_map]
  · rfl
theorem ms_swp {l : List Pt} (hl : Ok l) : msE (tuS S) (l.map swp) = msE S l := by
  unfold msE
  rw [if_pos h0, if_pos (sht_swp h0), chk_ok hl, chk_ok (ok_swp hl)]
theorem are_swp {l : List Pt} (hl : Ok l) : arE (tuS S) (l.map swp) true = arE S l true := by
  unfold arE
  rw [ms_swp h0 hl, op_swp h0]
theorem arlo_swp {l : List Pt} (hl : Ok l) : arLo (tuS S) (l.map swp) = arLo S l := by
  unfold arLo
  rw [are_swp h0 hl, bLo_swp (sht_ok h0) (arQ_swp l)]
theorem arhi_swp {l : List Pt} (hl : Ok l) : arHi (tuS S) (l.map swp) = arHi S l := by
  unfold arHi
  rw [are_swp h0 hl, bHi_swp (sht_ok h0) (arQ_swp l)]
theorem lne_swp (a b : Pt) : lnE (tuS S) (swp a) (swp b) = lnE S a b := by
  unfold lnE lnB
  rw [isPt_swp, isPt_swp, op_swp h0]
theorem lnlo_swp (a b : Pt) : lnLo (tuS S) (swp a) (swp b) = lnLo S a b := by
  unfold lnLo
  rw [lne_swp h0, bLo_swp (sht_ok h0) (lnQ_swp a b)]
theorem lnhi_swp (a b : Pt) : lnHi (tuS S) (swp a) (swp b) = lnHi S a b := by
  unfold lnHi
  rw [lne_swp h0, bHi_swp (sht_ok h0) (lnQ_swp a b)]
end
end Go.Proofs.Ytegdnbceiopklaa
