/- Plain theory of disputes: what the reference counts over a list of all stories. -/
import Derived.Test.YthijegacjboclaaGreatWhl
import Derived.Test.YthijegacjboclaaGreatMom
namespace Go.Proofs.YthijegacjboclaaGreat

structure Dsp where
  cs : List Pt
  offs : List Int
  unit : Int
  wh : Whl
  wks : List Wk
def dspB (D : Dsp) : Bool := decide (Ok D.cs) && decide (D.cs.length ≤ 6) && decide (D.offs.length = D.cs.length) && D.offs.all (fun n => within n 0 2) && within D.unit 1 1000 && decide (whE D.wh D.wks = 0)
def chkD (D : Dsp) : Int := if dspB D = true then 0 else 80
def oat (D : Dsp) (i : Nat) : Int := D.offs.getD i 0
structure DspOk (D : Dsp) : Prop where
  ok : Ok D.cs
  l6 : D.cs.length ≤ 6
  lo : D.offs.length = D.cs.length
  off : ∀ i, i < D.offs.length → 0 ≤ oat D i ∧ oat D i ≤ 2
  u0 : 1 ≤ D.unit
  u1 : D.unit ≤ 1000
  wh : WhlOk D.wh
  l8 : D.wks.length ≤ 8
  wk : ∀ i, i < D.wks.length → WkOk D.wh (wat D.wks i)
theorem dsp_ok {D : Dsp} (h : dspB D = true) : DspOk D := by
  simp only [dspB, Bool.and_eq_true, decide_eq_true_eq] at h
  obtain ⟨⟨⟨⟨⟨h1, h2⟩, h3⟩, h4⟩, h5⟩, h6⟩ := h
  obtain ⟨w1, w2, w3⟩ := whE_zero h6
  simp only [within, Bool.and_eq_true, decide_eq_true_eq] at h5
  refine ⟨h1, h2, h3, fun i hi => ?_, h5.1, h5.2, whl_ok w1, w2, fun i hi => wk_ok (w3 _ (wat_mem hi))⟩
  have := List.all_eq_true.1 h4 (D.offs[i]) (List.getElem_mem hi)
  simp only [within, Bool.and_eq_true, decide_eq_true_eq] at this
  simpa [oat, hi] using this
/-- The area of a field, in divisions. -/
def arD (D : Dsp) (l : List Pt) : Int := (max (tw l) (-tw l)).tdiv D.unit
def near (D : Dsp) (l : List Pt) (i : Nat) : Prop :=
  (pat D.cs i).1 - oat D i ≤ (pat l i).1 ∧ (pat l i).1 ≤ (pat D.cs i).1 + oat D i ∧ (pat D.cs i).2 - oat D i ≤ (pat l i).2 ∧ (pat l i).2 ≤ (pat D.cs i).2 + oat D i
/-- A field, whatever its area. -/
def fldP (D : Dsp) (l : List Pt) : Prop := l.length = D.cs.length ∧ (∀ i, i < D.cs.length → near D l i) ∧ Ok l
def gesP (D : Dsp) (a : Int) : Prop := D.wh.glo ≤ a ∧ a ≤ D.wh.ghi
def skwP (D : Dsp) (s : Int) : Prop := -D.wh.skew ≤ s ∧ s ≤ D.wh.skew
/-- Wrong corners, wrong walks. -/
def wcB (D : Dsp) (l : List Pt) (i : Nat) : Bool := !decide (pat l i = pat D.cs i)
def wwB (D : Dsp) (a s : Int) (i : Nat) : Bool := !rgtB D.wh (wat D.wks i) a s
def wcL (D : Dsp) (l : List Pt) : List Nat := (List.range D.cs.length).filter (wcB D l)
def wwL (D : Dsp) (a s : Int) : List Nat := (List.range D.wks.length).filter (wwB D a s)
/-- What is told of a story: its area, wrong corners, wrong walks. -/
structure Tld where
  area : Int
  wc : List Nat
  ww : List Nat
def Tld.many (t : Tld) : Nat := t.wc.length + t.ww.length
def tldOf (D : Dsp) (l : List Pt) (s : Int) : Tld := ⟨arD D l, wcL D l, wwL D (arD D l) s⟩
def isT (D : Dsp) (t : Tld) : Prop := ∃ l s, fldP D l ∧ gesP D (arD D l) ∧ skwP D s ∧ t = tldOf D l s
theorem least_ex {α : Type} (P : α → Prop) (f : α → Nat) : ∀ (n : Nat) (a : α), P a → f a ≤ n → ∃ b, P b ∧ ∀ c, P c → f b ≤ f c
  | 0, a, ha, hn => ⟨a, ha, fun c _ => by omega⟩
  | n + 1, a, ha, hn => by
    by_cases h : ∃ c, P c ∧ f c < f a
    · obtain ⟨c, hc, hlt⟩ := h
      exact least_ex P f n c hc (by omega)
    · exact ⟨a, ha, fun c hc => Nat.le_of_not_lt fun h' => h ⟨c, hc, h'⟩⟩
/-- The least number of something; nothing if there is none. -/
def Lst {α : Type} (P : α → Prop) (f : α → Nat) (o : Option Nat) : Prop :=
  match o with
  | none => ∀ a, ¬ P a
  | some n => (∃ a, P a ∧ f a = n) ∧ ∀ a, P a → n ≤ f a
theorem lst_ex {α : Type} (P : α → Prop) (f : α → Nat) : ∃ o, Lst P f o := by
  by_cases h : ∃ a, P a
  · obtain ⟨a, ha⟩ := h
    obtain ⟨b, hb, hm⟩ := least_ex P f _ a ha (Nat.le_refl _)
    exact ⟨some (f b), ⟨b, hb, rfl⟩, hm⟩
  · exact ⟨none, fun a ha => h ⟨a, ha⟩⟩
theorem lst_uniq {α : Type} {P : α → Prop} {f : α → Nat} {o p : Option Nat} (h : Lst P f o) (k : Lst P f p) : o = p := by
  cases o <;> cases p
  · rfl
  · obtain ⟨⟨a, ha, -⟩, -⟩ := k
    exact absurd ha (h a)
  · obtain ⟨⟨a, ha, -⟩, -⟩ := h
    exact absurd ha (k a)
  · obtain ⟨⟨a, ha, rfl⟩, h2⟩ := h
    obtain ⟨⟨b, hb, rfl⟩, k2⟩ := k
    have := h2 b hb
    have := k2 a ha
    congr 1
    omega
noncomputable def lst {α : Type} (P : α → Prop) (f : α → Nat) : Option Nat := Classical.choose (lst_ex P f)
theorem lst_ok {α : Type} (P : α → Prop) (f : α → Nat) : Lst P f (lst P f) := Classical.choose_spec (lst_ex P f)
theorem lst_of {α : Type} {P : α → Prop} {f : α → Nat} {o : Option Nat} (h : Lst P f o) : lst P f = o := lst_uniq (lst_ok P f) h
/-- The least number of faults; of those without a wrong walk; of those without a wrong corner. -/
noncomputable def fwO (D : Dsp) : Option Nat := lst (isT D) Tld.many
noncomputable def cnO (D : Dsp) : Option Nat := lst (fun t => isT D t ∧ t.ww = []) Tld.many
noncomputable def wlO (D : Dsp) : Option Nat := lst (fun t => isT D t ∧ t.wc = []) Tld.many
def minT (D : Dsp) (t : Tld) : Prop := isT D t ∧ ∀ u, isT D u → t.many ≤ u.many
open Classical in
noncomputable def blC (D : Dsp) (i : Nat) : Bool := decide (∃ t, minT D t ∧ i ∈ t.wc)
open Classical in
noncomputable def blW (D : Dsp) (i : Nat) : Bool := decide (∃ t, minT D t ∧ i ∈ t.ww)
open Classical in
noncomputable def suC (D : Dsp) (i : Nat) : Bool := decide (∀ t, minT D t → i ∈ t.wc)
open Classical in
noncomputable def suW (D : Dsp) (i : Nat) : Bool := decide (∀ t, minT D t → i ∈ t.ww)
open Classical in
noncomputable def arB (D : Dsp) (k : Int) (a : Int) : Bool := decide (∃ t, isT D t ∧ (t.many : Int) ≤ k ∧ t.area = a)
theorem blC_iff {D : Dsp} {i : Nat} : blC D i = true ↔ ∃ t, minT D t ∧ i ∈ t.wc := by simp only [blC, decide_eq_true_eq]
theorem blW_iff {D : Dsp} {i : Nat} : blW D i = true ↔ ∃ t, minT D t ∧ i ∈ t.ww := by simp only [blW, decide_eq_true_eq]
theorem suC_iff {D : Dsp} {i : Nat} : suC D i = true ↔ ∀ t, minT D t → i ∈ t.wc := by simp only [suC, decide_eq_true_eq]
theorem suW_iff {D : Dsp} {i : Nat} : suW D i = true ↔ ∀ t, minT D t → i ∈ t.ww := by simp only [suW, decide_eq_true_eq]
theorem arB_iff {D : Dsp} {k a : Int} : arB D k a = true ↔ ∃ t, isT D t ∧ (t.many : Int) ≤ k ∧ t.area = a := by simp only [arB, decide_eq_true_eq]
theorem wcL_len (D : Dsp) (l : List Pt) : (wcL D l).length ≤ D.cs.length := by
  have := List.length_filter_le (wcB D l) (List.range D.cs.length)
  simpa [wcL] using this
theorem wwL_len (D : Dsp) (a s : Int) : (wwL D a s).length ≤ D.wks.length := by
  have := List.length_filter_le (wwB D a s) (List.range D.wks.length)
  simpa [wwL] using this
theorem mem_wcL {D : Dsp} {l : List Pt} {i : Nat} : i ∈ wcL D l ↔ i < D.cs.length ∧ wcB D l i = true := by simp [wcL]
theorem mem_wwL {D : Dsp} {a s : Int} {i : Nat} : i ∈ wwL D a s ↔ i < D.wks.length ∧ wwB D a s i = true := by simp [wwL]
/-- A set of small numbers as a number's bitL. -/
def msk (p : Nat → Bool) : Nat → Nat
  | 0 => 0
  | n + 1 => msk p n + (if p n = true then 2 ^ n else 0)
theorem msk_lt (p : Nat → Bool) : ∀ n, msk p n < 2 ^ n
  | 0 => by simp [msk]
  | n + 1 => by
    have := msk_lt p n
    rw [msk, Nat.pow_succ]
    split <;> omega
theorem msk_or (p : Nat → Bool) (n : Nat) : msk p n ||| 2 ^ n = msk p n + 2 ^ n := by
  have := Nat.two_pow_add_eq_or_of_lt (msk_lt p n) 1
  rw [Nat.mul_one] at this
  rw [Nat.or_comm, ← this, Nat.add_comm]
theorem msk_bit (p : Nat → Bool) : ∀ n i, (msk p n).testBit i = (decide (i < n) && p i)
  | 0, i => by simp [msk]
  | n + 1, i => by
    have ih := msk_bit p n i
    rw [msk]
    by_cases hp : p n = true
    · rw [if_pos hp, ← msk_or, Nat.testBit_or, ih, Nat.testBit_two_pow]
      by_cases hi : i = n
      · subst hi; simp [hp]
      · have : ¬ n = i := fun h => hi h.symm
        by_cases hl : i < n
        · simp [hl, this, show i < n + 1 by omega]
        · simp [hl, this, show ¬ i < n + 1 by omega]
    · rw [if_neg hp, Nat.add_zero, ih]
      by_cases hi : i = n
      · subst hi; simp [hp]
      · by_cases hl : i < n
        · simp [hl, show i < n + 1 by omega]
        · simp [hl, show ¬ i < n + 1 by omega]
def bitL (s : Nat) : List Nat := (List.range 8).filter fun i => s.testBit i
theorem range_filter {p : Nat → Bool} {n m : Nat} (h : n ≤ m) : (List.range m).filter (fun i => decide (i < n) && p i) = (List.range n).filter p := by
  induction m with
  | zero => have : n = 0 := by omega
            subst this; rfl
  | succ m ih =>
    by_cases hn : n = m + 1
    · subst hn
      refine List.filter_congr fun i hi => ?_
      rw [List.mem_range] at hi
      simp [hi]
    · rw [List.range_succ, List.filter_append, ih (by omega)]
      simp [show ¬ m < n by omega]
theorem bitL_msk (p : Nat → Bool) {n : Nat} (h : n ≤ 8) : bitL (msk p n) = (List.range n).filter p := by
  unfold bitL
  rw [← range_filter h]
  refine List.filter_congr fun i _ => ?_
  exact msk_bit p n i
end Go.Proofs.YthijegacjboclaaGreat
namespace Go.Proofs.YthijegacjboclaaGreat

/-- A kind of fields: its wrong corners, as bits, and its area. -/
def kdOf (D : Dsp) (l : List Pt) : Nat × Int := (msk (wcB D l) D.cs.length, arD D l)
/-- A story as a key: wrong corners, wrong walks, area. -/
def kyOf (D : Dsp) (l : List Pt) (s : Int) : Nat × Nat × Int := (msk (wcB D l) D.cs.length, msk (wwB D (arD D l) s) D.wks.length, arD D l)
def isK (D : Dsp) (k : Nat × Nat × Int) : Prop := ∃ l s, fldP D l ∧ gesP D (arD D l) ∧ skwP D s ∧ k = kyOf D l s
def toT (k : Nat × Nat × Int) : Tld := ⟨k.2.2, bitL k.1, bitL k.2.1⟩
def mny (k : Nat × Nat × Int) : Nat := (bitL k.1).length + (bitL k.2.1).length
theorem mny_eq (k : Nat × Nat × Int) : mny k = (toT k).many := rfl
theorem toT_ky {D : Dsp} (h : DspOk D) (l : List Pt) (s : Int) : toT (kyOf D l s) = tldOf D l s := by
  have h1 := h.l6
  have h2 := h.l8
  unfold toT kyOf tldOf wcL wwL
  simp only
  rw [bitL_msk _ (by omega), bitL_msk _ h2]
theorem isT_iff {D : Dsp} (h : DspOk D) {t : Tld} : isT D t ↔ ∃ k, isK D k ∧ toT k = t := by
  constructor
  · rintro ⟨l, s, h1, h2, h3, rfl⟩
    exact ⟨_, ⟨l, s, h1, h2, h3, rfl⟩, toT_ky h l s⟩
  · rintro ⟨k, ⟨l, s, h1, h2, h3, rfl⟩, rfl⟩
    exact ⟨l, s, h1, h2, h3, toT_ky h l s⟩
theorem bitL_len (s : Nat) : (bitL s).length ≤ 8 := by
  have := List.length_filter_le (fun i => s.testBit i) (List.range 8)
  simpa [bitL] using this
theorem mny_le (k : Nat × Nat × Int) : mny k ≤ 16 := by
  have h1 := bitL_len k.1
  have h2 := bitL_len k.2.1
  unfold mny
  omega
theorem mem_bitL {s i : Nat} : i ∈ bitL s ↔ i < 8 ∧ s.testBit i = true := by simp [bitL]
theorem isK_lt {D : Dsp} (h : DspOk D) {k : Nat × Nat × Int} (hk : isK D k) : k.1 < 256 ∧ k.2.1 < 256 ∧ D.wh.glo ≤ k.2.2 ∧ k.2.2 ≤ D.wh.ghi := by
  obtain ⟨l, s, h1, h2, h3, rfl⟩ := hk
  have a1 := msk_lt (wcB D l) D.cs.length
  have a2 := msk_lt (wwB D (arD D l) s) D.wks.length
  have b1 : 2 ^ D.cs.length ≤ 2 ^ 8 := Nat.pow_le_pow_right (by omega) (by have := h.l6; omega)
  have b2 : 2 ^ D.wks.length ≤ 2 ^ 8 := Nat.pow_le_pow_right (by omega) h.l8
  refine ⟨?_, ?_, h2.1, h2.2⟩
  · show msk (wcB D l) D.cs.length < 256
    omega
  · show msk (wwB D (arD D l) s) D.wks.length < 256
    omega
theorem msk_congr {p q : Nat → Bool} : ∀ {n : Nat}, (∀ i, i < n → p i = q i) → msk p n = msk q n
  | 0, _ => rfl
  | n + 1, h => by rw [msk, msk, msk_congr (n := n) fun i hi => h i (by omega), h n (by omega)]
theorem pat_app {l : List Pt} {p : Pt} {i : Nat} (h : i < l.length) : pat (l ++ [p]) i = pat l i := by
  simp [pat, List.getElem?_append_left h]
theorem pat_last {l : List Pt} {p : Pt} : pat (l ++ [p]) l.length = p := by
  simp [pat]
theorem wc_step (D : Dsp) (l : List Pt) (p : Pt) : msk (wcB D (l ++ [p])) (l.length + 1) = if p = pat D.cs l.length then msk (wcB D l) l.length else msk (wcB D l) l.length ||| 2 ^ l.length := by
  have e : msk (wcB D (l ++ [p])) l.length = msk (wcB D l) l.length := msk_congr fun i hi => by unfold wcB; rw [pat_app hi]
  rw [msk, e, msk_or]
  have hb : wcB D (l ++ [p]) l.length = !decide (p = pat D.cs l.length) := by unfold wcB; rw [pat_last]
  rw [hb]
  by_cases h : p = pat D.cs l.length
  · simp [h]
  · simp [h]
theorem msk_step (p : Nat → Bool) (n : Nat) : msk p (n + 1) = if p n = true then msk p n ||| 2 ^ n else msk p n := by
  rw [msk]
  by_cases h : p n = true
  · rw [if_pos h, if_pos h, msk_or]
  · rw [if_neg h, if_neg h, Nat.add_zero]
/-- The stories with the fewest faults among those of which something is so. -/
def minK (D : Dsp) (is : Nat × Nat × Int → Bool) (k : Nat × Nat × Int) : Prop := isK D k ∧ is k = true ∧ ∀ j, isK D j → is j = true → mny k ≤ mny j
theorem minT_iff {D : Dsp} (h : DspOk D) {t : Tld} : minT D t ↔ ∃ k, minK D (fun _ => true) k ∧ toT k = t := by
  constructor
  · rintro ⟨h1, h2⟩
    obtain ⟨k, hk, rfl⟩ := (isT_iff h).1 h1
    exact ⟨k, ⟨hk, rfl, fun j hj _ => h2 _ ((isT_iff h).2 ⟨j, hj, rfl⟩)⟩, rfl⟩
  · rintro ⟨k, ⟨hk, -, h2⟩, rfl⟩
    refine ⟨(isT_iff h).2 ⟨k, hk, rfl⟩, fun u hu => ?_⟩
    obtain ⟨j, hj, rfl⟩ := (isT_iff h).1 hu
    exact h2 j hj rfl
theorem foldor_bit (i : Nat) : ∀ (l : List Nat) (a : Nat), (l.foldl (fun a b => a ||| b) a).testBit i = (a.testBit i || l.any fun b => b.testBit i)
  | [], a => by simp
  | b :: l, a => by rw [List.foldl_cons, foldor_bit i l, Nat.testBit_or, List.any_cons, Bool.or_assoc]
theorem foldand_bit (i : Nat) : ∀ (l : List Nat) (a : Nat), (l.foldl (fun a b => a &&& b) a).testBit i = (a.testBit i && l.all fun b => b.testBit i)
  | [], a => by simp
  | b :: l, a => by rw [List.foldl_cons, foldand_bit i l, Nat.testBit_and, List.all_cons, Bool.and_assoc]
theorem foldor_lt : ∀ (l : List Nat) (a : Nat), a < 256 → (∀ b ∈ l, b < 256) → l.foldl (fun a b => a ||| b) a < 256
  | [], a, h, _ => h
  | b :: l, a, h, hl => by
    rw [List.foldl_cons]
    exact foldor_lt l _ (Nat.or_lt_two_pow (n := 8) h (hl b List.mem_cons_self)) fun c hc => hl c (List.mem_cons_of_mem _ hc)
theorem foldand_lt : ∀ (l : List Nat) (a : Nat), a < 256 → l.foldl (fun a b => a &&& b) a < 256
  | [], a, h => h
  | b :: l, a, h => by
    rw [List.foldl_cons]
    exact foldand_lt l _ (Nat.lt_of_le_of_lt Nat.and_le_left h)
theorem isK_bits {D : Dsp} {L : List (Nat × Nat × Int)} (hL : ∀ k, k ∈ L ↔ minK D (fun _ => true) k) {k : Nat × Nat × Int} (hk : k ∈ L) (i : Nat) : (k.1.testBit i = true → i < D.cs.length) ∧ (k.2.1.testBit i = true → i < D.wks.length) := by
  obtain ⟨l, s, h1, h2, h3, rfl⟩ := ((hL k).1 hk).1
  unfold kyOf
  simp only [msk_bit, Bool.and_eq_true, decide_eq_true_eq]
  exact ⟨fun h => h.1, fun h => h.1⟩
section
variable {D : Dsp} (h : DspOk D) {L : List (Nat × Nat × Int)} (hL : ∀ k, k ∈ L ↔ minK D (fun _ => true) k) {a : Nat × Nat × Int} (ha : a ∈ L)
include h hL
include ha
theorem bl_cor : bitL ((L.map (·.1)).foldl (fun a b => a ||| b) a.1) = (List.range D.cs.length).filter (blC D) := by
  have h6 := h.l6
  unfold bitL
  rw [← range_filter (p := blC D) (show D.cs.length ≤ 8 by omega)]
  refine List.filter_congr fun i _ => ?_
  rw [foldor_bit, Bool.eq_iff_iff]
  simp only [Bool.or_eq_true, List.any_map, List.any_eq_true, Function.comp_apply, Bool.and_eq_true, decide_eq_true_eq, blC]
  constructor
  · intro hi
    obtain ⟨k, hk, hb⟩ : ∃ k ∈ L, k.1.testBit i = true := hi.elim (fun h => ⟨a, ha, h⟩) id
    have hn := (isK_bits hL hk i).1 hb
    exact ⟨hn, toT k, (minT_iff h).2 ⟨k, (hL k).1 hk, rfl⟩, mem_bitL.2 ⟨by omega, hb⟩⟩
  · rintro ⟨hn, t, ht, hb⟩
    obtain ⟨k, hk, rfl⟩ := (minT_iff h).1 ht
    exact .inr ⟨k, (hL k).2 hk, (mem_bitL.1 hb).2⟩
theorem bl_wlk : bitL ((L.map (·.2.1)).foldl (fun a b => a ||| b) a.2.1) = (List.range D.wks.length).filter (blW D) := by
  have h8 := h.l8
  unfold bitL
  rw [← range_filter (p := blW D) h8]
  refine List.filter_congr fun i _ => ?_
  rw [foldor_bit, Bool.eq_iff_iff]
  simp only [Bool.or_eq_true, List.any_map, List.any_eq_true, Function.comp_apply, Bool.and_eq_true, decide_eq_true_eq, blW]
  constructor
  · intro hi
    obtain ⟨k, hk, hb⟩ : ∃ k ∈ L, k.2.1.testBit i = true := hi.elim (fun h => ⟨a, ha, h⟩) id
    have hn := (isK_bits hL hk i).2 hb
    exact ⟨hn, toT k, (minT_iff h).2 ⟨k, (hL k).1 hk, rfl⟩, mem_bitL.2 ⟨by omega, hb⟩⟩
  · rintro ⟨hn, t, ht, hb⟩
    obtain ⟨k, hk, rfl⟩ := (minT_iff h).1 ht
    exact .inr ⟨k, (hL k).2 hk, (mem_bitL.1 hb).2⟩
theorem su_cor : bitL ((L.map (·.1)).foldl (fun a b => a &&& b) a.1) = (List.range D.cs.length).filter (suC D) := by
  have h6 := h.l6
  unfold bitL
  rw [← range_filter (p := suC D) (show D.cs.length ≤ 8 by omega)]
  refine List.filter_congr fun i _ => ?_
  rw [foldand_bit, Bool.eq_iff_iff]
  simp only [Bool.and_eq_true, List.all_map, List.all_eq_true, Function.comp_apply, decide_eq_true_eq, suC]
  constructor
  · rintro ⟨h1, h2⟩
    have hn := (isK_bits hL ha i).1 h1
    refine ⟨hn, fun t ht => ?_⟩
    obtain ⟨k, hk, rfl⟩ := (minT_iff h).1 ht
    exact mem_bitL.2 ⟨by omega, h2 k ((hL k).2 hk)⟩
  · rintro ⟨hn, h2⟩
    have key : ∀ k ∈ L, k.1.testBit i = true := fun k hk => (mem_bitL.1 (h2 (toT k) ((minT_iff h).2 ⟨k, (hL k).1 hk, rfl⟩))).2
    exact ⟨key a ha, key⟩
theorem su_wlk : bitL ((L.map (·.2.1)).foldl (fun a b => a &&& b) a.2.1) = (List.range D.wks.length).filter (suW D) := by
  have h8 := h.l8
  unfold bitL
  rw [← range_filter (p := suW D) h8]
  refine List.filter_congr fun i _ => ?_
  rw [foldand_bit, Bool.eq_iff_iff]
  simp only [Bool.and_eq_true, List.all_map, List.all_eq_true, Function.comp_apply, decide_eq_true_eq, suW]
  constructor
  · rintro ⟨h1, h2⟩
    have hn := (isK_bits hL ha i).2 h1
    refine ⟨hn, fun t ht => ?_⟩
    obtain ⟨k, hk, rfl⟩ := (minT_iff h).1 ht
    exact mem_bitL.2 ⟨by omega, h2 k ((hL k).2 hk)⟩
  · rintro ⟨hn, h2⟩
    have key : ∀ k ∈ L, k.2.1.testBit i = true := fun k hk => (mem_bitL.1 (h2 (toT k) ((minT_iff h).2 ⟨k, (hL k).1 hk, rfl⟩))).2
    exact ⟨key a ha, key⟩
end
end Go.Proofs.YthijegacjboclaaGreat
namespace Go.Proofs.YthijegacjboclaaGreat

theorem lst_step {α : Type} {P P' : α → Prop} {f : α → Nat} {o : Option Nat} (h : Lst P f o) (x : α) (hP : ∀ a, P' a ↔ P a ∨ a = x) :
    Lst P' f (some (match o with | none => f x | some n => min n (f x))) := by
  cases o with
  | none =>
    refine ⟨⟨x, (hP x).2 (.inr rfl), rfl⟩, fun a ha => ?_⟩
    rcases (hP a).1 ha with ha | rfl
    · exact absurd ha (h a)
    · exact Nat.le_refl _
  | some n =>
    obtain ⟨⟨b, hb, hn⟩, h2⟩ := h
    refine ⟨?_, fun a ha => ?_⟩
    · rcases Nat.le_total n (f x) with k | k
      · exact ⟨b, (hP b).2 (.inl hb), by show f b = min n (f x); omega⟩
      · exact ⟨x, (hP x).2 (.inr rfl), by show f x = min n (f x); omega⟩
    · show min n (f x) ≤ f a
      rcases (hP a).1 ha with ha | rfl
      · have := h2 a ha; omega
      · omega
theorem lst_same {α : Type} {P P' : α → Prop} {f : α → Nat} {o : Option Nat} (h : Lst P f o) (hP : ∀ a, P' a ↔ P a) : Lst P' f o := by
  have e : P' = P := funext fun a => propext (hP a)
  rw [e]; exact h
/-- A number, -1 if there is none. -/
def optI : Option Nat → Int
  | none => -1
  | some n => n
theorem mem_take_succ {α : Type} {l : List α} {k : Nat} (h : k < l.length) {a : α} : a ∈ l.take (k + 1) ↔ a ∈ l.take k ∨ a = l[k] := by
  rw [List.take_add_one, List.getElem?_eq_getElem h, List.mem_append]
  simp
section
variable {D : Dsp} {TL : List Tld} (hT : ∀ t, t ∈ TL ↔ isT D t) {m : Nat} (hm : Lst (isT D) Tld.many (some m))
def mins (TL : List Tld) (m : Nat) : List Tld := TL.filter fun t => decide (t.many = m)
include hT hm
theorem mem_mins {t : Tld} : t ∈ mins TL m ↔ minT D t := by
  unfold mins
  rw [List.mem_filter, hT, decide_eq_true_eq]
  obtain ⟨⟨b, hb, hn⟩, h2⟩ := hm
  constructor
  · rintro ⟨h1, rfl⟩
    exact ⟨h1, fun u hu => h2 u hu⟩
  · rintro ⟨h1, h3⟩
    refine ⟨h1, ?_⟩
    have := h2 t h1
    have := h3 b hb
    omega
theorem cnt_pos (g : Tld → List Nat) (n : Nat) : 0 < ((mins TL m).map g).countP (fun l => l.contains n) ↔ ∃ t, minT D t ∧ n ∈ g t := by
  rw [List.countP_pos_iff]
  constructor
  · rintro ⟨l, hl, hn⟩
    obtain ⟨t, ht, rfl⟩ := List.mem_map.1 hl
    exact ⟨t, (mem_mins hT hm).1 ht, by simpa using hn⟩
  · rintro ⟨t, ht, hn⟩
    exact ⟨g t, List.mem_map.2 ⟨t, (mem_mins hT hm).2 ht, rfl⟩, by simpa using hn⟩
theorem cnt_all (g : Tld → List Nat) (n : Nat) : ((mins TL m).map g).countP (fun l => l.contains n) = ((mins TL m).map g).length ↔ ∀ t, minT D t → n ∈ g t := by
  rw [List.countP_eq_length]
  constructor
  · intro h t ht
    simpa using h (g t) (List.mem_map.2 ⟨t, (mem_mins hT hm).2 ht, rfl⟩)
  · intro h l hl
    obtain ⟨t, ht, rfl⟩ := List.mem_map.1 hl
    simpa using h t ((mem_mins hT hm).1 ht)
theorem some_cor (k : Nat) : (List.range k).filter (fun n => decide (0 < ((mins TL m).map Tld.wc).countP (fun l => l.contains n))) = (List.range k).filter (blC D) := by
  refine List.filter_congr fun n _ => ?_
  rw [Bool.eq_iff_iff, blC_iff, decide_eq_true_eq]
  exact cnt_pos hT hm _ n
theorem some_wlk (k : Nat) : (List.range k).filter (fun n => decide (0 < ((mins TL m).map Tld.ww).countP (fun l => l.contains n))) = (List.range k).filter (blW D) := by
  refine List.filter_congr fun n _ => ?_
  rw [Bool.eq_iff_iff, blW_iff, decide_eq_true_eq]
  exact cnt_pos hT hm _ n
theorem all_cor (k : Nat) : (List.range k).filter (fun n => decide (((mins TL m).map Tld.wc).countP (fun l => l.contains n) = ((mins TL m).map Tld.wc).length)) = (List.range k).filter (suC D) := by
  refine List.filter_congr fun n _ => ?_
  rw [Bool.eq_iff_iff, suC_iff, decide_eq_true_eq]
  exact cnt_all hT hm _ n
theorem all_wlk (k : Nat) : (List.range k).filter (fun n => decide (((mins TL m).map Tld.ww).countP (fun l => l.contains n) = ((mins TL m).map Tld.ww).length)) = (List.range k).filter (suW D) := by
  refine List.filter_congr fun n _ => ?_
  rw [Bool.eq_iff_iff, suW_iff, decide_eq_true_eq]
  exact cnt_all hT hm _ n
end
theorem isT_len {D : Dsp} {t : Tld} (h : isT D t) : t.wc.length ≤ D.cs.length ∧ t.ww.length ≤ D.wks.length ∧ D.wh.glo ≤ t.area ∧ t.area ≤ D.wh.ghi := by
  obtain ⟨l, s, h1, h2, h3, rfl⟩ := h
  exact ⟨wcL_len D l, wwL_len D _ s, h2.1, h2.2⟩
end Go.Proofs.YthijegacjboclaaGreat
