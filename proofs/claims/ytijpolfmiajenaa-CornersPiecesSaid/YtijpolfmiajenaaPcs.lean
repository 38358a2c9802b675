/- The numbers of a polygon are the sums of those of its triangles that are not flat. -/
import Derived.Test.YtijpolfmiajenaaTgw
import Derived.Test.YtijpolfmiajenaaMom
namespace Go.Proofs.Ytijpolfmiajenaa

/-- The three points of a triangle. -/
def trP (l : List Pt) (t : Int × Int × Int) : List Pt := [pat l t.1.toNat, pat l t.2.1.toNat, pat l t.2.2.toNat]
theorem sum_trP (f : Pt → Pt → Int) (l : List Pt) (t : Int × Int × Int) : sumOf f (trP l t) = triF (gOf f) l t := by
  rw [sumOf_tot]
  have e : ∀ a b c : Pt, tot (gOf f) (ring [a, b, c]) = gOf f a b + (gOf f b c + (gOf f c a + 0)) := fun _ _ _ => rfl
  unfold trP triF
  rw [e]
  omega
theorem sum_trs {l : List Pt} {s : Int} {T : List (Int × Int × Int)} (h : TrisOk l s T) (f : Pt → Pt → Int) (hf : ∀ a b, f b a = f a b) : sumOf f l = triS (gOf f) l T := by
  rw [sumOf_tot]
  refine h.sum _ fun a b => ?_
  unfold gOf
  rw [hf a b]
  unfold cross
  grind
theorem trP_pt {l : List Pt} (hpt : ∀ i, i < l.length → isPt (pat l i) = true) {s : Int} {t : Int × Int × Int} (h : TriOk l s t) : isPt (pat l t.1.toNat) = true ∧ isPt (pat l t.2.1.toNat) = true ∧ isPt (pat l t.2.2.toNat) = true := by
  obtain ⟨h1, h2, h3, h4, -⟩ := h
  exact ⟨hpt _ (by omega), hpt _ (by omega), hpt _ (by omega)⟩
/-- A triangle that is not flat is a valid polygon. -/
theorem trP_ok {l : List Pt} (hpt : ∀ i, i < l.length → isPt (pat l i) = true) {s : Int} {t : Int × Int × Int} (h : TriOk l s t) (hn : triT l t ≠ 0) : Ok (trP l t) := by
  obtain ⟨p1, p2, p3⟩ := trP_pt hpt h
  unfold triT at hn
  unfold trP
  generalize pat l t.1.toNat = a at *
  generalize pat l t.2.1.toNat = b at *
  generalize pat l t.2.2.toNat = c at *
  have hab : a ≠ b := fun e => by rw [e, turn_aab] at hn; exact hn rfl
  have hbc : b ≠ c := fun e => by rw [e, turn_abb] at hn; exact hn rfl
  have hac : a ≠ c := fun e => by rw [e, turn_aba] at hn; exact hn rfl
  have r1 := turn_rot a b c
  have r2 := turn_rot b c a
  have no : ∀ x y z : Pt, turn x y z ≠ 0 → has x y z = false := fun x y z h => by
    cases q : has x y z with
    | false => rfl
    | true => exact absurd (has_turn q) h
  have n0 : nxt [a, b, c] 0 = 1 := by simp [nxt]
  have n1 : nxt [a, b, c] 1 = 2 := by simp [nxt]
  have n2 : nxt [a, b, c] 2 = 0 := by simp [nxt]
  refine ⟨by simp, fun i hi => ?_, fun i hi k hk => ?_, fun i hi => ?_, fun i hi k hk => ?_⟩
  · match i, hi with
    | 0, _ => exact p1
    | 1, _ => exact p2
    | 2, _ => exact p3
  · match i, k, hi, hk with
    | 1, 0, _, _ => exact hab
    | 2, 0, _, _ => exact hac
    | 2, 1, _, _ => exact hbc
  · match i, hi with
    | 0, _ => rw [n0, n1]; exact ⟨no a b c hn, no b c a (by rw [r1]; exact hn)⟩
    | 1, _ => rw [n1, n2]; exact ⟨no b c a (by rw [r1]; exact hn), no c a b (by rw [r2, r1]; exact hn)⟩
    | 2, _ => rw [n2, n0]; exact ⟨no c a b (by rw [r2, r1]; exact hn), no a b c hn⟩
  · match i, k, hi, hk with
    | 0, 0, _, _ => exact .inl rfl
    | 0, 1, _, _ => exact .inr (.inl n0.symm)
    | 0, 2, _, _ => exact .inr (.inr (.inl n2))
    | 1, 0, _, _ => exact .inr (.inr (.inl n0))
    | 1, 1, _, _ => exact .inl rfl
    | 1, 2, _, _ => exact .inr (.inl n1.symm)
    | 2, 0, _, _ => exact .inr (.inl n2.symm)
    | 2, 1, _, _ => exact .inr (.inr (.inl n1))
    | 2, 2, _, _ => exact .inl rfl
theorem trP_no {l : List Pt} {t : Int × Int × Int} (h : triT l t = 0) : ¬ Ok (trP l t) := fun hok => by
  have := tw_ne hok
  apply this
  show sumOf oneF (trP l t) = 0
  rw [sum_trP]
  rw [← h]
  unfold triF triT gOf oneF cross turn
  grind
theorem tw_trP (l : List Pt) (t : Int × Int × Int) : tw (trP l t) = triT l t := by
  show sumOf oneF (trP l t) = _
  rw [sum_trP]
  unfold triF triT gOf oneF cross turn
  grind
/-- The six functions: what a flat triangle gives is 0. -/
structure Six (f : Pt → Pt → Int) : Prop where
  sym : ∀ a b, f b a = f a b
  bd : ∀ a b, isPt a = true → isPt b = true → -1000000 ≤ f a b ∧ f a b ≤ 1000000
  flat : ∀ a b c : Pt, turn a b c = 0 → f a b * cross a b + f b c * cross b c + f c a * cross c a = 0
theorem six_one : Six oneF := ⟨fun _ _ => rfl, one_bd, fun a b c h => by
  have e : oneF a b * cross a b + oneF b c * cross b c + oneF c a * cross c a = turn a b c := by unfold oneF cross turn; grind
  rw [e, h]⟩
theorem six_fx : Six fxF := ⟨fun a b => by unfold fxF; omega, fx_bd, fun a b c h => by
  have e : fxF a b * cross a b + fxF b c * cross b c + fxF c a * cross c a = (a.1 + b.1 + c.1) * turn a b c := by unfold fxF cross turn; grind
  rw [e, h, Int.mul_zero]⟩
theorem six_fy : Six fyF := ⟨fun a b => by unfold fyF; omega, fy_bd, fun a b c h => by
  have e : fyF a b * cross a b + fyF b c * cross b c + fyF c a * cross c a = (a.2 + b.2 + c.2) * turn a b c := by unfold fyF cross turn; grind
  rw [e, h, Int.mul_zero]⟩
theorem six_xx : Six xxF := ⟨fun a b => by unfold xxF sqF; grind, xx_bd, fun a b c h => by
  have e : xxF a b * cross a b + xxF b c * cross b c + xxF c a * cross c a = (a.1 * a.1 + b.1 * b.1 + c.1 * c.1 + a.1 * b.1 + b.1 * c.1 + c.1 * a.1) * turn a b c := by unfold xxF sqF cross turn; grind
  rw [e, h, Int.mul_zero]⟩
theorem six_yy : Six yyF := ⟨fun a b => by unfold yyF sqF; grind, yy_bd, fun a b c h => by
  have e : yyF a b * cross a b + yyF b c * cross b c + yyF c a * cross c a = (a.2 * a.2 + b.2 * b.2 + c.2 * c.2 + a.2 * b.2 + b.2 * c.2 + c.2 * a.2) * turn a b c := by unfold yyF sqF cross turn; grind
  rw [e, h, Int.mul_zero]⟩
theorem six_xy : Six xyF := ⟨fun a b => by unfold xyF; grind, xy_bd, fun a b c h => by
  have e : xyF a b * cross a b + xyF b c * cross b c + xyF c a * cross c a = ((a.1 + b.1 + c.1) * (a.2 + b.2 + c.2) + a.1 * a.2 + b.1 * b.2 + c.1 * c.2) * turn a b c := by unfold xyF cross turn; grind
  rw [e, h, Int.mul_zero]⟩
/-- What the first k triangles give. -/
def upF (f : Pt → Pt → Int) (l : List Pt) (T : List (Int × Int × Int)) (k : Nat) : Int := triS (gOf f) l (T.take k)
theorem upF_next (f : Pt → Pt → Int) (l : List Pt) {T : List (Int × Int × Int)} {k : Nat} (h : k < T.length) : upF f l T (k + 1) = upF f l T k + sumOf f (trP l (tat T k)) := by
  unfold upF
  have e : T.take (k + 1) = T.take k ++ [tat T k] := by
    rw [List.take_succ_eq_append_getElem h]
    simp [tat, List.getD, h]
  rw [e, triS_append, sum_trP]
  show _ + (triF (gOf f) l (tat T k) + 0) = _
  omega
theorem upF_flat {f : Pt → Pt → Int} (hf : Six f) (l : List Pt) {T : List (Int × Int × Int)} {k : Nat} (h : k < T.length) (h0 : triT l (tat T k) = 0) : upF f l T (k + 1) = upF f l T k := by
  rw [upF_next f l h, sum_trP]
  have : triF (gOf f) l (tat T k) = 0 := hf.flat _ _ _ h0
  omega
theorem tat_mem {T : List (Int × Int × Int)} {k : Nat} (h : k < T.length) : tat T k ∈ T := by
  have : tat T k = T[k] := by simp [tat, List.getD, h]
  rw [this]
  exact List.getElem_mem _
theorem upF_bd {f : Pt → Pt → Int} (hf : Six f) {l : List Pt} (hpt : ∀ i, i < l.length → isPt (pat l i) = true) {s : Int} {T : List (Int × Int × Int)} (hT : TrisOk l s T) : ∀ k, k ≤ T.length → -(800000000000 * (k : Int)) ≤ upF f l T k ∧ upF f l T k ≤ 800000000000 * (k : Int)
  | 0, _ => by simp [upF, triS]
  | k + 1, h => by
    have h1 := upF_bd hf hpt hT k (by omega)
    obtain ⟨p1, p2, p3⟩ := trP_pt hpt (hT.tri _ (tat_mem (T := T) (k := k) (by omega)))
    have h2 := sumOf_bd (f := f) (l := trP l (tat T k)) (by simp [trP]) (fun i hi => by
      match i, hi with
      | 0, _ => exact p1
      | 1, _ => exact p2
      | 2, _ => exact p3) hf.bd
    rw [upF_next f l (by omega)]
    omega
theorem upF_all {f : Pt → Pt → Int} (hf : Six f) {l : List Pt} {s : Int} {T : List (Int × Int × Int)} (hT : TrisOk l s T) : upF f l T T.length = sumOf f l := by
  unfold upF
  rw [List.take_length, sum_trs hT f hf.sym]
/-- The sign of a triangle that is not flat. -/
theorem trP_sign {l : List Pt} {s : Int} (hs : s = 1 ∨ s = -1) (hp : 0 < s * tw l) {t : Int × Int × Int} (h : TriOk l s t) (hn : triT l t ≠ 0) : decide (0 < tw (trP l t)) = decide (0 < tw l) := by
  have h1 := h.2.2.2.2
  rw [tw_trP]
  rcases hs with rfl | rfl
  · rw [decide_eq_true (show 0 < triT l t by omega), decide_eq_true (show 0 < tw l by omega)]
  · rw [decide_eq_false (show ¬ 0 < triT l t by omega), decide_eq_false (show ¬ 0 < tw l by omega)]
end Go.Proofs.Ytijpolfmiajenaa
