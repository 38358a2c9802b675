/- The law CornersCentre answers true for any corners, and leaves them as they were. -/
import Derived.Test.YtijpolfmiajenaaPts
import Derived.Test.YtijpolfmiajenaaOpen
import Derived.Test.YtijpolfmiajenaaTold
import Derived.Test.YtijpolfmiajenaaLow
import Derived.Deep.RegionHeld3
import Derived.StillTactics
import Derived.BigRegion
import Derived.Test.YtijpolfmiajenaaRows
namespace Go.Proofs.Ytijpolfmiajenaa
open Go.ChangeShapes Go.WideShapes Go.RowKit
attribute [local go_sem] After.cell After.frozen

def loTo (f : Pt → Int) (l : List Pt) : Nat → Int
  | 0 => f (pat l 0)
  | k + 1 => min (loTo f l k) (f (pat l k))
def hiTo (f : Pt → Int) (l : List Pt) : Nat → Int
  | 0 => f (pat l 0)
  | k + 1 => max (hiTo f l k) (f (pat l k))
def smTo (f : Pt → Int) (l : List Pt) : Nat → Int
  | 0 => 0
  | k + 1 => smTo f l k + f (pat l k)
theorem loTo_le (f : Pt → Int) (l : List Pt) : ∀ n k, k < n → loTo f l n ≤ f (pat l k)
  | 0, k, h => by omega
  | n + 1, k, h => by
    rcases Nat.lt_succ_iff_lt_or_eq.1 h with h | rfl
    · have := loTo_le f l n k h; simp only [loTo]; omega
    · simp only [loTo]; omega
theorem le_hiTo (f : Pt → Int) (l : List Pt) : ∀ n k, k < n → f (pat l k) ≤ hiTo f l n
  | 0, k, h => by omega
  | n + 1, k, h => by
    rcases Nat.lt_succ_iff_lt_or_eq.1 h with h | rfl
    · have := le_hiTo f l n k h; simp only [hiTo]; omega
    · simp only [hiTo]; omega
theorem to_bd {f : Pt → Int} {l : List Pt} (hl : 0 < l.length) (h : ∀ i, i < l.length → -200 ≤ f (pat l i) ∧ f (pat l i) ≤ 200) : ∀ k, k ≤ l.length → (-200 ≤ loTo f l k ∧ loTo f l k ≤ 200) ∧ (-200 ≤ hiTo f l k ∧ hiTo f l k ≤ 200) ∧ (-(200 * (k : Int)) ≤ smTo f l k ∧ smTo f l k ≤ 200 * (k : Int))
  | 0, _ => by
    have := h 0 hl
    simp only [loTo, hiTo, smTo]; omega
  | k + 1, hk => by
    have h1 := to_bd hl h k (by omega)
    have h2 := h k (by omega)
    simp only [loTo, hiTo, smTo]
    omega

theorem tot_lin {g h : Pt → Pt → Int} {F : Pt → Pt → Int} {k : Int} (hF : ∀ a b, F a b = g a b + k * h a b) : ∀ E : List Edge, tot F E = tot g E + k * tot h E
  | [] => by simp [tot]
  | e :: E => by
    simp only [tot, tot_lin hF E, hF, Int.mul_add]
    omega
theorem tw_bd' {l : List Pt} (h : Ok l) : -2560000 ≤ tw l ∧ tw l ≤ 2560000 := by
  have h3 := h.1
  rw [tw_fan (by omega)]
  have hb : ∀ k, k + 2 ≤ l.length → -(320000 * (k : Int)) ≤ fanTo turn l k ∧ fanTo turn l k ≤ 320000 * (k : Int) := by
    intro k
    induction k with
    | zero => intro _; simp [fanTo]
    | succ k ih =>
      intro hk
      have h1 := ih (by omega)
      have h2 := turn_bd (h.2.1 0 (by omega)) (h.2.1 (k + 1) (by omega)) (h.2.1 (k + 2) (by omega))
      simp only [fanTo]
      omega
  have := hb (l.length - 2) (by omega)
  unfold fan
  omega
theorem low_sign {l : List Pt} {s m : Int} (hs : s = 1 ∨ s = -1) (ht : 0 < s * tw l) : 0 < s * divOf m (3 * tw l) := by
  have h0 : (3 * tw l) ≠ 0 := by rcases hs with rfl | rfl <;> omega
  have hg := gcd_pos (a := m) h0
  unfold divOf
  rcases hs with rfl | rfl
  · rw [if_neg (by omega)]; omega
  · rw [if_pos (by omega)]; omega
/-- The centre is greater than the least number, with the sign of the area. -/
theorem cen_gt {l : List Pt} {s m lo : Int} (hs : s = 1 ∨ s = -1) (ht : 0 < s * tw l) (h : 0 < s * (m - 3 * lo * tw l)) : lo * (lowOf m (3 * tw l)).2 < (lowOf m (3 * tw l)).1 := by
  have hd := low_sign (m := m) hs ht
  obtain ⟨e1, e2⟩ := low_exact m (3 * tw l)
  have e : s * (m - 3 * lo * tw l) = s * divOf m (3 * tw l) * ((lowOf m (3 * tw l)).1 - lo * (lowOf m (3 * tw l)).2) := by
    have : 3 * lo * tw l = lo * (3 * tw l) := by grind
    rw [this]
    generalize divOf m (3 * tw l) = d at *
    generalize (lowOf m (3 * tw l)).1 = x at *
    generalize (lowOf m (3 * tw l)).2 = y at *
    rw [e2, e1]
    grind
  rw [e] at h
  have := pos_of_mul hd h
  omega
theorem cen_lt {l : List Pt} {s m hi : Int} (hs : s = 1 ∨ s = -1) (ht : 0 < s * tw l) (h : 0 < s * (3 * hi * tw l - m)) : (lowOf m (3 * tw l)).1 < hi * (lowOf m (3 * tw l)).2 := by
  have hd := low_sign (m := m) hs ht
  obtain ⟨e1, e2⟩ := low_exact m (3 * tw l)
  have e : s * (3 * hi * tw l - m) = s * divOf m (3 * tw l) * (hi * (lowOf m (3 * tw l)).2 - (lowOf m (3 * tw l)).1) := by
    have : 3 * hi * tw l = hi * (3 * tw l) := by grind
    rw [this]
    generalize divOf m (3 * tw l) = d at *
    generalize (lowOf m (3 * tw l)).1 = x at *
    generalize (lowOf m (3 * tw l)).2 = y at *
    rw [e2, e1]
    grind
  rw [e] at h
  have := pos_of_mul hd h
  omega
/-- The centre lies strictly within the corners. -/
theorem cen_within {l : List Pt} (hok : Ok l) : (loTo (·.1) l l.length * (cenX l).2 < (cenX l).1 ∧ (cenX l).1 < hiTo (·.1) l l.length * (cenX l).2) ∧ (loTo (·.2) l l.length * (cenY l).2 < (cenY l).1 ∧ (cenY l).1 < hiTo (·.2) l l.length * (cenY l).2) := by
  obtain ⟨s, hs, hT, ht⟩ := ok_area hok
  have hmx : mx l = tot (gOf fxF) (ring l) := sumOf_tot fxF l
  have hmy : my l = tot (gOf fyF) (ring l) := sumOf_tot fyF l
  have htw := tw_tot l
  have l1 : ∀ p ∈ l, loTo (·.1) l l.length ≤ lin 1 0 p := fun p hp => by
    obtain ⟨i, hi, rfl⟩ := mem_pat.1 hp
    have := loTo_le (·.1) l l.length i hi
    simp only [lin]; omega
  have l2 : ∀ p ∈ l, - hiTo (·.1) l l.length ≤ lin (-1) 0 p := fun p hp => by
    obtain ⟨i, hi, rfl⟩ := mem_pat.1 hp
    have := le_hiTo (·.1) l l.length i hi
    simp only [lin]; omega
  have l3 : ∀ p ∈ l, loTo (·.2) l l.length ≤ lin 0 1 p := fun p hp => by
    obtain ⟨i, hi, rfl⟩ := mem_pat.1 hp
    have := loTo_le (·.2) l l.length i hi
    simp only [lin]; omega
  have l4 : ∀ p ∈ l, - hiTo (·.2) l l.length ≤ lin 0 (-1) p := fun p hp => by
    obtain ⟨i, hi, rfl⟩ := mem_pat.1 hp
    have := le_hiTo (·.2) l l.length i hi
    simp only [lin]; omega
  have k1 := moment_gt hT 1 0 _ l1 (.inl (by omega))
  have k2 := moment_gt hT (-1) 0 _ l2 (.inl (by omega))
  have k3 := moment_gt hT 0 1 _ l3 (.inr (by omega))
  have k4 := moment_gt hT 0 (-1) _ l4 (.inr (by omega))
  rw [tot_lin (g := gOf fxF) (h := cross) (k := -(3 * loTo (·.1) l l.length)) (fun a b => by unfold gOf fxF lin; grind), ← hmx, ← htw] at k1
  rw [tot_lin (g := fun a b => - gOf fxF a b) (h := cross) (k := 3 * hiTo (·.1) l l.length) (fun a b => by unfold gOf fxF lin; grind), tot_lin (g := fun _ _ => 0) (h := gOf fxF) (k := -1) (fun a b => by omega), ← hmx, ← htw] at k2
  rw [tot_lin (g := gOf fyF) (h := cross) (k := -(3 * loTo (·.2) l l.length)) (fun a b => by unfold gOf fyF lin; grind), ← hmy, ← htw] at k3
  rw [tot_lin (g := fun a b => - gOf fyF a b) (h := cross) (k := 3 * hiTo (·.2) l l.length) (fun a b => by unfold gOf fyF lin; grind), tot_lin (g := fun _ _ => 0) (h := gOf fyF) (k := -1) (fun a b => by omega), ← hmy, ← htw] at k4
  have z : ∀ E : List Edge, tot (fun _ _ => 0) E = 0 := fun E => by
    induction E with
    | nil => rfl
    | cons e E ih => simp only [tot, ih]; rfl
  rw [z] at k2 k4
  refine ⟨⟨cen_gt hs ht ?_, cen_lt hs ht ?_⟩, cen_gt hs ht ?_, cen_lt hs ht ?_⟩
  · have : mx l - 3 * loTo (·.1) l l.length * tw l = mx l + -(3 * loTo (·.1) l l.length) * tw l := by grind
    rw [this]; exact k1
  · have : 3 * hiTo (·.1) l l.length * tw l - mx l = 0 + -1 * mx l + 3 * hiTo (·.1) l l.length * tw l := by omega
    rw [this]; exact k2
  · have : my l - 3 * loTo (·.2) l l.length * tw l = my l + -(3 * loTo (·.2) l l.length) * tw l := by grind
    rw [this]; exact k3
  · have : 3 * hiTo (·.2) l l.length * tw l - my l = 0 + -1 * my l + 3 * hiTo (·.2) l l.length * tw l := by omega
    rw [this]; exact k4
theorem three_first {l : List Pt} (h : l.length = 3) : mx l = tw l * smTo (·.1) l 3 ∧ my l = tw l * smTo (·.2) l 3 := by
  rw [mx_fan (by omega), my_fan (by omega), tw_fan (by omega)]
  unfold fan
  rw [h]
  simp only [fanTo, smTo, fFst, fSnd]
  constructor <;> grind

set_option maxHeartbeats 1000000 in
theorem between_yes (r : Pt) (lo hi : Int) (w : World) (h1 : 1 ≤ r.2) (h2 : r.2 < 1099511627776) (h3 : lo * r.2 < r.1) (h4 : r.1 < hi * r.2) (hlo : -200 ≤ lo ∧ lo ≤ 200) (hhi : -200 ≤ hi ∧ hi ≤ 200) :
    Calls Try.prog 33 #[(Value.agg #[.int .i64 r.1, .int .i64 r.2]), (Value.int .i64 (lo)), (Value.int .i64 (hi))] w fun e w' => e = .returned (.bool true) ∧ Below w.heap.size w w' := by
  have b1 := mul_bd (A := 200) (B := 1099511627776) (x := lo) (y := r.2) (by omega) (by omega) (by omega) (by omega)
  have b2 := mul_bd (A := 200) (B := 1099511627776) (x := hi) (y := r.2) (by omega) (by omega) (by omega) (by omega)
  have m1 := wrap64_in (x := lo * r.2) (by omega) (by omega)
  have m2 := wrap64_in (x := hi * r.2) (by omega) (by omega)
  go_enter Try.func33, Try.ntmps33
  go_wp2
  go_ret
  exact ⟨rfl, by (repeat (first | with_reducible exact Below.refl _ _ | with_reducible apply bl_alloc | with_reducible apply bl_drew | with_reducible apply bl_after | (with_reducible refine bl_call ?_ (by assumption))))⟩

section
variable {W : World} {A B C : Obj} {t : TypeId} {a : Array Value}
theorem blk_a : Blk (((W.alloc (.cells a t)).alloc B).alloc C) W.heap.size t a := ((Blk.new W t a).alloc _).alloc _
theorem blk_b : Blk (((W.alloc A).alloc (.cells a t)).alloc C) (W.heap.size + 1) t a := by
  have h := (Blk.new (W.alloc A) t a).alloc C
  simpa using h
theorem blk_c : Blk (((W.alloc A).alloc B).alloc (.cells a t)) (W.heap.size + 1 + 1) t a := by
  have h := Blk.new ((W.alloc A).alloc B) t a
  simpa using h
end

set_option maxRecDepth 100000 in
set_option maxHeartbeats 4000000 in
theorem lawCentre_any (A : Option Addr) (ca : Nat) (l : List Pt) (w : World) (ha : Pts w A l) (hla : l.length ≤ 9223372036854775807) :
    Calls Try.prog 9 #[.slice A l.length ca] w fun e w' => e = .returned (.bool true) ∧ Below w.heap.size w w' := by
  have hr := ready_any A ca l w ha hla
  by_cases hok : Ok l
  · rw [decide_eq_true hok] at hr
    obtain ⟨b, o, rfl, hp⟩ := ha.ok hok
    have hl10 := hok.1
    have ht1 := Lib.hid fun (V : World) (h : Below w.heap.size w V) => told_ok b o ca l V (hp.below h) hok
    have tn := tw_ne hok
    have tb := tw_bd' hok
    have tx := mx_bd hok
    have ty := my_bd hok
    have d1 : 1 ≤ (cenX l).2 := low_den (by omega)
    have d2 : 1 ≤ (cenY l).2 := low_den (by omega)
    have d3 := low_bd (a := mx l) (b := 3 * tw l) (A := 800000000000) (B := 8000000) (by omega) (by omega)
    have d4 := low_bd (a := my l) (b := 3 * tw l) (A := 800000000000) (B := 8000000) (by omega) (by omega)
    change (-800000000000 ≤ (cenX l).1 ∧ (cenX l).1 ≤ 800000000000) ∧ (-8000000 ≤ (cenX l).2 ∧ (cenX l).2 ≤ 8000000) at d3
    change (-800000000000 ≤ (cenY l).1 ∧ (cenY l).1 ≤ 800000000000) ∧ (-8000000 ≤ (cenY l).2 ∧ (cenY l).2 ≤ 8000000) at d4
    have HS := Lib.hid fun (V : World) (g : Nat) (h : Blk V g 3 #[(Value.int .i64 ((cenX l).1)), (Value.int .i64 ((cenX l).2)), (Value.int .i64 ((cenY l).1)), (Value.int .i64 ((cenY l).2))]) => sane4 h (by unfold big; omega) (by unfold big; omega) (by unfold big; omega) (by unfold big; omega)
    have bx := fun k hk => to_bd (f := (·.1)) (l := l) (by omega) (fun i hi => (isPt_bd (hok.2.1 i hi)).1) k hk
    have byy := fun k hk => to_bd (f := (·.2)) (l := l) (by omega) (fun i hi => (isPt_bd (hok.2.1 i hi)).2) k hk
    obtain ⟨⟨w1', w2'⟩, w3', w4'⟩ := cen_within hok
    have HB1 := Lib.hid fun (V : World) => between_yes (cenX l) (loTo (·.1) l l.length) (hiTo (·.1) l l.length) V d1 (by omega) w1' w2' (bx _ (Nat.le_refl _)).1 (bx _ (Nat.le_refl _)).2.1
    have HB2 := Lib.hid fun (V : World) => between_yes (cenY l) (loTo (·.2) l l.length) (hiTo (·.2) l l.length) V d2 (by omega) w3' w4' (byy _ (Nat.le_refl _)).1 (byy _ (Nat.le_refl _)).2.1
    have HP := Lib.hid hok.2.1
    have H3 := Lib.hid (three_first (l := l))
    clear w1' w2' w3' w4'
    have d5 : ¬ (cenX l).2 < 1 := by omega
    have d6 : ¬ (cenY l).2 < 1 := by omega
    clear d1 d2 d3 d4
    go_enter Try.func9, Try.ntmps9
    go_upto_region 4 with (first | (go_at_call 14; with_reducible refine Calls.mono (hr) ?_; rintro e w1 ⟨rfl, hb1⟩; first | ((with_reducible apply kp_in_step (hb := hb1)); (with_reducible assumption); rintro ⟨hk, hc, hf, hzc, hzf⟩) | ((with_reducible refine kp_in_first hb1 ?_); rintro ⟨hk, hc, hf, hzc, hzf⟩)) | (go_at_call 30; with_reducible refine Calls.mono (ht1.out _ (by (repeat (first | with_reducible exact Below.refl _ _ | with_reducible apply bl_alloc | with_reducible apply bl_drew | with_reducible apply bl_after | (with_reducible refine bl_call ?_ (by assumption)))))) ?_; rintro e w1 ⟨rfl, hb1⟩; first | ((with_reducible apply kp_in_step (hb := hb1)); (with_reducible assumption); rintro ⟨hk, hc, hf, hzc, hzf⟩) | ((with_reducible refine kp_in_first hb1 ?_); rintro ⟨hk, hc, hf, hzc, hzf⟩)))
    have c3 : Blk (w1.alloc (.cells #[(Value.int .i64 (tw l)), (Value.int .i64 (mx l)), (Value.int .i64 (my l)), (Value.int .i64 (mxx l)), (Value.int .i64 (mxy l)), (Value.int .i64 (myy l)), (Value.int .i64 ((cenX l).1)), (Value.int .i64 ((cenX l).2)), (Value.int .i64 ((cenY l).1)), (Value.int .i64 ((cenY l).2))] 42)) w1.heap.size 42 #[(Value.int .i64 (tw l)), (Value.int .i64 (mx l)), (Value.int .i64 (my l)), (Value.int .i64 (mxx l)), (Value.int .i64 (mxy l)), (Value.int .i64 (myy l)), (Value.int .i64 ((cenX l).1)), (Value.int .i64 ((cenX l).2)), (Value.int .i64 ((cenY l).1)), (Value.int .i64 ((cenY l).2))] := Blk.new _ _ _
    have hbE : Below w.heap.size w (w1.alloc (.cells #[(Value.int .i64 (tw l)), (Value.int .i64 (mx l)), (Value.int .i64 (my l)), (Value.int .i64 (mxx l)), (Value.int .i64 (mxy l)), (Value.int .i64 (myy l)), (Value.int .i64 ((cenX l).1)), (Value.int .i64 ((cenX l).2)), (Value.int .i64 ((cenY l).1)), (Value.int .i64 ((cenY l).2))] 42)) := by (repeat (first | with_reducible exact Below.refl _ _ | with_reducible apply bl_alloc | with_reducible apply bl_drew | with_reducible apply bl_after | (with_reducible refine bl_call ?_ (by assumption))))
    have hgw : w.heap.size ≤ w1.heap.size := by
      have h : Below w.heap.size w w1 := by (repeat (first | with_reducible exact Below.refl _ _ | with_reducible apply bl_alloc | with_reducible apply bl_drew | with_reducible apply bl_after | (with_reducible refine bl_call ?_ (by assumption))))
      exact h.size
    clear hk hc hf hzc hzf hb1
    clear hk hc hf hzc hzf hb1
    clear hr ht1
    generalize w1.alloc (.cells #[(Value.int .i64 (tw l)), (Value.int .i64 (mx l)), (Value.int .i64 (my l)), (Value.int .i64 (mxx l)), (Value.int .i64 (mxy l)), (Value.int .i64 (myy l)), (Value.int .i64 ((cenX l).1)), (Value.int .i64 ((cenX l).2)), (Value.int .i64 ((cenY l).1)), (Value.int .i64 ((cenY l).2))] 42) = W1 at c3 hbE ⊢
    generalize w1.heap.size = g3 at c3 hgw ⊢
    have l3 := c3.lt
    have y6 := c3.cell 6
    have y7 := c3.cell 7
    have y8 := c3.cell 8
    have y9 := c3.cell 9
    simp only [List.getElem?_toArray, List.getElem?_cons_zero, List.getElem?_cons_succ] at y6 y7 y8 y9
    go_upto_region 6 with (go_at_call 18; with_reducible refine Calls.mono (HS.out _ _ (Blk.new _ _ _)) ?_; rintro e w' ⟨rfl, rfl⟩)
    clear HS y6 y7 y8 y9
    replace hbE := bl_alloc (o := .cells #[(Value.int .i64 ((cenX l).1)), (Value.int .i64 ((cenX l).2)), (Value.int .i64 ((cenY l).1)), (Value.int .i64 ((cenY l).2))] 3) hbE
    replace c3 := c3.alloc (.cells #[(Value.int .i64 ((cenX l).1)), (Value.int .i64 ((cenX l).2)), (Value.int .i64 ((cenY l).1)), (Value.int .i64 ((cenY l).2))] 3)
    generalize W1.alloc (.cells #[(Value.int .i64 ((cenX l).1)), (Value.int .i64 ((cenX l).2)), (Value.int .i64 ((cenY l).1)), (Value.int .i64 ((cenY l).2))] 3) = W2 at c3 hbE ⊢
    have pa := hp.below hbE
    have lb := pa.lt
    have x1 := pa.xp (i := 0) (by omega)
    have x2 := pa.yp (i := 0) (by omega)
    simp only [Nat.zero_mul, Nat.add_zero] at x1 x2
    have j1 : 0 < l.length := by omega
    have j2 : (0 : Int) < (l.length : Int) := by omega
    have nn1 : b ≠ W2.heap.size := by omega
    have nn2 : b ≠ W2.heap.size + 1 := by omega
    have nn3 : b ≠ W2.heap.size + 1 + 1 := by omega
    have test : ∀ O1 O2 O3 : Obj, (((W2.alloc O1).alloc O2).alloc O3).cell? ⟨b, o, none⟩ = some (Value.int .i64 ((pat l 0).1)) := fun _ _ _ => (Below.cell (w := W2) (p := ⟨b, o, none⟩) (by (repeat (first | with_reducible exact Below.refl _ _ | with_reducible apply bl_alloc | with_reducible apply bl_drew | with_reducible apply bl_after | (with_reducible refine bl_call ?_ (by assumption)) | (with_reducible refine bl_setc ?_ (by omega))))) lb).trans x1
    have test2 : ∀ O1 O2 O3 : Obj, (((W2.alloc O1).alloc O2).alloc O3).cell? ⟨b, o + 1, none⟩ = some (Value.int .i64 ((pat l 0).2)) := fun _ _ _ => (Below.cell (w := W2) (p := ⟨b, o + 1, none⟩) (by (repeat (first | with_reducible exact Below.refl _ _ | with_reducible apply bl_alloc | with_reducible apply bl_drew | with_reducible apply bl_after | (with_reducible refine bl_call ?_ (by assumption)) | (with_reducible refine bl_setc ?_ (by omega))))) lb).trans x2
    have test3 : ∀ O1 O2 O3 : Obj, (((W2.alloc O1).alloc O2).alloc O3).drew.cell? ⟨b, o, none⟩ = some (Value.int .i64 ((pat l 0).1)) := test
    have test4 : ∀ O1 O2 O3 : Obj, (((W2.alloc O1).alloc O2).alloc O3).drew.cell? ⟨b, o + 1, none⟩ = some (Value.int .i64 ((pat l 0).2)) := test2
    go_cut [5, 6, 7] (fun s5 s6 s7 wx => ∃ g5 g6 g7 : Nat, s5 = .pointer (some ⟨g5, 0, none⟩) ∧ s6 = .pointer (some ⟨g6, 0, none⟩) ∧ s7 = .pointer (some ⟨g7, 0, none⟩) ∧ Blk wx g5 33 #[(Value.int .i64 ((pat l 0).1)), (Value.int .i64 ((pat l 0).2))] ∧ Blk wx g6 33 #[(Value.int .i64 ((pat l 0).1)), (Value.int .i64 ((pat l 0).2))] ∧ Blk wx g7 33 #[(Value.int .i64 (0)), (Value.int .i64 (0))] ∧ (g5 ≠ g6 ∧ g5 ≠ g7 ∧ g6 ≠ g7 ∧ W2.heap.size ≤ g5 ∧ W2.heap.size ≤ g6 ∧ W2.heap.size ≤ g7) ∧ Below W2.heap.size W2 wx)
    case first =>
      go_region_held3 (fun w' => w'.cell? ⟨b, o, none⟩ = some (Value.int .i64 ((pat l 0).1)) ∧ w'.cell? ⟨b, o + 1, none⟩ = some (Value.int .i64 ((pat l 0).2))) (go_keep) (fail)
      all_goals (go_wp2_with fail; go_meet; exact ⟨_, _, _, rfl, rfl, rfl, (by first | exact blk_a | exact blk_b | exact blk_c | exact blk_a.drewn | exact blk_b.drewn | exact blk_c.drewn), (by first | exact blk_a | exact blk_b | exact blk_c | exact blk_a.drewn | exact blk_b.drewn | exact blk_c.drewn), (by first | exact blk_a | exact blk_b | exact blk_c | exact blk_a.drewn | exact blk_b.drewn | exact blk_c.drewn), (by omega), by (repeat (first | with_reducible exact Below.refl _ _ | with_reducible apply bl_alloc | with_reducible apply bl_drew | with_reducible apply bl_after | (with_reducible refine bl_call ?_ (by assumption)) | (with_reducible refine bl_setc ?_ (by omega))))⟩)
    case rest =>
      obtain ⟨g5, g6, g7, rfl, rfl, rfl, c5, c6, c7, ⟨n56, n57, n67, b5, b6, b7⟩, hbx⟩ := hcut
      have s3 := c3.lt
      have sE := hbE.size
      have hbF := hbE.trans (hbx.mono sE)
      replace c3 := c3.below hbx
      have k5 : w.heap.size ≤ g5 := by omega
      have k6 : w.heap.size ≤ g6 := by omega
      have k7 : w.heap.size ≤ g7 := by omega
      have n35 : g3 ≠ g5 := by omega
      have n36 : g3 ≠ g6 := by omega
      have n37 : g3 ≠ g7 := by omega
      have hb0 := hp.lt
      clear pa lb x1 x2 nn1 nn2 nn3 test test2 test3 test4 hbx hbE l3
      go_wp2
      go_loopw [8] (fun i wr => ∃ k : Nat, k ≤ l.length ∧ i = (Value.int .i64 ((k : Int))) ∧ Blk wr g5 33 #[(Value.int .i64 (loTo (·.1) l k)), (Value.int .i64 (loTo (·.2) l k))] ∧ Blk wr g6 33 #[(Value.int .i64 (hiTo (·.1) l k)), (Value.int .i64 (hiTo (·.2) l k))] ∧ Blk wr g7 33 #[(Value.int .i64 (smTo (·.1) l k)), (Value.int .i64 (smTo (·.2) l k))] ∧ Blk wr g3 42 #[(Value.int .i64 (tw l)), (Value.int .i64 (mx l)), (Value.int .i64 (my l)), (Value.int .i64 (mxx l)), (Value.int .i64 (mxy l)), (Value.int .i64 (myy l)), (Value.int .i64 ((cenX l).1)), (Value.int .i64 ((cenX l).2)), (Value.int .i64 ((cenY l).1)), (Value.int .i64 ((cenY l).2))] ∧ Below w.heap.size w wr) (fun i _ => l.length - (intOf i).toNat)
      case atStart => exact ⟨0, Nat.zero_le _, rfl, c5, c6, c7, c3, hbF⟩
      case round =>
        obtain ⟨k, kn, rfl, e5, e6, e7, e3, hbw⟩ := hrel
        clear c5 c6 c7 c3 hbF
        by_cases hlt : k < l.length
        · have i1 : (0 : Int) ≤ (k : Int) := by omega
          have i2 : (k : Int) < (l.length : Int) := by omega
          have nb5 : b ≠ g5 := by omega
          have nb6 : b ≠ g6 := by omega
          have nb7 : b ≠ g7 := by omega
          go_upto_region 10 with fail
          go_cut [] (fun wx => Blk wx g5 33 #[(Value.int .i64 (loTo (·.1) l (k + 1))), (Value.int .i64 (loTo (·.2) l (k + 1)))] ∧ Blk wx g6 33 #[(Value.int .i64 (hiTo (·.1) l k)), (Value.int .i64 (hiTo (·.2) l k))] ∧ Blk wx g7 33 #[(Value.int .i64 (smTo (·.1) l k)), (Value.int .i64 (smTo (·.2) l k))] ∧ Blk wx g3 42 #[(Value.int .i64 (tw l)), (Value.int .i64 (mx l)), (Value.int .i64 (my l)), (Value.int .i64 (mxx l)), (Value.int .i64 (mxy l)), (Value.int .i64 (myy l)), (Value.int .i64 ((cenX l).1)), (Value.int .i64 ((cenX l).2)), (Value.int .i64 ((cenY l).1)), (Value.int .i64 ((cenY l).2))] ∧ Below w.heap.size w wx)
          case first =>
            as_aux_lemma =>
              have pa := hp.below hbw
              have lb := pa.lt
              have x1 := pa.xp hlt
              have x2 := pa.yp hlt
              have y0 := e5.cell 0
              have y1 := e5.cell 1
              have f0 := e5.frozen 0
              have f1 := e5.frozen 1
              have l5 := e5.lt
              simp only [List.getElem?_toArray, List.getElem?_cons_zero, List.getElem?_cons_succ] at y0 y1
              go_big_region
              go_wp2_with fail
              go_meet
              exact ⟨(show Blk ((wr.setCell ⟨g5, 0, none⟩ (Value.int .i64 (loTo (·.1) l (k + 1)))).setCell ⟨g5, 1, none⟩ (Value.int .i64 (loTo (·.2) l (k + 1)))).drew g5 33 #[(Value.int .i64 (loTo (·.1) l (k + 1))), (Value.int .i64 (loTo (·.2) l (k + 1)))] from by have h := ((e5.set_ 0 (Value.int .i64 (loTo (·.1) l (k + 1)))).set_ 1 (Value.int .i64 (loTo (·.2) l (k + 1)))).drewn; simpa using h), ((e6.far (p := ⟨g5, 0, none⟩) n56.symm (Value.int .i64 (loTo (·.1) l (k + 1)))).far (p := ⟨g5, 1, none⟩) n56.symm (Value.int .i64 (loTo (·.2) l (k + 1)))).drewn, ((e7.far (p := ⟨g5, 0, none⟩) n57.symm (Value.int .i64 (loTo (·.1) l (k + 1)))).far (p := ⟨g5, 1, none⟩) n57.symm (Value.int .i64 (loTo (·.2) l (k + 1)))).drewn, ((e3.far (p := ⟨g5, 0, none⟩) n35 (Value.int .i64 (loTo (·.1) l (k + 1)))).far (p := ⟨g5, 1, none⟩) n35 (Value.int .i64 (loTo (·.2) l (k + 1)))).drewn, bl_drew (bl_setc (bl_setc hbw k5 (o := 0) (v := (Value.int .i64 (loTo (·.1) l (k + 1))))) k5 (o := 1) (v := (Value.int .i64 (loTo (·.2) l (k + 1)))))⟩
          case rest =>
            clear e5 e6 e7 e3 hbw
            obtain ⟨e5, e6, e7, e3, hbw⟩ := hcut
            go_upto_region 11 with fail
            go_cut [] (fun wx => Blk wx g5 33 #[(Value.int .i64 (loTo (·.1) l (k + 1))), (Value.int .i64 (loTo (·.2) l (k + 1)))] ∧ Blk wx g6 33 #[(Value.int .i64 (hiTo (·.1) l (k + 1))), (Value.int .i64 (hiTo (·.2) l (k + 1)))] ∧ Blk wx g7 33 #[(Value.int .i64 (smTo (·.1) l k)), (Value.int .i64 (smTo (·.2) l k))] ∧ Blk wx g3 42 #[(Value.int .i64 (tw l)), (Value.int .i64 (mx l)), (Value.int .i64 (my l)), (Value.int .i64 (mxx l)), (Value.int .i64 (mxy l)), (Value.int .i64 (myy l)), (Value.int .i64 ((cenX l).1)), (Value.int .i64 ((cenX l).2)), (Value.int .i64 ((cenY l).1)), (Value.int .i64 ((cenY l).2))] ∧ Below w.heap.size w wx)
            case first =>
              as_aux_lemma =>
                have pa := hp.below hbw
                have lb := pa.lt
                have x1 := pa.xp hlt
                have x2 := pa.yp hlt
                have y0 := e6.cell 0
                have y1 := e6.cell 1
                have f0 := e6.frozen 0
                have f1 := e6.frozen 1
                have l5 := e6.lt
                simp only [List.getElem?_toArray, List.getElem?_cons_zero, List.getElem?_cons_succ] at y0 y1
                go_big_region
                go_wp2_with fail
                go_meet
                exact ⟨((e5.far (p := ⟨g6, 0, none⟩) n56 (Value.int .i64 (hiTo (·.1) l (k + 1)))).far (p := ⟨g6, 1, none⟩) n56 (Value.int .i64 (hiTo (·.2) l (k + 1)))).drewn, (show Blk ((wc.setCell ⟨g6, 0, none⟩ (Value.int .i64 (hiTo (·.1) l (k + 1)))).setCell ⟨g6, 1, none⟩ (Value.int .i64 (hiTo (·.2) l (k + 1)))).drew g6 33 #[(Value.int .i64 (hiTo (·.1) l (k + 1))), (Value.int .i64 (hiTo (·.2) l (k + 1)))] from by have h := ((e6.set_ 0 (Value.int .i64 (hiTo (·.1) l (k + 1)))).set_ 1 (Value.int .i64 (hiTo (·.2) l (k + 1)))).drewn; simpa using h), ((e7.far (p := ⟨g6, 0, none⟩) n67.symm (Value.int .i64 (hiTo (·.1) l (k + 1)))).far (p := ⟨g6, 1, none⟩) n67.symm (Value.int .i64 (hiTo (·.2) l (k + 1)))).drewn, ((e3.far (p := ⟨g6, 0, none⟩) n36 (Value.int .i64 (hiTo (·.1) l (k + 1)))).far (p := ⟨g6, 1, none⟩) n36 (Value.int .i64 (hiTo (·.2) l (k + 1)))).drewn, bl_drew (bl_setc (bl_setc hbw k6 (o := 0) (v := (Value.int .i64 (hiTo (·.1) l (k + 1))))) k6 (o := 1) (v := (Value.int .i64 (hiTo (·.2) l (k + 1)))))⟩
            case rest =>
              clear e5 e6 e7 e3 hbw
              obtain ⟨e5, e6, e7, e3, hbw⟩ := hcut
              go_upto_region 12 with fail
              have pa := hp.below hbw
              have lb := pa.lt
              have x1 := pa.xp hlt
              have x2 := pa.yp hlt
              have y0 := e7.cell 0
              have y1 := e7.cell 1
              have f0 := e7.frozen 0
              have f1 := e7.frozen 1
              have l5 := e7.lt
              have q1 := isPt_bd (HP.out k hlt)
              have q2 := (bx k kn).2.2
              have q3 := (byy k kn).2.2
              have m1 := wrap64_in (x := smTo (·.1) l k + (pat l k).1) (by omega) (by omega)
              have m2 := wrap64_in (x := smTo (·.2) l k + (pat l k).2) (by omega) (by omega)
              have m3 : IntKind.i64.wrap (smTo (·.1) l k + (pat l k).1) = smTo (·.1) l k + (pat l k).1 := IntWalk.i64_in _ (by omega)
              have m4 : IntKind.i64.wrap (smTo (·.2) l k + (pat l k).2) = smTo (·.2) l k + (pat l k).2 := IntWalk.i64_in _ (by omega)
              clear q1 q2 q3
              simp only [List.getElem?_toArray, List.getElem?_cons_zero, List.getElem?_cons_succ] at y0 y1
              go_big_region
              clear y0 y1 f0 f1 l5 x1 x2 pa lb m1 m2 m3 m4
              go_wp2
              go_roundw
              case rel => exact ⟨k + 1, by omega, by go_num, ((e5.far (p := ⟨g7, 0, none⟩) n57 (Value.int .i64 (smTo (·.1) l (k + 1)))).far (p := ⟨g7, 1, none⟩) n57 (Value.int .i64 (smTo (·.2) l (k + 1)))).drewn, ((e6.far (p := ⟨g7, 0, none⟩) n67 (Value.int .i64 (smTo (·.1) l (k + 1)))).far (p := ⟨g7, 1, none⟩) n67 (Value.int .i64 (smTo (·.2) l (k + 1)))).drewn, (show Blk ((wc.setCell ⟨g7, 0, none⟩ (Value.int .i64 (smTo (·.1) l (k + 1)))).setCell ⟨g7, 1, none⟩ (Value.int .i64 (smTo (·.2) l (k + 1)))).drew g7 33 #[(Value.int .i64 (smTo (·.1) l (k + 1))), (Value.int .i64 (smTo (·.2) l (k + 1)))] from by have h := ((e7.set_ 0 (Value.int .i64 (smTo (·.1) l (k + 1)))).set_ 1 (Value.int .i64 (smTo (·.2) l (k + 1)))).drewn; simpa using h), ((e3.far (p := ⟨g7, 0, none⟩) n37 (Value.int .i64 (smTo (·.1) l (k + 1)))).far (p := ⟨g7, 1, none⟩) n37 (Value.int .i64 (smTo (·.2) l (k + 1)))).drewn, bl_drew (bl_setc (bl_setc hbw k7 (o := 0) (v := (Value.int .i64 (smTo (·.1) l (k + 1))))) k7 (o := 1) (v := (Value.int .i64 (smTo (·.2) l (k + 1)))))⟩
              case measure => simp [intOf]; omega
        · obtain rfl : k = l.length := by omega
          have y0 := e5.cell 0
          have y1 := e5.cell 1
          have z0 := e6.cell 0
          have z1 := e6.cell 1
          have u0 := e7.cell 0
          have u1 := e7.cell 1
          have v0 := e3.cell 0
          have v1 := e3.cell 1
          have v2 := e3.cell 2
          have v6 := e3.cell 6
          have v7 := e3.cell 7
          have v8 := e3.cell 8
          have v9 := e3.cell 9
          have l3 := e3.lt
          have l5 := e5.lt
          have l6 := e6.lt
          have l7 := e7.lt
          simp only [List.getElem?_toArray, List.getElem?_cons_zero, List.getElem?_cons_succ] at y0 y1 z0 z1 u0 u1 v0 v1 v2 v6 v7 v8 v9
          clear e5 e6 e7 e3 bx byy n56 n57 n67 n35 n36 n37 b5 b6 b7 hp ha HP k5 k6 k7 hl10 tn tb
          have hq : l.length = 3 → mx l = tw l * smTo (·.1) l l.length ∧ my l = tw l * smTo (·.2) l l.length := fun h => by have := H3.out h; rwa [← h] at this
          clear H3
          generalize loTo (·.1) l l.length = q1 at y0 HB1
          generalize loTo (·.2) l l.length = q2 at y1 HB2
          generalize hiTo (·.1) l l.length = q3 at z0 HB1
          generalize hiTo (·.2) l l.length = q4 at z1 HB2
          generalize smTo (·.1) l l.length = q5 at u0 hq
          generalize smTo (·.2) l l.length = q6 at u1 hq
          generalize tw l = q7 at v0 hq
          generalize mx l = q8 at v1 hq tx
          generalize my l = q9 at v2 hq ty
          by_cases h3 : l.length = 3
          · have hh := hq h3
            have m1 : wrap64 (q7 * q5) = q8 := by rw [← hh.1]; exact wrap64_in (by omega) (by omega)
            have m2 : wrap64 (q7 * q6) = q9 := by rw [← hh.2]; exact wrap64_in (by omega) (by omega)
            have h3' : ((l.length : Int) != 3) = false := by rw [bne_eq_false_iff_eq]; omega
            clear hh hq h3 tx ty
            go_wp2_with (first | (go_at_call 33; with_reducible refine Calls.mono (HB1.out _) ?_; rintro e w1 ⟨rfl, hb1⟩; first | ((with_reducible apply kp_in_step (hb := hb1)); (with_reducible assumption); rintro ⟨hk, hc, hf, hzc, hzf⟩) | ((with_reducible refine kp_in_first hb1 ?_); rintro ⟨hk, hc, hf, hzc, hzf⟩)) | (go_at_call 33; with_reducible refine Calls.mono (HB2.out _) ?_; rintro e w1 ⟨rfl, hb1⟩; first | ((with_reducible apply kp_in_step (hb := hb1)); (with_reducible assumption); rintro ⟨hk, hc, hf, hzc, hzf⟩) | ((with_reducible refine kp_in_first hb1 ?_); rintro ⟨hk, hc, hf, hzc, hzf⟩)) | (go_at_call 15; with_reducible refine Calls.mono (works_any _) ?_; rintro e w1 ⟨rfl, hb1⟩; first | ((with_reducible apply kp_in_step (hb := hb1)); (with_reducible assumption); rintro ⟨hk, hc, hf, hzc, hzf⟩) | ((with_reducible refine kp_in_first hb1 ?_); rintro ⟨hk, hc, hf, hzc, hzf⟩)))
            go_ret
            exact ⟨rfl, by (repeat (first | with_reducible exact Below.refl _ _ | with_reducible apply bl_alloc | with_reducible apply bl_drew | with_reducible apply bl_after | (with_reducible refine bl_call ?_ (by assumption))))⟩
          · have h3' : ((l.length : Int) != 3) = true := by rw [bne_iff_ne]; omega
            clear hq h3 tx ty
            go_wp2_with (first | (go_at_call 33; with_reducible refine Calls.mono (HB1.out _) ?_; rintro e w1 ⟨rfl, hb1⟩; first | ((with_reducible apply kp_in_step (hb := hb1)); (with_reducible assumption); rintro ⟨hk, hc, hf, hzc, hzf⟩) | ((with_reducible refine kp_in_first hb1 ?_); rintro ⟨hk, hc, hf, hzc, hzf⟩)) | (go_at_call 33; with_reducible refine Calls.mono (HB2.out _) ?_; rintro e w1 ⟨rfl, hb1⟩; first | ((with_reducible apply kp_in_step (hb := hb1)); (with_reducible assumption); rintro ⟨hk, hc, hf, hzc, hzf⟩) | ((with_reducible refine kp_in_first hb1 ?_); rintro ⟨hk, hc, hf, hzc, hzf⟩)) | (go_at_call 15; with_reducible refine Calls.mono (works_any _) ?_; rintro e w1 ⟨rfl, hb1⟩; first | ((with_reducible apply kp_in_step (hb := hb1)); (with_reducible assumption); rintro ⟨hk, hc, hf, hzc, hzf⟩) | ((with_reducible refine kp_in_first hb1 ?_); rintro ⟨hk, hc, hf, hzc, hzf⟩)))
            go_ret
            exact ⟨rfl, by (repeat (first | with_reducible exact Below.refl _ _ | with_reducible apply bl_alloc | with_reducible apply bl_drew | with_reducible apply bl_after | (with_reducible refine bl_call ?_ (by assumption))))⟩
  · rw [decide_eq_false hok] at hr
    go_enter Try.func9, Try.ntmps9
    go_wp2_with (first | (go_at_call 14; with_reducible refine Calls.mono (hr) ?_; rintro e w1 ⟨rfl, hb1⟩; first | ((with_reducible apply kp_in_step (hb := hb1)); (with_reducible assumption); rintro ⟨hk, hc, hf, hzc, hzf⟩) | ((with_reducible refine kp_in_first hb1 ?_); rintro ⟨hk, hc, hf, hzc, hzf⟩)) | (go_at_call 15; with_reducible refine Calls.mono (works_any _) ?_; rintro e w1 ⟨rfl, hb1⟩; first | ((with_reducible apply kp_in_step (hb := hb1)); (with_reducible assumption); rintro ⟨hk, hc, hf, hzc, hzf⟩) | ((with_reducible refine kp_in_first hb1 ?_); rintro ⟨hk, hc, hf, hzc, hzf⟩)))
    go_ret
    exact ⟨rfl, by (repeat (first | with_reducible exact Below.refl _ _ | with_reducible apply bl_alloc | with_reducible apply bl_drew | with_reducible apply bl_after | (with_reducible refine bl_call ?_ (by assumption))))⟩
section
open Go.ChangeAt
set_option maxRecDepth 100000 in
theorem cornersCentre_lifted (os : Os) (started : os.Started) (H : Type) (enc : TypeId × Value → H) :
    ReturnsInHanded {} Try.checked os 9 .any (Rows.cornersCentreSpec.pre6 enc Try.prog Try.f9 Rows.cornersCentreRow.domain false) (Rows.cornersCentreSpec.post enc Try.prog Try.f9 false true false false) := by
  refine returnsInHanded_of_change (C := Try.checked) own_knob started (by kernel_rfl) Try.func9
    (ChangeSpec.witness6 (enc := enc) (C := Try.checked) false ⟨#[], #[.slice none 0 0], []⟩ 8 (by kernel_rfl) (by kernel_rfl) (by kernel_rfl) (by kernel_rfl)) ?_
  intro W base args ds gs before hval0 hW hcnd _
  have hval : ∀ (j : Nat) t v, Try.f9.params[j]? = some t → args[j]? = some v → Value.okWide Try.prog W .any base t v := hval0
  have hW2 := hW
  obtain ⟨p, q, hA0, hV, rfl, hfz, hnd⟩ := hW
  have hA : DataW.TrodAll enc Try.prog W 0 (fun _ => true) true Try.f9.params.toList args.toList ds p := hA0
  rw [Try.params9] at hA hval
  obtain ⟨v0, d0, rfl, rfl, h0⟩ := trodAll_one hA
  obtain ⟨rfl, rfl⟩ := trodVars_none hV
  obtain ⟨A, ca, l, rfl, hP, hl⟩ := open_points (okWide_slice undPts (hval 0 _ _ rfl rfl)) h0
  clear hA0 hval0
  simp only [List.append_nil, List.nil_append] at hW2
  (try simp only [List.append_nil, List.nil_append] at hA)
  refine (lawCentre_any A ca l W hP hl).mono fun e W2 ⟨he, hb⟩ => ?_
  subst he
  refine ⟨_, rfl, post_of_below (pa := _) (pv := []) hW2 (fun _ _ _ => trodAll_mk1 (shut_bool und_bool _)) (fun sp hs => args_stay hb (by rw [Try.params9]; intro t ht; simp at ht; (try rcases ht with rfl | rfl | rfl) <;> (try rcases ht with rfl | rfl) <;> (try subst ht) <;> exact ⟨by kernel_rfl, by decide +kernel⟩) (by rw [Try.params9]; exact hA) hs) (fun _ _ => rfl) (by simp) hb (ok_one (by kernel_rfl) rfl (okWide_bool_mk und_bool _))⟩

theorem cornersCentre_holds : Rows.CornersCentreSaid :=
  OpenClaim.holds_of_wide 9 Try.f9 rfl rfl rfl rfl rfl rfl rfl ⟨rfl, rfl, rfl, rfl, rfl⟩ rfl rfl rfl rfl rfl (by kernel_rfl) Try.func9 (by kernel_rfl)
    (of_decide_eq_true (by kernel_rfl)) (by unfold Func.isWrapper; first | (rw [if_pos (by decide +kernel)]; kernel_rfl) | (rw [if_neg (by decide +kernel)]; exact ⟨rfl, rfl⟩))
    (fun os started H enc _ => cornersCentre_lifted os started H enc)
end
end Go.Proofs.Ytijpolfmiajenaa
