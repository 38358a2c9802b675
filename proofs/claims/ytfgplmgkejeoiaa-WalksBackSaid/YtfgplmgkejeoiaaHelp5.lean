/- The functions In, subset, ready, back and turned of the laws of walks. -/
import Derived.Test.YtfgplmgkejeoiaaFar
import Derived.Test.YtfgplmgkejeoiaaInts
import Derived.Test.YtfgplmgkejeoiaaDbl
import Derived.Maps.AppendAt
namespace Go.Proofs.Ytfgplmgkejeoiaa
open Go.RowKit
attribute [local go_sem] After.cell After.frozen

set_option maxRecDepth 100000 in
set_option maxHeartbeats 1000000 in
theorem In_any (A : Option Addr) (ca : Nat) (l : List Int) (n : Int) (w : World) (ha : Ints w A l) (hl : l.length ≤ 1000000) :
    Calls Try.prog 44 #[.slice A l.length ca, (Value.int .i64 (n))] w fun e w' => e = .returned (.bool (decide (n ∈ l))) ∧ Below w.heap.size w w' := by
  go_enter Try.func44, Try.ntmps44
  go_wp2
  go_loopw [5] (fun i wr => ∃ k : Nat, k ≤ l.length ∧ i = (Value.int .i64 ((k : Int))) ∧ Hid (∀ j, j < k → iat l j ≠ n) ∧ Below w.heap.size w wr) (fun i _ => l.length - (intOf i).toNat)
  case atStart => exact ⟨0, Nat.zero_le _, rfl, Lib.hid fun j hj => absurd hj (Nat.not_lt_zero _), Below.refl _ _⟩
  case round =>
    obtain ⟨k, kn, rfl, hall, hbw⟩ := hrel
    by_cases hlt : k < l.length
    · obtain ⟨b, o, rfl, pa⟩ := (ha.below hbw).at_ hlt
      have x1 := pa.xi hlt
      have lb := pa.lt
      have i0 : (0 : Int) ≤ (k : Int) := by omega
      have i1 : (k : Int) < (l.length : Int) := by omega
      clear pa
      by_cases he : iat l k = n
      · have hd : (iat l k == n) = true := beq_iff_eq.2 he
        have hfin : Hid (decide (n ∈ l) = true) := Lib.hid (decide_eq_true (by rw [← he, ← iat_eq hlt]; exact List.getElem_mem hlt))
        clear he
        go_wp2
        go_ret
        exact ⟨ret_bool hfin.out.symm, hbw⟩
      · have hd : (iat l k == n) = false := beq_eq_false_iff_ne.2 he
        have hfin : Hid (∀ j, j < k + 1 → iat l j ≠ n) := Lib.hid fun j hj => by
          rcases Nat.lt_succ_iff_lt_or_eq.1 hj with h | h
          · exact hall.out j h
          · rw [h]; exact he
        clear he
        go_wp2
        go_roundw
        case rel => exact ⟨k + 1, by omega, by go_num, hfin, hbw⟩
        case measure => simp [intOf]; omega
    · obtain rfl : k = l.length := by omega
      have hfin : Hid (decide (n ∈ l) = false) := Lib.hid (decide_eq_false fun h => by
        obtain ⟨i, hi, e⟩ := List.getElem_of_mem h
        rw [iat_eq hi] at e
        exact hall.out i hi e)
      go_wp2
      go_ret
      exact ⟨ret_bool hfin.out.symm, hbw⟩
def subB (l m : List Int) : Bool := (l.all fun n => decide (n ∈ m)) && decide (l.length ≤ m.length)
set_option maxRecDepth 100000 in
set_option maxHeartbeats 1000000 in
theorem subset_any (A B : Option Addr) (ca cb : Nat) (l m : List Int) (w : World) (ha : Ints w A l) (hl : l.length ≤ 1000000) (hb : Ints w B m) (hlm : m.length ≤ 1000000) :
    Calls Try.prog 80 #[.slice A l.length ca, .slice B m.length cb] w fun e w' => e = .returned (.bool (subB l m)) ∧ Below w.heap.size w w' := by
  have HI := Lib.hid fun (W : World) (h : Below w.heap.size w W) (n : Int) => In_any B cb m n W (hb.below h) hlm
  clear hb
  go_enter Try.func80, Try.ntmps80
  go_wp2
  go_loopw [5] (fun i wr => ∃ k : Nat, k ≤ l.length ∧ i = (Value.int .i64 ((k : Int))) ∧ Hid (∀ j, j < k → iat l j ∈ m) ∧ Below w.heap.size w wr) (fun i _ => l.length - (intOf i).toNat)
  case atStart => exact ⟨0, Nat.zero_le _, rfl, Lib.hid fun j hj => absurd hj (Nat.not_lt_zero _), Below.refl _ _⟩
  case round =>
    obtain ⟨k, kn, rfl, hall, hbw⟩ := hrel
    by_cases hlt : k < l.length
    · obtain ⟨b, o, rfl, pa⟩ := (ha.below hbw).at_ hlt
      have x1 := pa.xi hlt
      have lb := pa.lt
      have i0 : (0 : Int) ≤ (k : Int) := by omega
      have i1 : (k : Int) < (l.length : Int) := by omega
      have hI := HI.out wr hbw (iat l k)
      clear pa
      by_cases he : iat l k ∈ m
      · have hfin : Hid (∀ j, j < k + 1 → iat l j ∈ m) := Lib.hid fun j hj => by
          rcases Nat.lt_succ_iff_lt_or_eq.1 hj with h | h
          · exact hall.out j h
          · rw [h]; exact he
        rw [decide_eq_true he] at hI
        replace hI := Lib.hid hI
        clear he
        go_wp2_with ((go_at_call 44); (with_reducible refine Calls.mono hI.out ?_); rintro e w1 ⟨rfl, hb1⟩)
        go_roundw
        case rel => exact ⟨k + 1, by omega, by go_num, hfin, hbw.trans (hb1.mono hbw.size)⟩
        case measure => simp [intOf]; omega
      · have hfin : Hid (subB l m = false) := Lib.hid (by
          have : (l.all fun n => decide (n ∈ m)) = false := by
            rw [List.all_eq_false]
            exact ⟨iat l k, by rw [← iat_eq hlt]; exact List.getElem_mem hlt, by simp [he]⟩
          rw [subB, this, Bool.false_and])
        rw [decide_eq_false he] at hI
        replace hI := Lib.hid hI
        clear he
        go_wp2_with ((go_at_call 44); (with_reducible refine Calls.mono hI.out ?_); rintro e w1 ⟨rfl, hb1⟩)
        go_ret
        exact ⟨ret_bool hfin.out.symm, hbw.trans (hb1.mono hbw.size)⟩
    · obtain rfl : k = l.length := by omega
      have hfin : Hid (subB l m = decide (l.length ≤ m.length)) := Lib.hid (by
        have : (l.all fun n => decide (n ∈ m)) = true := by
          rw [List.all_eq_true]
          intro x hx
          obtain ⟨i, hi, rfl⟩ := List.getElem_of_mem hx
          rw [iat_eq hi]
          exact decide_eq_true (hall.out i hi)
        rw [subB, this, Bool.true_and])
      go_wp2
      go_ret
      exact ⟨ret_bool hfin.out.symm, hbw⟩
def rdyB (T : Trk) (m : List Pt) : Bool := !farB T m && decide (chkT T m = 0)
set_option maxRecDepth 100000 in
set_option maxHeartbeats 1000000 in
theorem ready_any (A B : Option Addr) (ca cb : Nat) (T : Trk) (m : List Pt) (w : World) (ha : Pts w A T.pts) (hla : T.pts.length ≤ 9223372036854775807) (hb : Pts w B m) (hlb : m.length ≤ 9223372036854775807) :
    Calls Try.prog 42 #[(Value.agg #[.slice A T.pts.length ca, (Value.int .i64 (T.closed)), (Value.int .i64 (T.lo)), (Value.int .i64 (T.hi))]), .slice B m.length cb] w fun e w' => e = .returned (.bool (rdyB T m)) ∧ Below w.heap.size w w' := by
  have hF := fun (W : World) (h : Below w.heap.size w W) => Far_any A B ca cb T m W (ha.below h) hla (hb.below h) hlb
  have e0 : Blk (w.alloc (.cells #[.slice A T.pts.length ca, (Value.int .i64 (T.closed)), (Value.int .i64 (T.lo)), (Value.int .i64 (T.hi))] 36)) w.heap.size 36 #[.slice A T.pts.length ca, (Value.int .i64 (T.closed)), (Value.int .i64 (T.lo)), (Value.int .i64 (T.hi))] := Blk.new _ _ _
  (have la := e0.lt); (have ya0 := e0.cell 0); (have ya1 := e0.cell 1); (have ya2 := e0.cell 2); (have ya3 := e0.cell 3); simp only [List.getElem?_toArray, List.getElem?_cons_zero, List.getElem?_cons_succ] at ya0 ya1 ya2 ya3
  unfold rdyB
  cases hfar : farB T m with
  | true =>
    rw [hfar] at hF
    replace hF := Lib.hid hF
    clear ha hb hfar
    go_enter Try.func42, Try.ntmps42
    go_wp2_with ((go_at_call 32); (with_reducible refine Calls.mono (hF.out _ (by (repeat (first | with_reducible exact Below.refl _ _ | with_reducible apply bl_alloc | with_reducible apply bl_drew | with_reducible apply bl_after | (with_reducible refine bl_call ?_ (by assumption)))))) ?_); rintro e wn ⟨rfl, hbn⟩; first | ((with_reducible apply kp_in_step (hb := hbn)); (with_reducible assumption); rintro ⟨hk, hc, hf, hzc, hzf⟩) | ((with_reducible refine kp_in_first hbn ?_); rintro ⟨hk, hc, hf, hzc, hzf⟩))
    go_ret
    exact ⟨rfl, by (repeat (first | with_reducible exact Below.refl _ _ | with_reducible apply bl_alloc | with_reducible apply bl_drew | with_reducible apply bl_after | (with_reducible refine bl_call ?_ (by assumption))))⟩
  | false =>
    have hn : T.pts.length ≤ 40 ∧ m.length ≤ 40 := by
      have h := hfar
      unfold farB at h
      rw [decide_eq_false_iff_not] at h
      omega
    have hC := fun (W : World) (h : Below w.heap.size w W) => r5Check_any A B ca cb T m W (ha.below h) (by omega) (hb.below h) (by omega)
    rw [hfar] at hF
    replace hF := Lib.hid hF
    replace hC := Lib.hid hC
    clear ha hb hfar
    generalize chkT T m = c at *
    go_enter Try.func42, Try.ntmps42
    go_wp2_with (first | ((go_at_call 32); (with_reducible refine Calls.mono (hF.out _ (by (repeat (first | with_reducible exact Below.refl _ _ | with_reducible apply bl_alloc | with_reducible apply bl_drew | with_reducible apply bl_after | (with_reducible refine bl_call ?_ (by assumption)))))) ?_); rintro e wn ⟨rfl, hbn⟩; first | ((with_reducible apply kp_in_step (hb := hbn)); (with_reducible assumption); rintro ⟨hk, hc, hf, hzc, hzf⟩) | ((with_reducible refine kp_in_first hbn ?_); rintro ⟨hk, hc, hf, hzc, hzf⟩)) | ((go_at_call 24); (with_reducible refine Calls.mono (hC.out _ (by (repeat (first | with_reducible exact Below.refl _ _ | with_reducible apply bl_alloc | with_reducible apply bl_drew | with_reducible apply bl_after | (with_reducible refine bl_call ?_ (by assumption)))))) ?_); rintro e wn ⟨rfl, hbn⟩; first | ((with_reducible apply kp_in_step (hb := hbn)); (with_reducible assumption); rintro ⟨hk, hc, hf, hzc, hzf⟩) | ((with_reducible refine kp_in_first hbn ?_); rintro ⟨hk, hc, hf, hzc, hzf⟩)))
    go_ret
    exact ⟨congrArg (fun b => Ending.returned (.bool b)) (by rw [Bool.not_false, Bool.true_and]; rfl), by (repeat (first | with_reducible exact Below.refl _ _ | with_reducible apply bl_alloc | with_reducible apply bl_drew | with_reducible apply bl_after | (with_reducible refine bl_call ?_ (by assumption))))⟩
theorem cell_two_new (w : World) (x y : Value) (t : TypeId) : ∀ j u, [x, y][j]? = some u → (w.alloc (.cells #[x, y] t)).cell? ((⟨w.heap.size, 0, none⟩ : Addr).add j) = some u := fun j u hj => by
  rw [add_at, Nat.zero_add]
  exact ((Blk.new w t #[x, y]).cell j).trans (by rw [List.getElem?_toArray]; exact hj)
def RowP (w : World) (B : Nat) (v : Value) (l : List Pt) : Prop := w.ownsRow B 31 2 v l.length (ptsV l)
theorem rowP_nil (w : World) (B : Nat) : RowP w B (.slice none 0 0) [] := World.ownsRow_nil _ _ _ _
theorem RowP.below {w w' : World} {B : Nat} {v : Value} {l : List Pt} (h : RowP w B v l) (hb : Below w.heap.size w w') : RowP w' B v l := own_below h hb
theorem RowP.snoc {w : World} {B n : Nat} {v : Value} {l : List Pt} {p : Pt} (h : w.ownsRow B 31 2 v (n + 1) (ptsV l ++ [(Value.int .i64 (p.1)), (Value.int .i64 (p.2))])) (hn : n = l.length) : RowP w B v (l ++ [p]) := by
  unfold RowP
  subst hn
  rw [ptsV_append, List.length_append]
  exact h
theorem one_pt (p : Pt) : ∀ u ∈ [(Value.int .i64 (p.1)), (Value.int .i64 (p.2))], u.oneCell' = true := fun u hu => by
  simp only [List.mem_cons, List.not_mem_nil, or_false] at hu
  rcases hu with rfl | rfl <;> rfl
theorem rev_take {l : List Pt} {k : Nat} (h : k < l.length) : l.reverse.take (k + 1) = l.reverse.take k ++ [pat l (l.length - 1 - k)] := by
  rw [List.take_add_one, List.getElem?_reverse h, pat_get (by omega)]
  rfl
set_option maxRecDepth 100000 in
set_option maxHeartbeats 1000000 in
theorem back_any (A : Option Addr) (ca : Nat) (l : List Pt) (w : World) (ha : Pts w A l) (hl : l.length ≤ 1000) :
    Calls Try.prog 47 #[.slice A l.length ca] w fun e w' => (∃ A' ca', e = .returned (.slice A' l.length ca') ∧ Pts w' A' l.reverse) ∧ Below w.heap.size w w' := by
  obtain ⟨ti, hi, hz0, hz1, hz2⟩ := info_parts infoPt
  go_enter Try.func47, Try.ntmps47
  go_wp2
  go_loopw [3, 4] (fun v i wr => ∃ k : Nat, k ≤ l.length ∧ i = (Value.int .i64 ((l.length : Int) - 1 - (k : Int))) ∧ Hid (RowP wr w.heap.size v (l.reverse.take k)) ∧ Below w.heap.size w wr) (fun _ i _ => (intOf i + 1).toNat)
  case atStart => exact ⟨0, Nat.zero_le _, by go_num, Lib.hid (rowP_nil _ _), Below.refl _ _⟩
  case round =>
    obtain ⟨k, kn, rfl, hO, hbr⟩ := hrel
    by_cases hlt : k < l.length
    · obtain ⟨b, o, rfl, pa⟩ := (ha.below hbr).at_ hlt
      have x1 := pa.xp (i := l.length - 1 - k) (by omega)
      have x2 := pa.yp (i := l.length - 1 - k) (by omega)
      have lb := pa.lt
      have e0 : ((l.length : Int) - 1 - (k : Int)) = ((l.length - 1 - k : Nat) : Int) := by omega
      have hS := Lib.hid (rev_take hlt)
      have hk : l.length - 1 - k < l.length := by omega
      rw [e0]
      have HE := Lib.hid e0
      have hq : k + (l.length - 1 - k) + 1 = l.length := by omega
      have HQ := Lib.hid hq
      clear pa e0 hq
      generalize l.length - 1 - k = q at *
      have i0 : (0 : Int) ≤ (q : Int) := by omega
      have i1 : (q : Int) < (l.length : Int) := by omega
      have hlen : (l.reverse.take k).length = k := by rw [List.length_take, List.length_reverse]; omega
      have hlk : k ≤ 1000 := by omega
      go_wp2_with (at_builtin; refine wpList_append_own _ rfl (.tmp 12) (.tmp 17) 22 rfl w.heap.size 31 ti _ 2 16 undPts hi hz0 hz1 hz2 rfl (by decide) _ _ _ rfl (hO.out.alloc _) ⟨wr.heap.size, 0, none⟩ 1 1 [(Value.int .i64 ((pat l q).1)), (Value.int .i64 ((pat l q).2))] rfl rfl (cell_two_new _ _ _ _) (one_pt _) (by unfold maxLen; omega) (by omega) (by have := hbr.size; simp; omega) ?_)
      intro v' w5 hown hgrow _
      have hb5 : Below w.heap.size w w5 := bl_grown (bl_alloc hbr) (hO.out.alloc _) hgrow
      have HV := Lib.hid (RowP.snoc hown hlen.symm)
      clear hown hgrow
      go_wp2
      go_roundw
      case rel => exact ⟨k + 1, by have := HQ.out; omega, by have := HQ.out; go_num, Lib.hid (by rw [hS.out]; exact HV.out), hb5⟩
      case measure => simp [intOf]; try omega
    · obtain rfl : k = l.length := by omega
      have hfin : Hid (∃ A' ca', u3 = .slice A' l.length ca' ∧ Pts wr A' l.reverse) := Lib.hid (by
        have h := hO.out
        rw [List.take_of_length_le (by simp)] at h
        obtain ⟨_, A', ca', e, hP⟩ := own_parts h
        exact ⟨A', ca', by rw [e, List.length_reverse], hP⟩)
      clear hO
      go_wp2
      go_ret
      obtain ⟨A', ca', rfl, hP⟩ := hfin.out
      exact ⟨⟨A', ca', rfl, hP⟩, hbr⟩
def trnP (b : Int) (l : List Pt) : List Pt := (List.range l.length).map fun i => pat l ((i + b.toNat) % l.length)
theorem trn_take {b : Int} {l : List Pt} {k : Nat} (h : k < l.length) : (trnP b l).take (k + 1) = (trnP b l).take k ++ [pat l ((k + b.toNat) % l.length)] := by
  rw [List.take_add_one]
  simp [trnP, h]
set_option maxRecDepth 100000 in
set_option maxHeartbeats 1000000 in
theorem turned_any (A : Option Addr) (ca : Nat) (l : List Pt) (n : Int) (w : World) (ha : Pts w A l) (hl : l.length ≤ 1000) (h0 : 0 ≤ n) (h1 : n ≤ 1000) :
    Calls Try.prog 48 #[.slice A l.length ca, (Value.int .i64 (n))] w fun e w' => (∃ A' ca', e = .returned (.slice A' l.length ca') ∧ Pts w' A' (trnP n l)) ∧ Below w.heap.size w w' := by
  obtain ⟨ti, hi, hz0, hz1, hz2⟩ := info_parts infoPt
  go_enter Try.func48, Try.ntmps48
  go_wp2
  go_loopw [5, 6] (fun v i wr => ∃ k : Nat, k ≤ l.length ∧ i = (Value.int .i64 ((k : Int))) ∧ Hid (RowP wr w.heap.size v ((trnP n l).take k)) ∧ Below w.heap.size w wr) (fun _ i _ => l.length - (intOf i).toNat)
  case atStart => exact ⟨0, Nat.zero_le _, rfl, Lib.hid (rowP_nil _ _), Below.refl _ _⟩
  case round =>
    obtain ⟨k, kn, rfl, hO, hbr⟩ := hrel
    by_cases hlt : k < l.length
    · obtain ⟨b, o, rfl, pa⟩ := (ha.below hbr).at_ hlt
      have hL : 0 < l.length := by omega
      have hq := Nat.mod_lt (k + n.toNat) hL
      have x1 := pa.xp hq
      have x2 := pa.yp hq
      have lb := pa.lt
      have hS := Lib.hid (trn_take (b := n) hlt)
      have e1 : ((k : Int) + n) % (l.length : Int) = (((k + n.toNat) % l.length : Nat) : Int) := by
        rw [show (k : Int) + n = ((k + n.toNat : Nat) : Int) by omega]
        simp
      have i3 : (((k : Int) + n) % (l.length : Int)).toNat = (k + n.toNat) % l.length := by rw [e1]; omega
      have i1 : 0 ≤ ((k : Int) + n) % (l.length : Int) := by rw [e1]; omega
      have i2 : ((k : Int) + n) % (l.length : Int) < (l.length : Int) := by rw [e1]; omega
      have nz : ((l.length : Int) == 0) = false := by rw [beq_eq_false_iff_ne]; omega
      have nz2 : (l.length : Int) ≠ 0 := by omega
      have hlen : ((trnP n l).take k).length = k := by simp [trnP]; omega
      have hlk : k ≤ 1000 := by omega
      clear pa e1
      generalize (k + n.toNat) % l.length = q at *
      go_wp2_with (at_builtin; refine wpList_append_own _ rfl (.tmp 13) (.tmp 23) 22 rfl w.heap.size 31 ti _ 2 16 undPts hi hz0 hz1 hz2 rfl (by decide) _ _ _ rfl (hO.out.alloc _) ⟨wr.heap.size, 0, none⟩ 1 1 [(Value.int .i64 ((pat l q).1)), (Value.int .i64 ((pat l q).2))] rfl rfl (cell_two_new _ _ _ _) (one_pt _) (by unfold maxLen; omega) (by omega) (by have := hbr.size; simp; omega) ?_)
      intro v' w5 hown hgrow _
      have hb5 : Below w.heap.size w w5 := bl_grown (bl_alloc hbr) (hO.out.alloc _) hgrow
      have HV := Lib.hid (RowP.snoc hown hlen.symm)
      clear hown hgrow
      go_wp2
      go_roundw
      case rel => exact ⟨k + 1, by omega, by go_num, Lib.hid (by rw [hS.out]; exact HV.out), hb5⟩
      case measure => simp [intOf]; omega
    · obtain rfl : k = l.length := by omega
      have hfin : Hid (∃ A' ca', u5 = .slice A' l.length ca' ∧ Pts wr A' (trnP n l)) := Lib.hid (by
        have h := hO.out
        rw [List.take_of_length_le (by simp [trnP])] at h
        obtain ⟨_, A', ca', e, hP⟩ := own_parts h
        exact ⟨A', ca', by rw [e]; simp [trnP], hP⟩)
      clear hO
      go_wp2
      go_ret
      obtain ⟨A', ca', rfl, hP⟩ := hfin.out
      exact ⟨⟨A', ca', rfl, hP⟩, hbr⟩
end Go.Proofs.Ytfgplmgkejeoiaa
