/- The function knurlref02.Points counts the points inside a valid polygon and those of its sides, one by one; it answers what corners.Points does. -/
import Derived.Test.YtijpolfmiajenaaRBox
import Derived.Test.YtijpolfmiajenaaWpk
namespace Go.Proofs.Ytijpolfmiajenaa
open Go.RowKit
attribute [local go_sem] After.cell After.frozen

def colF (f : Pt → Int) (ly x : Int) (k : Nat) : Int := rs (fun y => f (x, y)) ly k
def areaF (f : Pt → Int) (lx ly : Int) (ny k : Nat) : Int := rs (fun x => colF f ly x ny) lx k
theorem colF_bd {f : Pt → Int} (h : ∀ p, 0 ≤ f p ∧ f p ≤ 1) (ly x : Int) : ∀ k : Nat, 0 ≤ colF f ly x k ∧ colF f ly x k ≤ (k : Int)
  | 0 => ⟨Int.le_refl _, Int.le_refl _⟩
  | k + 1 => by
    have h1 := colF_bd h ly x k
    have h2 := h (x, ly + (k : Int))
    simp only [colF, rs] at h1 ⊢
    omega
theorem areaF_bd {f : Pt → Int} (h : ∀ p, 0 ≤ f p ∧ f p ≤ 1) (lx ly : Int) {ny : Nat} (hy : ny ≤ 401) : ∀ k : Nat, 0 ≤ areaF f lx ly ny k ∧ areaF f lx ly ny k ≤ 401 * (k : Int)
  | 0 => ⟨Int.le_refl _, Int.le_refl _⟩
  | k + 1 => by
    have h1 := areaF_bd h lx ly hy k
    have h2 := colF_bd h ly (lx + (k : Int)) ny
    simp only [areaF, rs] at h1 ⊢
    omega
theorem inn_bd (l : List Pt) (p : Pt) : 0 ≤ innF l p ∧ innF l p ≤ 1 := by unfold innF; split <;> omega
theorem sid_bd (l : List Pt) (p : Pt) : 0 ≤ sidF l p ∧ sidF l p ≤ 1 := by unfold sidF; split <;> omega
theorem colF_next (f : Pt → Int) (ly x : Int) (k : Nat) : colF f ly x (k + 1) = colF f ly x k + f (x, ly + (k : Int)) := rfl
theorem areaF_next (f : Pt → Int) (lx ly : Int) (ny k : Nat) : areaF f lx ly ny (k + 1) = areaF f lx ly ny k + colF f ly (lx + (k : Int)) ny := rfl
/-- What the reference counts in the box of the corners. -/
theorem count_box {l : List Pt} (h : Ok l) {lx hx ly hy : Int} (e1 : lx = bxL (·.1) l l.length) (e2 : hx = bxH (·.1) l l.length) (e3 : ly = bxL (·.2) l l.length) (e4 : hy = bxH (·.2) l l.length) {nx ny : Nat} (e5 : (nx : Int) = hx - lx + 1) (e6 : (ny : Int) = hy - ly + 1) :
    areaF (innF l) lx ly ny nx = pickOf l ∧ areaF (sidF l) lx ly ny nx = ownOf l := by
  have hl := h.1.1
  have b1 := bx_bd (f := (·.1)) (l := l) (by omega) (fun i hi => (isPt_bd (h.2.1 i hi)).1) l.length (Nat.le_refl _)
  have b2 := bx_bd (f := (·.2)) (l := l) (by omega) (fun i hi => (isPt_bd (h.2.1 i hi)).2) l.length (Nat.le_refl _)
  have hb : ∀ v ∈ l, (lx ≤ v.1 ∧ v.1 ≤ hx) ∧ (ly ≤ v.2 ∧ v.2 ≤ hy) := fun v hv => by
    obtain ⟨i, hi, rfl⟩ := mem_pat.1 hv
    have k1 := bxL_le (·.1) l l.length i hi
    have k2 := le_bxH (·.1) l l.length i hi
    have k3 := bxL_le (·.2) l l.length i hi
    have k4 := le_bxH (·.2) l l.length i hi
    omega
  have ho := fun p hp => out_box (p := p) hb hp
  have hp := pick_box h (M := 600) (Nat.le_refl _)
  rw [bs_small (f := innF l) (lx := lx) (ly := ly) (nx := nx) (ny := ny) (by omega) (by omega) (by omega) (by omega) fun p q => (ho p (by omega)).1, bs_small (f := sidF l) (lx := lx) (ly := ly) (nx := nx) (ny := ny) (by omega) (by omega) (by omega) (by omega) fun p q => (ho p (by omega)).2] at hp
  exact hp

set_option maxRecDepth 100000 in
set_option maxHeartbeats 4000000 in
theorem rPoints_ok (b o ca : Nat) (l : List Pt) (w : World) (hp : PtsAt w b o l) (hok : Ok l) :
    Calls Try.prog 29 #[.slice (some ⟨b, o, none⟩) l.length ca] w fun e w' => e = .returned (.tuple #[(Value.int .i64 (pickOf l)), (Value.int .i64 (ownOf l)), (Value.int .i64 (0))]) ∧ Below w.heap.size w w' := by
  have hl10 := hok.1
  have hchk := Lib.hid fun (V : World) (h : Below w.heap.size w V) => rCheck_any (some ⟨b, o, none⟩) ca l V (.inr ⟨b, o, rfl, hp.below h⟩) (by omega)
  rw [chk_ok hok] at hchk
  have hbox := Lib.hid fun (V : World) (h : Below w.heap.size w V) => rbox_any b o ca l V (hp.below h) (by omega) (by omega)
  have hwh := Lib.hid fun (V : World) (h : Below w.heap.size w V) (q : Pt) (hq : isPt q = true) => rwhere_any b o ca l q V (hp.below h) hok hq
  have b1 := bx_bd (f := (·.1)) (l := l) (by omega) (fun i hi => (isPt_bd (hok.2.1 i hi)).1) l.length (Nat.le_refl _)
  have b2 := bx_bd (f := (·.2)) (l := l) (by omega) (fun i hi => (isPt_bd (hok.2.1 i hi)).2) l.length (Nat.le_refl _)
  have hcnt := fun (nx ny : Nat) h5 h6 => count_box (nx := nx) (ny := ny) hok rfl rfl rfl rfl h5 h6
  clear hok
  replace hcnt := Lib.hid hcnt
  generalize bxL (·.1) l l.length = lx at *
  generalize bxH (·.1) l l.length = hx at *
  generalize bxL (·.2) l l.length = ly at *
  generalize bxH (·.2) l l.length = hy at *
  obtain ⟨nx, enx⟩ : ∃ nx : Nat, (nx : Int) = hx - lx + 1 := ⟨(hx - lx + 1).toNat, by omega⟩
  obtain ⟨ny, eny⟩ : ∃ ny : Nat, (ny : Int) = hy - ly + 1 := ⟨(hy - ly + 1).toNat, by omega⟩
  have hc2 := hcnt.out nx ny enx eny
  obtain ⟨hc3, hc4⟩ := hc2
  go_enter Try.func29, Try.ntmps29
  go_upto_region 5 with (first | (go_at_call 23; with_reducible refine Calls.mono (hchk.out _ (by (repeat (first | with_reducible exact Below.refl _ _ | with_reducible apply bl_alloc | with_reducible apply bl_drew | with_reducible apply bl_after | (with_reducible refine bl_call ?_ (by assumption)))))) ?_; rintro e w1 ⟨rfl, hb1⟩; first | ((with_reducible apply kp_in_step (hb := hb1)); (with_reducible assumption); rintro ⟨hk, hc, hf, hzc, hzf⟩) | ((with_reducible refine kp_in_first hb1 ?_); rintro ⟨hk, hc, hf, hzc, hzf⟩)) | (go_at_call 62; with_reducible refine Calls.mono (hbox.out _ (by (repeat (first | with_reducible exact Below.refl _ _ | with_reducible apply bl_alloc | with_reducible apply bl_drew | with_reducible apply bl_after | (with_reducible refine bl_call ?_ (by assumption)))))) ?_; rintro e w1 ⟨rfl, hb1⟩; first | ((with_reducible apply kp_in_step (hb := hb1)); (with_reducible assumption); rintro ⟨hk, hc, hf, hzc, hzf⟩) | ((with_reducible refine kp_in_first hb1 ?_); rintro ⟨hk, hc, hf, hzc, hzf⟩)))
  have c6 := (Blk.new w1 33 #[(Value.int .i64 (lx)), (Value.int .i64 (ly))]).alloc (.cells #[(Value.int .i64 (hx)), (Value.int .i64 (hy))] 33)
  have c7 := Blk.new (w1.alloc (.cells #[(Value.int .i64 (lx)), (Value.int .i64 (ly))] 33)) 33 #[(Value.int .i64 (hx)), (Value.int .i64 (hy))]
  simp only [World.size_alloc] at c7
  have hbW : Below w.heap.size w ((w1.alloc (.cells #[(Value.int .i64 (lx)), (Value.int .i64 (ly))] 33)).alloc (.cells #[(Value.int .i64 (hx)), (Value.int .i64 (hy))] 33)) := by (repeat (first | with_reducible exact Below.refl _ _ | with_reducible apply bl_alloc | with_reducible apply bl_drew | with_reducible apply bl_after | (with_reducible refine bl_call ?_ (by assumption))))
  generalize (w1.alloc (.cells #[(Value.int .i64 (lx)), (Value.int .i64 (ly))] 33)).alloc (.cells #[(Value.int .i64 (hx)), (Value.int .i64 (hy))] 33) = W1 at c6 c7 hbW ⊢
  generalize w1.heap.size = g6 at c6 c7 ⊢
  clear hk hc hf hzc hzf hb1
  clear hk hc hf hzc hzf hb1
  clear hchk hbox hp
  have y0 := c6.cell 0
  have l6 := c6.lt
  simp only [List.getElem?_toArray, List.getElem?_cons_zero, List.getElem?_cons_succ] at y0
  go_wp2
  clear y0 l6
  go_loopg [2, 3, 8] nx (fun g i s x wr => ∃ k : Nat, k ≤ nx ∧ g = nx - k ∧ i = (Value.int .i64 (areaF (innF l) lx ly ny k)) ∧ s = (Value.int .i64 (areaF (sidF l) lx ly ny k)) ∧ x = (Value.int .i64 (lx + (k : Int))) ∧ Blk wr g6 33 #[(Value.int .i64 (lx)), (Value.int .i64 (ly))] ∧ Blk wr (g6 + 1) 33 #[(Value.int .i64 (hx)), (Value.int .i64 (hy))] ∧ Below w.heap.size w wr)
  case atStart => exact ⟨0, Nat.zero_le _, rfl, rfl, rfl, by go_num, c6, c7, hbW⟩
  case round =>
    obtain ⟨k, kn, rfl, rfl, rfl, rfl, e6, e7, hbw⟩ := hrel
    clear c6 c7 hbW
    have l6 := e6.lt
    have l7 := e7.lt
    have y1 := e6.cell 1
    have z0 := e7.cell 0
    simp only [List.getElem?_toArray, List.getElem?_cons_zero, List.getElem?_cons_succ] at y1 z0
    have n1 := areaF_bd (inn_bd l) lx ly (ny := ny) (by omega) k
    have n2 := areaF_bd (sid_bd l) lx ly (ny := ny) (by omega) k
    by_cases hlt : k < nx
    · have i1 : lx + (k : Int) ≤ hx := by omega
      go_wp2
      clear l6 l7 y1 z0
      go_loopg [2, 3, 9] ny (fun g i s y wr => ∃ j : Nat, j ≤ ny ∧ g = ny - j ∧ i = (Value.int .i64 (areaF (innF l) lx ly ny k + colF (innF l) ly (lx + (k : Int)) j)) ∧ s = (Value.int .i64 (areaF (sidF l) lx ly ny k + colF (sidF l) ly (lx + (k : Int)) j)) ∧ y = (Value.int .i64 (ly + (j : Int))) ∧ Blk wr g6 33 #[(Value.int .i64 (lx)), (Value.int .i64 (ly))] ∧ Blk wr (g6 + 1) 33 #[(Value.int .i64 (hx)), (Value.int .i64 (hy))] ∧ Below w.heap.size w wr)
      case atStart => exact ⟨0, Nat.zero_le _, rfl, by simp [colF, rs], by simp [colF, rs], by go_num, e6, e7, hbw⟩
      case round =>
        obtain ⟨j, jn, rfl, rfl, rfl, rfl, d6, d7, hbv⟩ := hrel
        clear e6 e7 hbw
        have l6 := d6.lt
        have l7 := d7.lt
        have z1 := d7.cell 1
        simp only [List.getElem?_toArray, List.getElem?_cons_zero, List.getElem?_cons_succ] at z1
        have n3 := colF_bd (inn_bd l) ly (lx + (k : Int)) j
        have n4 := colF_bd (sid_bd l) ly (lx + (k : Int)) j
        by_cases hlt2 : j < ny
        · have i2 : ly + (j : Int) ≤ hy := by omega
          have hq : isPt (lx + (k : Int), ly + (j : Int)) = true := by
            simp only [isPt, within, Bool.and_eq_true, decide_eq_true_eq]
            omega
          have hw := fun V hV => hwh.out V hV (lx + (k : Int), ly + (j : Int)) hq
          have m1 := colF_next (innF l) ly (lx + (k : Int)) j
          have m2 := colF_next (sidF l) ly (lx + (k : Int)) j
          have hv : whereOf l (lx + (k : Int), ly + (j : Int)) = 1 ∨ whereOf l (lx + (k : Int), ly + (j : Int)) = 2 ∨ whereOf l (lx + (k : Int), ly + (j : Int)) = 3 := by
            unfold whereOf
            split
            · exact .inr (.inl rfl)
            · split
              · exact .inl rfl
              · exact .inr (.inr rfl)
          have o1 : innF l (lx + (k : Int), ly + (j : Int)) = if whereOf l (lx + (k : Int), ly + (j : Int)) = 1 then 1 else 0 := rfl
          have o2 : sidF l (lx + (k : Int), ly + (j : Int)) = if whereOf l (lx + (k : Int), ly + (j : Int)) = 2 then 1 else 0 := rfl
          rcases hv with hv | hv | hv
          all_goals rw [hv] at o1 o2
          all_goals simp only [if_true, if_false, show ((1 : Int) = 2) = False by decide, show ((2 : Int) = 1) = False by decide, show ((3 : Int) = 1) = False by decide, show ((3 : Int) = 2) = False by decide] at o1 o2
          all_goals rw [o1] at m1
          all_goals rw [o2] at m2
          all_goals clear o1 o2
          all_goals simp only [hv] at hw
          all_goals replace hw := Lib.hid hw
          · go_wp2_with (go_at_call 61; with_reducible refine Calls.mono (hw.out _ (by (repeat (first | with_reducible exact Below.refl _ _ | with_reducible apply bl_alloc | with_reducible apply bl_drew | with_reducible apply bl_after | (with_reducible refine bl_call ?_ (by assumption)))))) ?_; rintro e w1 ⟨rfl, hb1⟩; first | ((with_reducible apply kp_in_step (hb := hb1)); (with_reducible assumption); rintro ⟨hk, hc, hf, hzc, hzf⟩) | ((with_reducible refine kp_in_first hb1 ?_); rintro ⟨hk, hc, hf, hzc, hzf⟩))
            go_roundg (ny - (j + 1))
            case measure => omega
            case rel => exact ⟨j + 1, by omega, rfl, by go_num, by go_num, by go_num, d6.below (by assumption), d7.below (by assumption), by (repeat (first | with_reducible exact Below.refl _ _ | with_reducible apply bl_alloc | with_reducible apply bl_drew | with_reducible apply bl_after | (with_reducible refine bl_call ?_ (by assumption))))⟩
          · go_wp2_with (go_at_call 61; with_reducible refine Calls.mono (hw.out _ (by (repeat (first | with_reducible exact Below.refl _ _ | with_reducible apply bl_alloc | with_reducible apply bl_drew | with_reducible apply bl_after | (with_reducible refine bl_call ?_ (by assumption)))))) ?_; rintro e w1 ⟨rfl, hb1⟩; first | ((with_reducible apply kp_in_step (hb := hb1)); (with_reducible assumption); rintro ⟨hk, hc, hf, hzc, hzf⟩) | ((with_reducible refine kp_in_first hb1 ?_); rintro ⟨hk, hc, hf, hzc, hzf⟩))
            go_roundg (ny - (j + 1))
            case measure => omega
            case rel => exact ⟨j + 1, by omega, rfl, by go_num, by go_num, by go_num, d6.below (by assumption), d7.below (by assumption), by (repeat (first | with_reducible exact Below.refl _ _ | with_reducible apply bl_alloc | with_reducible apply bl_drew | with_reducible apply bl_after | (with_reducible refine bl_call ?_ (by assumption))))⟩
          · go_wp2_with (go_at_call 61; with_reducible refine Calls.mono (hw.out _ (by (repeat (first | with_reducible exact Below.refl _ _ | with_reducible apply bl_alloc | with_reducible apply bl_drew | with_reducible apply bl_after | (with_reducible refine bl_call ?_ (by assumption)))))) ?_; rintro e w1 ⟨rfl, hb1⟩; first | ((with_reducible apply kp_in_step (hb := hb1)); (with_reducible assumption); rintro ⟨hk, hc, hf, hzc, hzf⟩) | ((with_reducible refine kp_in_first hb1 ?_); rintro ⟨hk, hc, hf, hzc, hzf⟩))
            go_roundg (ny - (j + 1))
            case measure => omega
            case rel => exact ⟨j + 1, by omega, rfl, by go_num, by go_num, by go_num, d6.below (by assumption), d7.below (by assumption), by (repeat (first | with_reducible exact Below.refl _ _ | with_reducible apply bl_alloc | with_reducible apply bl_drew | with_reducible apply bl_after | (with_reducible refine bl_call ?_ (by assumption))))⟩
        · obtain rfl : j = ny := by omega
          have m1 := areaF_next (innF l) lx ly j k
          have m2 := areaF_next (sidF l) lx ly j k
          go_wp2
          go_roundg (nx - (k + 1))
          case measure => omega
          case rel => exact ⟨k + 1, by omega, rfl, by rw [m1], by rw [m2], by go_num, d6, d7, hbv⟩
    · obtain rfl : k = nx := by omega
      go_wp2
      (try simp only [Exit.inBlock, Exit.then])
      refine bodyPost_ret (v := .tuple #[(Value.int .i64 (areaF (innF l) lx ly ny k)), (Value.int .i64 (areaF (sidF l) lx ly ny k)), (Value.int .i64 (0))]) (by simp [results, Try.results29, go_sem]) rfl ?_
      exact ⟨by rw [hc3, hc4], hbw⟩
end Go.Proofs.Ytijpolfmiajenaa
