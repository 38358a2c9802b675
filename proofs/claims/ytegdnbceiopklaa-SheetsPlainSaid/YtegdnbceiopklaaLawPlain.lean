/- The law SheetsPlain answers true for any polygon, two points and controls. -/
import Derived.Test.YtegdnbceiopklaaWk4
import Derived.Test.YtegdnbceiopklaaPl4
import Derived.Test.YtegdnbceiopklaaTwF
import Derived.Test.YtegdnbceiopklaaOpc
import Derived.Test.YtegdnbceiopklaaRows
namespace Go.Proofs.Ytegdnbceiopklaa
open Go.ChangeShapes Go.WideShapes Go.RowKit
attribute [local go_sem] After.cell After.frozen

section
open Go.Deep
variable {H : Type} {enc : TypeId × Value → H}
theorem okWide_arr {P : Program} {w : World} {r : Reach} {base n : Nat} {t e : TypeId} {v : Value} (ht : P.underlying t = some (.array n e)) (h : Value.okWide P w r base t v) : ∃ cs, v = .agg cs ∧ cs.size = P.cellsOf t := by
  simp only [Value.okWide, ht] at h
  obtain ⟨cs, h1, h2, _⟩ := h
  exact ⟨cs, h1, h2⟩
set_option maxRecDepth 100000 in
theorem open_two {W : World} {r : Reach} {b0 : Nat} {v : Value} {d : DataW H} {p : List MemPlace} (hv : Value.okWide Try.prog W r b0 61 v) (h : DataW.Trod enc Try.prog W 0 (fun _ => true) true 61 v d p) :
    ∃ a b : Pt, v = .agg #[(Value.int .i64 (a.1)), (Value.int .i64 (a.2)), (Value.int .i64 (b.1)), (Value.int .i64 (b.2))] := by
  obtain ⟨cs, rfl, hsz⟩ := okWide_arr Try.underlying61 hv
  obtain ⟨c0, c1, c2, c3, rfl⟩ := Go.Joins.array4 (hsz.trans (by kernel_rfl))
  obtain ⟨fuel, hf⟩ := h
  obtain ⟨xs, m, _, _, _, hx, hi⟩ := DataW.trod_array Try.underlying61 hf
  have k2 : Try.prog.cellsOf 42 = 2 := by kernel_rfl
  obtain ⟨y0, y1, rfl⟩ : ∃ y0 y1, xs = [y0, y1] := by
    match xs, hx with
    | [y0, y1], _ => exact ⟨y0, y1, rfl⟩
  have h0 := hi 0 (by decide)
  have h1 := hi 1 (by decide)
  simp only [k2, Value.cells, Nat.zero_mul, Nat.one_mul, List.drop_zero, List.take_succ_cons, List.take_zero, List.drop_succ_cons, List.getElem?_cons_zero, List.getElem?_cons_succ] at h0 h1
  obtain ⟨z4, z5, m3, _, _, g4, g5⟩ := trod_struct2 Try.underlying42 h0
  obtain ⟨z6, z7, m4, _, _, g6, g7⟩ := trod_struct2 Try.underlying42 h1
  simp only [cellsInt, List.drop_zero, List.take_succ_cons, List.take_zero, List.drop_succ_cons] at g4 g5 g6 g7
  obtain ⟨x4, rfl, _⟩ := int_f g4
  obtain ⟨x5, rfl, _⟩ := int_f g5
  obtain ⟨x6, rfl, _⟩ := int_f g6
  obtain ⟨x7, rfl, _⟩ := int_f g7
  exact ⟨(x4, x5), (x6, x7), rfl⟩
end
set_option maxRecDepth 100000 in
set_option maxHeartbeats 4000000 in
theorem lawPlain_no (A B : Option Addr) (ca cb : Nat) (cs : List Ctl) (l : List Pt) (a b : Pt) (w : World) (ha : Cts w A cs) (hla : cs.length ≤ 9223372036854775807) (hb : Pts w B l) (hlb : l.length ≤ 9223372036854775807)
    (x1 x2 x3 x4 : Bool) (h1 : shtB (plS cs) = x1) (h2 : polB l = x2) (h3 : isPt a = x3) (h4 : isPt b = x4) (hx : 40 < cs.length ∨ (¬ 40 < cs.length ∧ x1 = false) ∨ (¬ 40 < cs.length ∧ x1 = true ∧ x2 = false) ∨ (¬ 40 < cs.length ∧ x1 = true ∧ x2 = true ∧ x3 = false) ∨ (¬ 40 < cs.length ∧ x1 = true ∧ x2 = true ∧ x3 = true ∧ x4 = false)) :
    Calls Try.prog 6 #[.slice B l.length cb, .agg #[(Value.int .i64 (a.1)), (Value.int .i64 (a.2)), (Value.int .i64 (b.1)), (Value.int .i64 (b.2))], .slice A cs.length ca] w fun e w' => e = .returned (.bool true) ∧ Below w.heap.size w w' := by
  have hC : ∀ W : World, Below w.heap.size w W → Calls Try.prog 29 #[.agg #[(Value.int .i64 (1000)), (Value.int .i64 (1000)), (Value.int .i64 (1000)), (Value.int .i64 (1000)), .slice A cs.length ca, (Value.int .i64 (8))]] W fun e w' => e = .returned (Value.int .i64 (chkS (plS cs))) ∧ Below W.heap.size W w' := fun W h => rCheck4 A ca (plS cs) W (ha.below h)
  have hP := fun (W : World) (h : Below w.heap.size w W) => isPolygon4 B cb l W (hb.below h) hlb
  have hI1 := fun (W : World) => rIsPoint_any a W
  have hI2 := fun (W : World) => rIsPoint_any b W
  have hE : chkS (plS cs) = if x1 = true then 0 else 40 := by rw [← h1]; rfl
  have c1 : Blk ((w.alloc (.cells #[(Value.int .i64 (a.1)), (Value.int .i64 (a.2)), (Value.int .i64 (b.1)), (Value.int .i64 (b.2))] 61)).alloc (.cells #[(Value.int .i64 (1000)), (Value.int .i64 (1000)), (Value.int .i64 (1000)), (Value.int .i64 (1000)), .slice A cs.length ca, (Value.int .i64 (8))] 26)) w.heap.size 61 #[(Value.int .i64 (a.1)), (Value.int .i64 (a.2)), (Value.int .i64 (b.1)), (Value.int .i64 (b.2))] := (Blk.new _ _ _).alloc _
  have c2 : Blk ((w.alloc (.cells #[(Value.int .i64 (a.1)), (Value.int .i64 (a.2)), (Value.int .i64 (b.1)), (Value.int .i64 (b.2))] 61)).alloc (.cells #[(Value.int .i64 (1000)), (Value.int .i64 (1000)), (Value.int .i64 (1000)), (Value.int .i64 (1000)), .slice A cs.length ca, (Value.int .i64 (8))] 26)) (w.heap.size + 1) 26 #[(Value.int .i64 (1000)), (Value.int .i64 (1000)), (Value.int .i64 (1000)), (Value.int .i64 (1000)), .slice A cs.length ca, (Value.int .i64 (8))] := Blk.new_at (by simp)
  (have lp := c1.lt); (have yp0 := c1.cell 0); (have yp1 := c1.cell 1); (have yp2 := c1.cell 2); (have yp3 := c1.cell 3); simp only [List.getElem?_toArray, List.getElem?_cons_zero, List.getElem?_cons_succ] at yp0 yp1 yp2 yp3
  (have lq := c2.lt); (have yq0 := c2.cell 0); (have yq1 := c2.cell 1); (have yq2 := c2.cell 2); (have yq3 := c2.cell 3); (have yq4 := c2.cell 4); (have yq5 := c2.cell 5); simp only [List.getElem?_toArray, List.getElem?_cons_zero, List.getElem?_cons_succ] at yq0 yq1 yq2 yq3 yq4 yq5
  rw [hE] at hC
  rw [h2] at hP
  rw [h3] at hI1
  rw [h4] at hI2
  replace hI1 := Lib.hid hI1
  replace hI2 := Lib.hid hI2
  replace hP := Lib.hid hP
  clear ha hb hla hlb c1 c2 h1 h2 h3 h4 hE
  rcases hx with hx | ⟨hx, rfl⟩ | ⟨hx, rfl, rfl⟩ | ⟨hx, rfl, rfl, rfl⟩ | ⟨hx, rfl, rfl, rfl, rfl⟩ <;> (try simp only [Bool.false_eq_true, if_true, if_false] at hC) <;> replace hC := Lib.hid hC
  all_goals
    go_enter Try.func6, Try.ntmps6
    go_wp2_with (first | ((go_at_call 29); (with_reducible refine Calls.mono (hC.out _ (by (repeat (first | with_reducible exact Below.refl _ _ | with_reducible apply bl_alloc | with_reducible apply bl_drew | with_reducible apply bl_after | (with_reducible refine bl_call ?_ (by assumption)))))) ?_); rintro e wn ⟨rfl, hbn⟩; first | ((with_reducible apply kp_in_step (hb := hbn)); (with_reducible assumption); rintro ⟨hk, hc, hf, hzc, hzf⟩) | ((with_reducible refine kp_in_first hbn ?_); rintro ⟨hk, hc, hf, hzc, hzf⟩)) | ((go_at_call 19); (with_reducible refine Calls.mono (hP.out _ (by (repeat (first | with_reducible exact Below.refl _ _ | with_reducible apply bl_alloc | with_reducible apply bl_drew | with_reducible apply bl_after | (with_reducible refine bl_call ?_ (by assumption)))))) ?_); rintro e wn ⟨rfl, hbn⟩; first | ((with_reducible apply kp_in_step (hb := hbn)); (with_reducible assumption); rintro ⟨hk, hc, hf, hzc, hzf⟩) | ((with_reducible refine kp_in_first hbn ?_); rintro ⟨hk, hc, hf, hzc, hzf⟩)) | ((go_at_call 37); (with_reducible refine Calls.mono (hI1.out _) ?_); rintro e wn ⟨rfl, hbn⟩; first | ((with_reducible apply kp_in_step (hb := hbn)); (with_reducible assumption); rintro ⟨hk, hc, hf, hzc, hzf⟩) | ((with_reducible refine kp_in_first hbn ?_); rintro ⟨hk, hc, hf, hzc, hzf⟩)) | ((go_at_call 37); (with_reducible refine Calls.mono (hI2.out _) ?_); rintro e wn ⟨rfl, hbn⟩; first | ((with_reducible apply kp_in_step (hb := hbn)); (with_reducible assumption); rintro ⟨hk, hc, hf, hzc, hzf⟩) | ((with_reducible refine kp_in_first hbn ?_); rintro ⟨hk, hc, hf, hzc, hzf⟩)) | ((go_at_call 13); (with_reducible refine Calls.mono (works4 _) ?_); rintro e w9 ⟨rfl, hb9⟩; first | ((with_reducible apply kp_in_step (hb := hb9)); (with_reducible assumption); rintro ⟨hk, hc, hf, hzc, hzf⟩) | ((with_reducible refine kp_in_first hb9 ?_); rintro ⟨hk, hc, hf, hzc, hzf⟩)))
    go_ret
    exact ⟨rfl, by (repeat (first | with_reducible exact Below.refl _ _ | with_reducible apply bl_alloc | with_reducible apply bl_drew | with_reducible apply bl_after | (with_reducible refine bl_call ?_ (by assumption))))⟩
set_option maxRecDepth 100000 in
set_option maxHeartbeats 8000000 in
theorem lawPlain_ok (A B : Option Addr) (ca cb : Nat) (cs : List Ctl) (l : List Pt) (a b : Pt) (w : World) (ha : Cts w A cs) (hb : Pts w B l) (hlb : l.length ≤ 9223372036854775807)
    (h0 : ¬ 40 < cs.length) (h1 : shtB (plS cs) = true) (h2 : polB l = true) (h3 : isPt a = true) (h4 : isPt b = true) :
    Calls Try.prog 6 #[.slice B l.length cb, .agg #[(Value.int .i64 (a.1)), (Value.int .i64 (a.2)), (Value.int .i64 (b.1)), (Value.int .i64 (b.2))], .slice A cs.length ca] w fun e w' => e = .returned (.bool true) ∧ Below w.heap.size w w' := by
  have hC : ∀ W : World, Below w.heap.size w W → Calls Try.prog 29 #[.agg #[(Value.int .i64 (1000)), (Value.int .i64 (1000)), (Value.int .i64 (1000)), (Value.int .i64 (1000)), .slice A cs.length ca, (Value.int .i64 (8))]] W fun e w' => e = .returned (Value.int .i64 (chkS (plS cs))) ∧ Below W.heap.size W w' := fun W h => rCheck4 A ca (plS cs) W (ha.below h)
  have hP := fun (W : World) (h : Below w.heap.size w W) => isPolygon4 B cb l W (hb.below h) hlb
  have hI1 := fun (W : World) => rIsPoint_any a W
  have hI2 := fun (W : World) => rIsPoint_any b W
  have hE : chkS (plS cs) = 0 := if_pos h1
  have hok := polB_ok.1 h2
  have hab : lnB a b = true := by rw [lnB, h3, h4]; rfl
  have hTc := fun (W : World) (h : Below w.heap.size w W) => Twice_pts B cb l W (hb.below h) (by have := hok.1; omega)
  rw [okN, if_pos hok, chk_ok hok] at hTc
  have hAr : ∀ W : World, Below w.heap.size w W → Calls Try.prog 23 #[.agg #[(Value.int .i64 (1000)), (Value.int .i64 (1000)), (Value.int .i64 (1000)), (Value.int .i64 (1000)), .slice A cs.length ca, (Value.int .i64 (8))], .slice B l.length cb] W fun e w' => e = .returned (.tuple #[.agg #[(Value.int .i64 (abT l)), (Value.int .i64 (abT l))], (Value.int .i64 (0))]) ∧ Below W.heap.size W w' := fun W h => by
    have h5 := Area_any A B ca cb (plS cs) l W (ha.below h) (hb.below h) (by have := hok.1; omega)
    rwa [pl_lo h1 hok, pl_hi h1 hok, pl_ar h1 hok] at h5
  have hLn : ∀ W : World, Below w.heap.size w W → Calls Try.prog 39 #[.agg #[(Value.int .i64 (1000)), (Value.int .i64 (1000)), (Value.int .i64 (1000)), (Value.int .i64 (1000)), .slice A cs.length ca, (Value.int .i64 (8))], (Value.agg #[.int .i64 a.1, .int .i64 a.2]), (Value.agg #[.int .i64 b.1, .int .i64 b.2])] W fun e w' => e = .returned (.tuple #[.agg #[(Value.int .i64 ((a.1 - b.1) * (a.1 - b.1) + (a.2 - b.2) * (a.2 - b.2))), (Value.int .i64 ((a.1 - b.1) * (a.1 - b.1) + (a.2 - b.2) * (a.2 - b.2)))], (Value.int .i64 (0))]) ∧ Below W.heap.size W w' := fun W h => by
    have h5 := Length_any A ca (plS cs) a b W (ha.below h)
    rwa [pl_llo h1 hab, pl_lhi h1 hab, pl_le h1 hab] at h5
  have hAg : ∀ W : World, Below w.heap.size w W → Calls Try.prog 14 #[.agg #[(Value.int .i64 (1000)), (Value.int .i64 (1000)), (Value.int .i64 (1000)), (Value.int .i64 (1000)), .slice A cs.length ca, (Value.int .i64 (8))], .slice B l.length cb, (Value.int .i64 (abT l)), (Value.int .i64 (0))] W fun e w' => e = .returned (.tuple #[(Value.int .i64 (1)), (Value.int .i64 (0))]) ∧ Below W.heap.size W w' := fun W h => by
    have h5 := Agrees_any A B ca cb (plS cs) l (abT l) 0 W (ha.below h) (hb.below h) (by have := hok.1; omega)
    rwa [pl_agv h1 hok, pl_age h1 hok] at h5
  obtain ⟨bp, op, hBp, pp⟩ := hb.ok hok
  subst hBp
  have hTw := Lib.hid fun (V : World) (h : Below w.heap.size w V) => TwiceOf_any bp op cb l V (pp.below h) hok.1.1 hok.1.2 hok.2.1
  have htw := tw_bd2 hok
  have hAb := Lib.hid fun (V : World) => (show Calls Try.prog 26 #[(Value.int .i64 (tw l))] V fun e w' => e = .returned (Value.int .i64 (abT l)) ∧ V = w' from labs4 (tw l) (by omega) V)
  have hq := lnQ_bd (f := (1000, 1000)) hab ⟨by simp, by simp⟩
  have e1 : (a.1 - b.1) * (a.1 - b.1) = (b.1 - a.1) * (b.1 - a.1) := by rw [← Int.neg_mul_neg, Int.neg_sub]
  have e2 : (a.2 - b.2) * (a.2 - b.2) = (b.2 - a.2) * (b.2 - a.2) := by rw [← Int.neg_mul_neg, Int.neg_sub]
  have hxx := hq.xx
  have hyy := hq.yy
  rw [← e1] at hxx
  rw [← e2] at hyy
  have h3' := h3
  have h4' := h4
  simp only [isPt, within, Bool.and_eq_true, decide_eq_true_eq] at h3' h4'
  have zA : IntKind.i64.wrap (a.1 - b.1) = a.1 - b.1 := IntWalk.i64_in _ (by omega)
  have zB : IntKind.i64.wrap (a.2 - b.2) = a.2 - b.2 := IntWalk.i64_in _ (by omega)
  have zC : IntKind.i64.wrap ((a.1 - b.1) * (a.1 - b.1)) = (a.1 - b.1) * (a.1 - b.1) := IntWalk.i64_in _ (by omega)
  have zD : IntKind.i64.wrap ((a.2 - b.2) * (a.2 - b.2)) = (a.2 - b.2) * (a.2 - b.2) := IntWalk.i64_in _ (by omega)
  have zE : IntKind.i64.wrap ((a.1 - b.1) * (a.1 - b.1) + (a.2 - b.2) * (a.2 - b.2)) = (a.1 - b.1) * (a.1 - b.1) + (a.2 - b.2) * (a.2 - b.2) := IntWalk.i64_in _ (by omega)
  have c1 : Blk ((w.alloc (.cells #[(Value.int .i64 (a.1)), (Value.int .i64 (a.2)), (Value.int .i64 (b.1)), (Value.int .i64 (b.2))] 61)).alloc (.cells #[(Value.int .i64 (1000)), (Value.int .i64 (1000)), (Value.int .i64 (1000)), (Value.int .i64 (1000)), .slice A cs.length ca, (Value.int .i64 (8))] 26)) w.heap.size 61 #[(Value.int .i64 (a.1)), (Value.int .i64 (a.2)), (Value.int .i64 (b.1)), (Value.int .i64 (b.2))] := (Blk.new _ _ _).alloc _
  have c2 : Blk ((w.alloc (.cells #[(Value.int .i64 (a.1)), (Value.int .i64 (a.2)), (Value.int .i64 (b.1)), (Value.int .i64 (b.2))] 61)).alloc (.cells #[(Value.int .i64 (1000)), (Value.int .i64 (1000)), (Value.int .i64 (1000)), (Value.int .i64 (1000)), .slice A cs.length ca, (Value.int .i64 (8))] 26)) (w.heap.size + 1) 26 #[(Value.int .i64 (1000)), (Value.int .i64 (1000)), (Value.int .i64 (1000)), (Value.int .i64 (1000)), .slice A cs.length ca, (Value.int .i64 (8))] := Blk.new_at (by simp)
  have hb0 : Below w.heap.size w ((w.alloc (.cells #[(Value.int .i64 (a.1)), (Value.int .i64 (a.2)), (Value.int .i64 (b.1)), (Value.int .i64 (b.2))] 61)).alloc (.cells #[(Value.int .i64 (1000)), (Value.int .i64 (1000)), (Value.int .i64 (1000)), (Value.int .i64 (1000)), .slice A cs.length ca, (Value.int .i64 (8))] 26)) := by (repeat (first | with_reducible exact Below.refl _ _ | with_reducible apply bl_alloc | with_reducible apply bl_drew | with_reducible apply bl_after | (with_reducible refine bl_call ?_ (by assumption))))
  (have lp := c1.lt); (have yp0 := c1.cell 0); (have yp1 := c1.cell 1); (have yp2 := c1.cell 2); (have yp3 := c1.cell 3); simp only [List.getElem?_toArray, List.getElem?_cons_zero, List.getElem?_cons_succ] at yp0 yp1 yp2 yp3
  (have lq := c2.lt); (have yq0 := c2.cell 0); (have yq1 := c2.cell 1); (have yq2 := c2.cell 2); (have yq3 := c2.cell 3); (have yq4 := c2.cell 4); (have yq5 := c2.cell 5); simp only [List.getElem?_toArray, List.getElem?_cons_zero, List.getElem?_cons_succ] at yq0 yq1 yq2 yq3 yq4 yq5
  have C1 := Lib.hid c1
  have C2 := Lib.hid c2
  rw [hE] at hC
  rw [h2] at hP
  rw [h3] at hI1
  rw [h4] at hI2
  replace hI1 := Lib.hid hI1
  replace hI2 := Lib.hid hI2
  replace hP := Lib.hid hP
  replace hC := Lib.hid hC
  replace hTc := Lib.hid hTc
  replace hAr := Lib.hid hAr
  replace hLn := Lib.hid hLn
  replace hAg := Lib.hid hAg
  clear ha hb hlb c1 c2 h1 h2 h3 h4 hE hok hab hq e1 e2 hxx hyy h3' h4' htw pp
  go_enter Try.func6, Try.ntmps6
  go_upto_region 4 with (first | ((go_at_call 29); (with_reducible refine Calls.mono (hC.out _ (by (repeat (first | with_reducible exact Below.refl _ _ | with_reducible apply bl_alloc | with_reducible apply bl_drew | with_reducible apply bl_after | (with_reducible refine bl_call ?_ (by assumption)))))) ?_); rintro e wn ⟨rfl, hbn⟩; first | ((with_reducible apply kp_in_step (hb := hbn)); (with_reducible assumption); rintro ⟨hk, hc, hf, hzc, hzf⟩) | ((with_reducible refine kp_in_first hbn ?_); rintro ⟨hk, hc, hf, hzc, hzf⟩)) | ((go_at_call 19); (with_reducible refine Calls.mono (hP.out _ (by (repeat (first | with_reducible exact Below.refl _ _ | with_reducible apply bl_alloc | with_reducible apply bl_drew | with_reducible apply bl_after | (with_reducible refine bl_call ?_ (by assumption)))))) ?_); rintro e wn ⟨rfl, hbn⟩; first | ((with_reducible apply kp_in_step (hb := hbn)); (with_reducible assumption); rintro ⟨hk, hc, hf, hzc, hzf⟩) | ((with_reducible refine kp_in_first hbn ?_); rintro ⟨hk, hc, hf, hzc, hzf⟩)) | ((go_at_call 37); (with_reducible refine Calls.mono (hI1.out _) ?_); rintro e wn ⟨rfl, hbn⟩; first | ((with_reducible apply kp_in_step (hb := hbn)); (with_reducible assumption); rintro ⟨hk, hc, hf, hzc, hzf⟩) | ((with_reducible refine kp_in_first hbn ?_); rintro ⟨hk, hc, hf, hzc, hzf⟩)) | ((go_at_call 37); (with_reducible refine Calls.mono (hI2.out _) ?_); rintro e wn ⟨rfl, hbn⟩; first | ((with_reducible apply kp_in_step (hb := hbn)); (with_reducible assumption); rintro ⟨hk, hc, hf, hzc, hzf⟩) | ((with_reducible refine kp_in_first hbn ?_); rintro ⟨hk, hc, hf, hzc, hzf⟩)) | ((go_at_call 13); (with_reducible refine Calls.mono (works4 _) ?_); rintro e w9 ⟨rfl, hb9⟩; first | ((with_reducible apply kp_in_step (hb := hb9)); (with_reducible assumption); rintro ⟨hk, hc, hf, hzc, hzf⟩) | ((with_reducible refine kp_in_first hb9 ?_); rintro ⟨hk, hc, hf, hzc, hzf⟩)))
  have hWn : Below (((w.alloc (.cells #[(Value.int .i64 (a.1)), (Value.int .i64 (a.2)), (Value.int .i64 (b.1)), (Value.int .i64 (b.2))] 61)).alloc (.cells #[(Value.int .i64 (1000)), (Value.int .i64 (1000)), (Value.int .i64 (1000)), (Value.int .i64 (1000)), .slice A cs.length ca, (Value.int .i64 (8))] 26))).heap.size ((w.alloc (.cells #[(Value.int .i64 (a.1)), (Value.int .i64 (a.2)), (Value.int .i64 (b.1)), (Value.int .i64 (b.2))] 61)).alloc (.cells #[(Value.int .i64 (1000)), (Value.int .i64 (1000)), (Value.int .i64 (1000)), (Value.int .i64 (1000)), .slice A cs.length ca, (Value.int .i64 (8))] 26)) wn := by (repeat (first | with_reducible exact Below.refl _ _ | with_reducible apply bl_alloc | with_reducible apply bl_drew | with_reducible apply bl_after | (with_reducible refine bl_call ?_ (by assumption))))
  have k1 := C1.out.below hWn
  have k2 := C2.out.below hWn
  have hbV := bl_call hb0 hWn
  clear lp yp0 yp1 yp2 yp3 lq yq0 yq1 yq2 yq3 yq4 yq5 hWn hbn hb0 C1 C2 hC hP hI1 hI2
  ((try clear hk hc hf hzc hzf); (try clear hk hc hf hzc hzf); (try clear hk hc hf hzc hzf); (try clear hk hc hf hzc hzf))
  (have lp := k1.lt); (have yp0 := k1.cell 0); (have yp1 := k1.cell 1); (have yp2 := k1.cell 2); (have yp3 := k1.cell 3); simp only [List.getElem?_toArray, List.getElem?_cons_zero, List.getElem?_cons_succ] at yp0 yp1 yp2 yp3
  (have lq := k2.lt); (have yq0 := k2.cell 0); (have yq1 := k2.cell 1); (have yq2 := k2.cell 2); (have yq3 := k2.cell 3); (have yq4 := k2.cell 4); (have yq5 := k2.cell 5); simp only [List.getElem?_toArray, List.getElem?_cons_zero, List.getElem?_cons_succ] at yq0 yq1 yq2 yq3 yq4 yq5
  go_upto_region 7 with (first | ((go_at_call 38); (with_reducible refine Calls.mono (hTc.out _ hbV) ?_); rintro e w4 ⟨rfl, hb4⟩; (have hbV4 := bl_call hbV hb4); (have k14 := k1.below hb4); (have k24 := k2.below hb4); first | ((with_reducible apply kp_in_step (hb := hb4)); (with_reducible assumption); rintro ⟨hk, hc, hf, hzc, hzf⟩) | ((with_reducible refine kp_in_first hb4 ?_); rintro ⟨hk, hc, hf, hzc, hzf⟩)) | ((go_at_call 23); (with_reducible refine Calls.mono (hAr.out _ hbV4) ?_); rintro e w5 ⟨rfl, hb5⟩; (have hbV5 := bl_alloc (o := .cells #[(Value.int .i64 (abT l)), (Value.int .i64 (abT l))] 23) (bl_call hbV4 hb5)); (have k15 := (k14.below hb5).alloc (.cells #[(Value.int .i64 (abT l)), (Value.int .i64 (abT l))] 23)); (have k25 := (k24.below hb5).alloc (.cells #[(Value.int .i64 (abT l)), (Value.int .i64 (abT l))] 23)); (have l55 : w.heap.size + 1 < w5.heap.size := (k24.below hb5).lt); (have l56 : w.heap.size < w5.heap.size := by omega); first | ((with_reducible apply kp_in_step (hb := hb5)); (with_reducible assumption); rintro ⟨hk, hc, hf, hzc, hzf⟩) | ((with_reducible refine kp_in_first hb5 ?_); rintro ⟨hk, hc, hf, hzc, hzf⟩)) | ((go_at_call 39); (with_reducible refine Calls.mono (hLn.out _ hbV5) ?_); rintro e w6 ⟨rfl, hb6⟩; first | ((with_reducible apply kp_in_step (hb := hb6)); (with_reducible assumption); rintro ⟨hk, hc, hf, hzc, hzf⟩) | ((with_reducible refine kp_in_first hb6 ?_); rintro ⟨hk, hc, hf, hzc, hzf⟩)))
  generalize hqq : (a.1 - b.1) * (a.1 - b.1) + (a.2 - b.2) * (a.2 - b.2) = qq at *
  have a1 := (k15.below hb6).alloc (.cells #[(Value.int .i64 (qq)), (Value.int .i64 (qq))] 23)
  have a2 := (k25.below hb6).alloc (.cells #[(Value.int .i64 (qq)), (Value.int .i64 (qq))] 23)
  have s1 := ((Blk.new w5 23 #[(Value.int .i64 (abT l)), (Value.int .i64 (abT l))]).below hb6).alloc (.cells #[(Value.int .i64 (qq)), (Value.int .i64 (qq))] 23)
  have s2 := Blk.new w6 23 #[(Value.int .i64 (qq)), (Value.int .i64 (qq))]
  have hbX := bl_alloc (o := .cells #[(Value.int .i64 (qq)), (Value.int .i64 (qq))] 23) (bl_call hbV5 hb6)
  clear lp yp0 yp1 yp2 yp3 lq yq0 yq1 yq2 yq3 yq4 yq5 k1 k2 k14 k24 k15 k25 l55 l56 hb4 hb5 hb6 hbV hbV4 hbV5 hTc hAr hLn
  ((try clear hk hc hf hzc hzf); (try clear hk hc hf hzc hzf); (try clear hk hc hf hzc hzf); (try clear hk hc hf hzc hzf))
  generalize w6.alloc (.cells #[(Value.int .i64 (qq)), (Value.int .i64 (qq))] 23) = X at *
  generalize w5.heap.size = g5 at *
  generalize w6.heap.size = g6 at *
  (have lp := a1.lt); (have yp0 := a1.cell 0); (have yp1 := a1.cell 1); (have yp2 := a1.cell 2); (have yp3 := a1.cell 3); simp only [List.getElem?_toArray, List.getElem?_cons_zero, List.getElem?_cons_succ] at yp0 yp1 yp2 yp3
  (have lq := a2.lt); (have yq0 := a2.cell 0); (have yq1 := a2.cell 1); (have yq2 := a2.cell 2); (have yq3 := a2.cell 3); (have yq4 := a2.cell 4); (have yq5 := a2.cell 5); simp only [List.getElem?_toArray, List.getElem?_cons_zero, List.getElem?_cons_succ] at yq0 yq1 yq2 yq3 yq4 yq5
  (have lr := s1.lt); (have yr0 := s1.cell 0); (have yr1 := s1.cell 1); simp only [List.getElem?_toArray, List.getElem?_cons_zero, List.getElem?_cons_succ] at yr0 yr1
  (have lt := s2.lt); (have yt0 := s2.cell 0); (have yt1 := s2.cell 1); simp only [List.getElem?_toArray, List.getElem?_cons_zero, List.getElem?_cons_succ] at yt0 yt1
  refine wp_region_CN (fun w' => ∃ z : After X, w' = z.val) (by kernel_rfl) ?_
  change wpAnyC _ _ _ _ _ _ _ (World.drew X)
  have hd0 : Below X.heap.size X X.drew := bl_drew (Below.refl _ _)
  refine wpAnyC_take (i := 0) (v := ?v0x) rfl (by kernel_rfl) (by kernel_rfl) (by kernel_rfl) ?q0x rfl ?y0x ?r0x; (case q0x => exact fun _ _ _ h => h); (case y0x => ((rintro _ ⟨z, rfl⟩); (go_simp); (try with_reducible rfl))); simp only [Act.put, List.getElem_toArray, List.getElem_cons_succ, List.getElem_cons_zero, List.setIfInBounds_toArray, List.set_cons_succ, List.set_cons_zero]
  refine wpAnyC_take (i := 1) (v := ?v1x) rfl (by kernel_rfl) (by kernel_rfl) (by kernel_rfl) ?q1x rfl ?y1x ?r1x; (case q1x => exact fun _ _ _ h => h); (case y1x => ((rintro _ ⟨z, rfl⟩); (go_simp); (try with_reducible rfl))); simp only [Act.put, List.getElem_toArray, List.getElem_cons_succ, List.getElem_cons_zero, List.setIfInBounds_toArray, List.set_cons_succ, List.set_cons_zero]
  refine wpAnyC_take (i := 2) (v := ?v2x) rfl (by kernel_rfl) (by kernel_rfl) (by kernel_rfl) ?q2x rfl ?y2x ?r2x; (case q2x => exact fun _ _ _ h => h); (case y2x => ((rintro _ ⟨z, rfl⟩); (go_simp); (try with_reducible rfl))); simp only [Act.put, List.getElem_toArray, List.getElem_cons_succ, List.getElem_cons_zero, List.setIfInBounds_toArray, List.set_cons_succ, List.set_cons_zero]
  refine wpAnyC_take (i := 3) (v := ?v3x) rfl (by kernel_rfl) (by kernel_rfl) (by kernel_rfl) ?q3x rfl ?y3x ?r3x; (case q3x => exact fun _ _ _ h => h); (case y3x => ((rintro _ ⟨z, rfl⟩); (go_simp); (try with_reducible rfl))); simp only [Act.put, List.getElem_toArray, List.getElem_cons_succ, List.getElem_cons_zero, List.setIfInBounds_toArray, List.set_cons_succ, List.set_cons_zero]
  refine wpAnyC_take (i := 4) (v := ?v4x) rfl (by kernel_rfl) (by kernel_rfl) (by kernel_rfl) ?q4x rfl ?y4x ?r4x; (case q4x => exact fun _ _ _ h => h); (case y4x => ((rintro _ ⟨z, rfl⟩); (go_simp); (try with_reducible rfl))); simp only [Act.put, List.getElem_toArray, List.getElem_cons_succ, List.getElem_cons_zero, List.setIfInBounds_toArray, List.set_cons_succ, List.set_cons_zero]
  refine wpAnyC_take (i := 5) (v := ?v5x) rfl (by kernel_rfl) (by kernel_rfl) (by kernel_rfl) ?q5x rfl ?y5x ?r5x; (case q5x => exact fun _ _ _ h => h); (case y5x => ((rintro _ ⟨z, rfl⟩); (go_simp); (try with_reducible rfl))); simp only [Act.put, List.getElem_toArray, List.getElem_cons_succ, List.getElem_cons_zero, List.setIfInBounds_toArray, List.set_cons_succ, List.set_cons_zero]
  refine wpAnyC_take (i := 6) (v := ?v6x) rfl (by kernel_rfl) (by kernel_rfl) (by kernel_rfl) ?q6x rfl ?y6x ?r6x; (case q6x => exact fun _ _ _ h => h); (case y6x => ((rintro _ ⟨z, rfl⟩); (go_simp); (try with_reducible rfl))); simp only [Act.put, List.getElem_toArray, List.getElem_cons_succ, List.getElem_cons_zero, List.setIfInBounds_toArray, List.set_cons_succ, List.set_cons_zero]
  refine wpAnyC_take (i := 7) (v := ?v7x) rfl (by kernel_rfl) (by kernel_rfl) (by kernel_rfl) ?q7x rfl ?y7x ?r7x; (case q7x => exact fun _ _ _ h => h); (case y7x => ((rintro _ ⟨z, rfl⟩); (go_simp); (try with_reducible rfl))); simp only [Act.put, List.getElem_toArray, List.getElem_cons_succ, List.getElem_cons_zero, List.setIfInBounds_toArray, List.set_cons_succ, List.set_cons_zero]
  refine wpAnyC_take (i := 8) (v := ?v8x) rfl (by kernel_rfl) (by kernel_rfl) (by kernel_rfl) ?q8x rfl ?y8x ?r8x; (case q8x => exact fun _ _ _ h => h); (case y8x => ((rintro _ ⟨z, rfl⟩); (go_simp); (try with_reducible rfl))); simp only [Act.put, List.getElem_toArray, List.getElem_cons_succ, List.getElem_cons_zero, List.setIfInBounds_toArray, List.set_cons_succ, List.set_cons_zero]
  refine wpAnyC_take (i := 9) (v := ?v9x) rfl (by kernel_rfl) (by kernel_rfl) (by kernel_rfl) ?q9x rfl ?y9x ?r9x; (case q9x => exact fun _ _ _ h => h); (case y9x => ((rintro _ ⟨z, rfl⟩); (go_simp); (try with_reducible rfl))); simp only [Act.put, List.getElem_toArray, List.getElem_cons_succ, List.getElem_cons_zero, List.setIfInBounds_toArray, List.set_cons_succ, List.set_cons_zero]
  refine wpAnyC_take (i := 10) (v := ?v10x) rfl (by kernel_rfl) (by kernel_rfl) (by kernel_rfl) ?q10x rfl ?y10x ?r10x; (case q10x => exact fun _ _ _ h => h); (case y10x => ((rintro _ ⟨z, rfl⟩); (go_simp); (try with_reducible rfl))); simp only [Act.put, List.getElem_toArray, List.getElem_cons_succ, List.getElem_cons_zero, List.setIfInBounds_toArray, List.set_cons_succ, List.set_cons_zero]
  refine wpAnyC_take (i := 11) (v := ?v11x) rfl (by kernel_rfl) (by kernel_rfl) (by kernel_rfl) ?q11x rfl ?y11x ?r11x; (case q11x => exact fun _ _ _ h => h); (case y11x => ((rintro _ ⟨z, rfl⟩); (go_simp); (try with_reducible rfl))); simp only [Act.put, List.getElem_toArray, List.getElem_cons_succ, List.getElem_cons_zero, List.setIfInBounds_toArray, List.set_cons_succ, List.set_cons_zero]
  refine wpAnyC_take (i := 12) (v := ?v12x) rfl (by kernel_rfl) (by kernel_rfl) (by kernel_rfl) ?q12x rfl ?y12x ?r12x; (case q12x => exact fun _ _ _ h => h); (case y12x => ((rintro _ ⟨z, rfl⟩); (go_simp); (try with_reducible rfl))); simp only [Act.put, List.getElem_toArray, List.getElem_cons_succ, List.getElem_cons_zero, List.setIfInBounds_toArray, List.set_cons_succ, List.set_cons_zero]
  refine wpAnyC_take (i := 13) (v := ?v13x) rfl (by kernel_rfl) (by kernel_rfl) (by kernel_rfl) ?q13x rfl ?y13x ?r13x; (case q13x => exact fun _ _ _ h => h); (case y13x => ((rintro _ ⟨z, rfl⟩); (go_simp); (try with_reducible rfl))); simp only [Act.put, List.getElem_toArray, List.getElem_cons_succ, List.getElem_cons_zero, List.setIfInBounds_toArray, List.set_cons_succ, List.set_cons_zero]
  refine wpAnyC_take (i := 14) (v := ?v14x) rfl (by kernel_rfl) (by kernel_rfl) (by kernel_rfl) ?q14x rfl ?y14x ?r14x; (case q14x => exact fun _ _ _ h => h); (case y14x => ((rintro _ ⟨z, rfl⟩); (go_simp); (try with_reducible rfl))); simp only [Act.put, List.getElem_toArray, List.getElem_cons_succ, List.getElem_cons_zero, List.setIfInBounds_toArray, List.set_cons_succ, List.set_cons_zero]
  refine wpAnyC_take (i := 15) (v := ?v15x) rfl (by kernel_rfl) (by kernel_rfl) (by kernel_rfl) ?q15x rfl ?y15x ?r15x; (case q15x => exact fun _ _ _ h => h); (case y15x => ((rintro _ ⟨z, rfl⟩); (go_simp); (try with_reducible rfl))); simp only [Act.put, List.getElem_toArray, List.getElem_cons_succ, List.getElem_cons_zero, List.setIfInBounds_toArray, List.set_cons_succ, List.set_cons_zero]
  refine wpAnyC_doneN (by kernel_rfl) ⟨⟨_, hd0⟩, rfl⟩ ?_ _
  have hbX2 := bl_drew hbX
  replace a2 := a2.below hd0
  replace s1 := s1.below hd0
  replace s2 := s2.below hd0
  clear lp yp0 yp1 yp2 yp3 lq yq0 yq1 yq2 yq3 yq4 yq5 lr yr0 yr1 lt yt0 yt1 hd0 hbX a1
  generalize X.drew = Y at *
  (have lq := a2.lt); (have yq0 := a2.cell 0); (have yq1 := a2.cell 1); (have yq2 := a2.cell 2); (have yq3 := a2.cell 3); (have yq4 := a2.cell 4); (have yq5 := a2.cell 5); simp only [List.getElem?_toArray, List.getElem?_cons_zero, List.getElem?_cons_succ] at yq0 yq1 yq2 yq3 yq4 yq5
  (have lr := s1.lt); (have yr0 := s1.cell 0); (have yr1 := s1.cell 1); simp only [List.getElem?_toArray, List.getElem?_cons_zero, List.getElem?_cons_succ] at yr0 yr1
  (have lt := s2.lt); (have yt0 := s2.cell 0); (have yt1 := s2.cell 1); simp only [List.getElem?_toArray, List.getElem?_cons_zero, List.getElem?_cons_succ] at yt0 yt1
  go_upto_region 9 with fail
  refine wp_region_CN (fun w' => ∃ z : After Y, w' = z.val) (by kernel_rfl) ?_
  change wpAnyC _ _ _ _ _ _ _ (World.drew Y)
  have hd0 : Below Y.heap.size Y Y.drew := bl_drew (Below.refl _ _)
  refine wpAnyC_take (i := 0) (v := ?v0y) rfl (by kernel_rfl) (by kernel_rfl) (by kernel_rfl) ?q0y rfl ?y0y ?r0y; (case q0y => exact fun _ _ _ h => h); (case y0y => ((rintro _ ⟨z, rfl⟩); (go_simp); (try with_reducible rfl))); simp only [Act.put, List.getElem_toArray, List.getElem_cons_succ, List.getElem_cons_zero, List.setIfInBounds_toArray, List.set_cons_succ, List.set_cons_zero]
  refine wpAnyC_take (i := 1) (v := ?v1y) rfl (by kernel_rfl) (by kernel_rfl) (by kernel_rfl) ?q1y rfl ?y1y ?r1y; (case q1y => exact fun _ _ _ h => h); (case y1y => ((rintro _ ⟨z, rfl⟩); (go_simp); (try with_reducible rfl))); simp only [Act.put, List.getElem_toArray, List.getElem_cons_succ, List.getElem_cons_zero, List.setIfInBounds_toArray, List.set_cons_succ, List.set_cons_zero]
  refine wpAnyC_take (i := 2) (v := ?v2y) rfl (by kernel_rfl) (by kernel_rfl) (by kernel_rfl) ?q2y rfl ?y2y ?r2y; (case q2y => exact fun _ _ _ h => h); (case y2y => ((rintro _ ⟨z, rfl⟩); (go_simp); (try with_reducible rfl))); simp only [Act.put, List.getElem_toArray, List.getElem_cons_succ, List.getElem_cons_zero, List.setIfInBounds_toArray, List.set_cons_succ, List.set_cons_zero]
  refine wpAnyC_one (i := 3) (by kernel_rfl) rfl ⟨⟨_, hd0⟩, rfl⟩ rfl (fun K hK => ?_)
  go_simp
  go_at_call 27
  (with_reducible refine Calls.mono (hTw.out _ (bl_drew hbX2)) ?_)
  rintro e8 w8 ⟨rfl, hb8⟩
  refine hK _ _ ?_
  clear hK K
  have hd1 := hd0.trans (hb8.mono hd0.size)
  (refine wpAnyC_one (i := 4) (by kernel_rfl) rfl ⟨⟨_, hd1⟩, rfl⟩ rfl (fun K hK => ?_); go_simp; go_at_call 26; (with_reducible refine Calls.mono (hAb.out _) ?_); rintro e w' ⟨rfl, rfl⟩; refine hK _ _ ?_; clear hK K)
  refine wpAnyC_one (i := 5) (by kernel_rfl) rfl ⟨⟨_, hd1⟩, rfl⟩ rfl (fun K hK => ?_)
  go_simp
  go_at_call 14
  (with_reducible refine Calls.mono (hAg.out _ (bl_call (bl_drew hbX2) hb8)) ?_)
  rintro e9 w9 ⟨rfl, hb9⟩
  refine hK _ _ ?_
  clear hK K
  have hd2 := hd1.trans (hb9.mono hd1.size)
  refine wpAnyC_take (i := 6) (v := ?v6y) rfl (by kernel_rfl) (by kernel_rfl) (by kernel_rfl) ?q6y rfl ?y6y ?r6y; (case q6y => exact fun _ _ _ h => h); (case y6y => ((rintro _ ⟨z, rfl⟩); (go_simp); (try with_reducible rfl))); simp only [Act.put, List.getElem_toArray, List.getElem_cons_succ, List.getElem_cons_zero, List.setIfInBounds_toArray, List.set_cons_succ, List.set_cons_zero]
  refine wpAnyC_take (i := 7) (v := ?v7y) rfl (by kernel_rfl) (by kernel_rfl) (by kernel_rfl) ?q7y rfl ?y7y ?r7y; (case q7y => exact fun _ _ _ h => h); (case y7y => ((rintro _ ⟨z, rfl⟩); (go_simp); (try with_reducible rfl))); simp only [Act.put, List.getElem_toArray, List.getElem_cons_succ, List.getElem_cons_zero, List.setIfInBounds_toArray, List.set_cons_succ, List.set_cons_zero]
  refine wpAnyC_take (i := 8) (v := ?v8y) rfl (by kernel_rfl) (by kernel_rfl) (by kernel_rfl) ?q8y rfl ?y8y ?r8y; (case q8y => exact fun _ _ _ h => h); (case y8y => ((rintro _ ⟨z, rfl⟩); (go_simp); (try with_reducible rfl))); simp only [Act.put, List.getElem_toArray, List.getElem_cons_succ, List.getElem_cons_zero, List.setIfInBounds_toArray, List.set_cons_succ, List.set_cons_zero]
  refine wpAnyC_take (i := 9) (v := ?v9y) rfl (by kernel_rfl) (by kernel_rfl) (by kernel_rfl) ?q9y rfl ?y9y ?r9y; (case q9y => exact fun _ _ _ h => h); (case y9y => ((rintro _ ⟨z, rfl⟩); (go_simp); (try with_reducible rfl))); simp only [Act.put, List.getElem_toArray, List.getElem_cons_succ, List.getElem_cons_zero, List.setIfInBounds_toArray, List.set_cons_succ, List.set_cons_zero]
  refine wpAnyC_take (i := 10) (v := ?v10y) rfl (by kernel_rfl) (by kernel_rfl) (by kernel_rfl) ?q10y rfl ?y10y ?r10y; (case q10y => exact fun _ _ _ h => h); (case y10y => ((rintro _ ⟨z, rfl⟩); (go_simp); (try with_reducible rfl))); simp only [Act.put, List.getElem_toArray, List.getElem_cons_succ, List.getElem_cons_zero, List.setIfInBounds_toArray, List.set_cons_succ, List.set_cons_zero]
  refine wpAnyC_doneN (by kernel_rfl) ⟨⟨_, hd2⟩, rfl⟩ ?_ _
  have hbF := bl_call hbX2 hd2
  replace s1 := s1.below hd2
  replace s2 := s2.below hd2
  clear lq yq0 yq1 yq2 yq3 yq4 yq5 lr yr0 yr1 lt yt0 yt1 hd0 hd1 hd2 hb8 hb9 a2 hbX2
  (have lr := s1.lt); (have yr0 := s1.cell 0); (have yr1 := s1.cell 1); simp only [List.getElem?_toArray, List.getElem?_cons_zero, List.getElem?_cons_succ] at yr0 yr1
  (have lt := s2.lt); (have yt0 := s2.cell 0); (have yt1 := s2.cell 1); simp only [List.getElem?_toArray, List.getElem?_cons_zero, List.getElem?_cons_succ] at yt0 yt1
  have hWk := Lib.hid fun (V : World) => works4 V
  go_upto_region 10 with fail
  refine wp_region_after_tail 37 (by kernel_rfl) (by kernel_rfl) ?_; simp only [List.take_succ_cons, List.take_zero, List.drop_succ_cons, List.drop_zero]; (repeat (go_big_quiet_step (((first | (go_at_call 26; with_reducible exact calls_after_same (hAb.out _)) | (go_at_call 13; with_reducible exact calls_after (hWk.out _))))))); refine wpQuiet_nil ?_; rintro _ ⟨z, rfl⟩; (first | ((with_reducible apply kp_in_after (z := z)); (with_reducible assumption); rintro ⟨hk, hc, hf, hzc, hzf⟩) | ((with_reducible refine kp_in_after0 z ?_); rintro ⟨hk, hc, hf, hzc, hzf⟩))
  have hbG := bl_after z hbF
  go_wp2
  go_ret
  exact ⟨rfl, hbG⟩
theorem lawPlain_any (A B : Option Addr) (ca cb : Nat) (cs : List Ctl) (l : List Pt) (a b : Pt) (w : World) (ha : Cts w A cs) (hla : cs.length ≤ 9223372036854775807) (hb : Pts w B l) (hlb : l.length ≤ 9223372036854775807) :
    Calls Try.prog 6 #[.slice B l.length cb, .agg #[(Value.int .i64 (a.1)), (Value.int .i64 (a.2)), (Value.int .i64 (b.1)), (Value.int .i64 (b.2))], .slice A cs.length ca] w fun e w' => e = .returned (.bool true) ∧ Below w.heap.size w w' := by
  by_cases h0 : 40 < cs.length
  · exact lawPlain_no A B ca cb cs l a b w ha hla hb hlb _ _ _ _ rfl rfl rfl rfl (.inl h0)
  · by_cases h1 : shtB (plS cs) = true
    · by_cases h2 : polB l = true
      · by_cases h3 : isPt a = true
        · by_cases h4 : isPt b = true
          · exact lawPlain_ok A B ca cb cs l a b w ha hb hlb h0 h1 h2 h3 h4
          · exact lawPlain_no A B ca cb cs l a b w ha hla hb hlb _ _ _ _ rfl rfl rfl rfl (.inr (.inr (.inr (.inr ⟨h0, h1, h2, h3, by simpa using h4⟩))))
        · exact lawPlain_no A B ca cb cs l a b w ha hla hb hlb _ _ _ _ rfl rfl rfl rfl (.inr (.inr (.inr (.inl ⟨h0, h1, h2, by simpa using h3⟩))))
      · exact lawPlain_no A B ca cb cs l a b w ha hla hb hlb _ _ _ _ rfl rfl rfl rfl (.inr (.inr (.inl ⟨h0, h1, by simpa using h2⟩)))
    · exact lawPlain_no A B ca cb cs l a b w ha hla hb hlb _ _ _ _ rfl rfl rfl rfl (.inr (.inl ⟨h0, by simpa using h1⟩))

section
open Go.ChangeAt
set_option maxRecDepth 100000 in
theorem sheetsPlain_lifted (os : Os) (started : os.Started) (H : Type) (enc : TypeId × Value → H) :
    ReturnsInHanded {} Try.checked os 6 .any (Rows.sheetsPlainSpec.pre6 enc Try.prog Try.f6 Rows.sheetsPlainRow.domain false) (Rows.sheetsPlainSpec.post enc Try.prog Try.f6 false true false false) := by
  refine returnsInHanded_of_change (C := Try.checked) own_knob started (by kernel_rfl) Try.func6
    (ChangeSpec.witness6 (enc := enc) (C := Try.checked) false ⟨#[], #[.slice none 0 0, .agg #[.int .i64 0, .int .i64 0, .int .i64 0, .int .i64 0], .slice none 0 0], []⟩ 8 (by kernel_rfl) (by kernel_rfl) (by kernel_rfl) (by kernel_rfl)) ?_
  intro W base args ds gs before hval0 hW hcnd _
  have hval : ∀ (j : Nat) t v, Try.f6.params[j]? = some t → args[j]? = some v → Value.okWide Try.prog W .any base t v := hval0
  have hW2 := hW
  obtain ⟨p, q, hA0, hV, rfl, hfz, hnd⟩ := hW
  have hA : DataW.TrodAll enc Try.prog W 0 (fun _ => true) true Try.f6.params.toList args.toList ds p := hA0
  rw [Try.params6] at hA hval
  obtain ⟨v0, v1, v2, d0, d1, d2, p0, p1, p2, rfl, rfl, rfl, h0, h1, h2⟩ := trodAll_three hA; obtain ⟨B, cb, l, rfl, hP1, hl1⟩ := open_points (okWide_slice undPts (hval 0 _ _ rfl rfl)) h0; obtain ⟨xa, xb, rfl⟩ := open_two (hval 1 _ _ rfl rfl) h1; obtain ⟨A, ca, cs, rfl, hP0, hl0⟩ := open_ctls (okWide_slice undCtl (hval 2 _ _ rfl rfl)) h2
  obtain ⟨rfl, rfl⟩ := trodVars_none hV
  clear hA0 hval0
  simp only [List.append_nil, List.nil_append] at hW2
  (try simp only [List.append_nil, List.nil_append] at hA)
  refine (lawPlain_any A B ca cb cs l xa xb W hP0 hl0 hP1 hl1).mono fun e W2 ⟨he, hb⟩ => ?_
  subst he
  refine ⟨_, rfl, post_of_below (pa := _) (pv := []) hW2 (fun _ _ _ => trodAll_mk1 (shut_bool und_bool _)) (fun sp hs => args_stay hb (by rw [Try.params6]; intro t ht; simp at ht; (try rcases ht with rfl | rfl | rfl) <;> (try rcases ht with rfl | rfl) <;> (try subst ht) <;> exact ⟨by kernel_rfl, by decide +kernel⟩) (by rw [Try.params6]; exact hA) hs) (fun _ _ => rfl) (by simp) hb (ok_one (by kernel_rfl) rfl (okWide_bool_mk und_bool _))⟩

theorem sheetsPlain_holds : Rows.SheetsPlainSaid :=
  OpenClaim.holds_of_wide 6 Try.f6 rfl rfl rfl rfl rfl rfl rfl ⟨rfl, rfl, rfl, rfl, rfl⟩ rfl rfl rfl rfl rfl (by kernel_rfl) Try.func6 (by kernel_rfl)
    (of_decide_eq_true (by kernel_rfl)) (by unfold Func.isWrapper; first | (rw [if_pos (by decide +kernel)]; kernel_rfl) | (rw [if_neg (by decide +kernel)]; exact ⟨rfl, rfl⟩))
    (fun os started H enc _ => sheetsPlain_lifted os started H enc)
end
end Go.Proofs.Ytegdnbceiopklaa
