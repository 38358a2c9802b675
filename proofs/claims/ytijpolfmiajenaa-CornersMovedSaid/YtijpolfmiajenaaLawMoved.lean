/- The law CornersMoved answers true for any corners and any move, and leaves its arguments as they were. -/
import Derived.Test.YtijpolfmiajenaaPts
import Derived.Test.YtijpolfmiajenaaOpen
import Derived.Test.YtijpolfmiajenaaTold
import Derived.Test.YtijpolfmiajenaaMove
import Derived.Deep.AppendLies
import Derived.StillTactics
import Derived.Test.YtijpolfmiajenaaRows
namespace Go.Proofs.Ytijpolfmiajenaa
open Go.ChangeShapes Go.WideShapes Go.RowKit
attribute [local go_sem] After.cell After.frozen

theorem take_next {l : List Pt} {k : Nat} (h : k < l.length) : l.take (k + 1) = l.take k ++ [pat l k] := by
  rw [List.take_add_one, pat_get h]; rfl
theorem take_len {l : List Pt} {k : Nat} (h : k ≤ l.length) : (l.take k).length = k := by rw [List.length_take]; omega

set_option maxRecDepth 100000 in
set_option maxHeartbeats 4000000 in
theorem lawMoved_any (A : Option Addr) (ca : Nat) (l : List Pt) (q : Pt) (w : World) (ha : Pts w A l) (hla : l.length ≤ 9223372036854775807) :
    Calls Try.prog 7 #[.slice A l.length ca, (Value.agg #[.int .i64 q.1, .int .i64 q.2])] w fun e w' => e = .returned (.bool true) ∧ Below w.heap.size w w' := by
  have hr := Lib.hid fun (W : World) (hW : Below w.heap.size w W) => ready_any A ca l W (ha.below hW) hla
  by_cases hok : Ok l
  · rw [decide_eq_true hok] at hr
    by_cases hq : isPt q = true
    · obtain ⟨b, o, rfl, hp⟩ := ha.ok hok
      obtain ⟨i0, hi, hz0, hz1, hz2⟩ := info_parts infoPt
      have hl10 := hok.1
      have HP := Lib.hid hok.2.1
      have hp0 := hp.lt
      go_enter Try.func7, Try.ntmps7
      go_upto_region 3 with (first | (go_at_call 14; with_reducible refine Calls.mono (hr.out _ (by (repeat (first | with_reducible exact Below.refl _ _ | with_reducible apply bl_alloc | with_reducible apply bl_drew | with_reducible apply bl_after | (with_reducible refine bl_call ?_ (by assumption)))))) ?_; rintro e w1 ⟨rfl, hb1⟩; first | ((with_reducible apply kp_in_step (hb := hb1)); (with_reducible assumption); rintro ⟨hk, hc, hf, hzc, hzf⟩) | ((with_reducible refine kp_in_first hb1 ?_); rintro ⟨hk, hc, hf, hzc, hzf⟩)) | (go_at_call 31; with_reducible refine Calls.mono (rIsPoint_any _ _) ?_; rintro e w1 ⟨rfl, hb1⟩; first | ((with_reducible apply kp_in_step (hb := hb1)); (with_reducible assumption); rintro ⟨hk, hc, hf, hzc, hzf⟩) | ((with_reducible refine kp_in_first hb1 ?_); rintro ⟨hk, hc, hf, hzc, hzf⟩)))
      have c3 : Blk w1 w.heap.size 33 #[(Value.int .i64 (q.1)), (Value.int .i64 (q.2))] := ((Blk.new w _ _).below (by assumption)).below (by assumption)
      have hbW : Below w.heap.size w w1 := by (repeat (first | with_reducible exact Below.refl _ _ | with_reducible apply bl_alloc | with_reducible apply bl_drew | with_reducible apply bl_after | (with_reducible refine bl_call ?_ (by assumption))))
      clear hk hc hf hzc hzf hb1
      clear hk hc hf hzc hzf hb1
      have hpW := hp.below hbW
      clear hp
      generalize w1 = W at c3 hbW hpW ⊢
      have hbW2 := hbW.size
      have lp := hpW.lt
      have l3 := c3.lt
      have q0 := isPt_bd hq
      have hbb : b < w.heap.size := hp0
      go_wp2
      go_loopg [5, 6] l.length (fun g v i wr => ∃ k : Nat, k ≤ l.length ∧ g = l.length - k ∧ i = (Value.int .i64 ((k : Int))) ∧ wr.ownsRow W.heap.size 33 2 v k (ptsV (mvd q (l.take k))) ∧ Below W.heap.size W wr)
      case atStart => exact ⟨0, by omega, rfl, rfl, World.ownsRow_nil _ _ _ _, by (repeat (first | with_reducible exact Below.refl _ _ | with_reducible apply bl_alloc | with_reducible apply bl_drew | with_reducible apply bl_after | (with_reducible refine bl_call ?_ (by assumption))))⟩
      case round =>
        obtain ⟨k, kn, rfl, rfl, hown, hbw⟩ := hrel
        by_cases hlt : k < l.length
        · have pa := hpW.below hbw
          have lb := pa.lt
          have x1 := pa.xp hlt
          have x2 := pa.yp hlt
          have c4 := c3.below hbw
          have x3 := c4.cell 0
          have x4 := c4.cell 1
          have l4 := c4.lt
          simp only [List.getElem?_toArray, List.getElem?_cons_zero, List.getElem?_cons_succ] at x3 x4
          have p0 := isPt_bd (HP.out k hlt)
          have hne : u5.ownBlock ≠ some b := fun h => by have h1 := (hown.lt b h).1; omega
          have hne2 : u5.ownBlock ≠ some w.heap.size := fun h => by have h1 := (hown.lt _ h).1; omega
          have hgm := hbw.size
          have HB := Lib.hid hbw
          clear hbw pa c4
          have i1 : (0 : Int) ≤ (k : Int) := by omega
          have i2 : (k : Int) < (l.length : Int) := by omega
          have i8 : IntKind.i64.wrap ((pat l k).1 + q.1) = (pat l k).1 + q.1 := IntWalk.i64_in _ (by omega)
          have i9 : IntKind.i64.wrap ((pat l k).2 + q.2) = (pat l k).2 + q.2 := IntWalk.i64_in _ (by omega)
          go_upto_region 7 with fail
          go_region_held3 (fun w' => w'.cell? ⟨b, o + k * 2, none⟩ = some (Value.int .i64 ((pat l k).1)) ∧ w'.cell? ⟨b, o + k * 2 + 1, none⟩ = some (Value.int .i64 ((pat l k).2)) ∧ w'.cell? ⟨w.heap.size, 0, none⟩ = some (Value.int .i64 (q.1)) ∧ w'.cell? ⟨w.heap.size, 1, none⟩ = some (Value.int .i64 (q.2)))
            (first
              | go_keep
              | (go_split_ands
                 refine ⟨?_, ?_, ?_, ?_⟩ <;> (first | (rw [hgrow.cell_far _ (by simp; omega) (Ne.symm hne)]; assumption) | (rw [hgrow.cell_far _ (by simp; omega) (Ne.symm hne2)]; assumption))))
            ((refine step_append_lies _ (by rfl) _ _ _ (by rfl) W.heap.size 33 i0 _ 2 16 undPts hi hz0 hz1 hz2 rfl (by omega) u5 k (ptsV (mvd q (l.take k))) (by rfl) ((hown.alloc _).drew) ⟨wr.heap.size, 0, none⟩ 1 1 (ptsV [((pat l k).1 + q.1, (pat l k).2 + q.2)]) (by rfl) (by rfl) (World.news_of_block (cs := (ptsV [((pat l k).1 + q.1, (pat l k).2 + q.2)]).toArray) (t := 33) (fr := (0, 0)) (heap_alloc_new wr _)) (ptsV_one _) (by omega) (by unfold maxLen; omega) (by omega) (by simp; omega) (wr.heap.size + 1) (by simp) ?_; intro gg cap w1 hown1 hgrow hat hltt))
          have hb1 : Below W.heap.size W w1 := (((Below.alloc HB.out HB.out.size _).drew).grown hgrow (by simp; omega) (fun g hg => (hown.lt g hg).1))
          rw [← ptsV_append] at hown1
          have hown2 : w1.ownsRow W.heap.size 33 2 (.slice (some ⟨gg, 0, none⟩) (k + 1) cap) (k + 1) (ptsV (mvd q (l.take (k + 1)))) := by
            rw [take_next hlt]
            simpa [mvd] using hown1
          clear x1 x2 x3 x4 hgrow hat lb hown hne hne2 hown1
          go_wp2
          go_roundg (l.length - (k + 1))
          case measure => omega
          case rel => exact ⟨k + 1, by omega, rfl, by go_num, hown2, hb1⟩
        · obtain rfl : k = l.length := by omega
          rw [List.take_length] at hown
          obtain ⟨-, A1, ca1, rfl, hP1⟩ := own_parts hown
          have hbA : Below w.heap.size w wr := hbW.trans (hbw.mono hbW2)
          have hpA := hpW.below hbw
          have c4 := c3.below hbw
          have hl6 : (mvd q l).length ≤ 1000000 := by simp only [mvd, List.length_map]; omega
          clear hown hbw hpW c3 hbW
          by_cases hok2 : Ok (mvd q l)
          · have hc := Lib.hid fun (V : World) (h : Below wr.heap.size wr V) => rCheck_any A1 ca1 (mvd q l) V (hP1.below h) hl6
            rw [chk_ok hok2] at hc
            obtain ⟨b1, o1, rfl, hp1⟩ := hP1.ok hok2
            have ht1 := Lib.hid fun (V : World) (h : Below wr.heap.size wr V) => told_ok b o ca l V (hpA.below h) hok
            have ht2 := Lib.hid fun (V : World) (h : Below wr.heap.size wr V) => told_ok b1 o1 ca1 (mvd q l) V (hp1.below h) hok2
            go_upto_region 11 with (first | (go_at_call 23; with_reducible refine Calls.mono (hc.out _ (by (repeat (first | with_reducible exact Below.refl _ _ | with_reducible apply bl_alloc | with_reducible apply bl_drew | with_reducible apply bl_after | (with_reducible refine bl_call ?_ (by assumption)))))) ?_; rintro e w1 ⟨rfl, hb1⟩; first | ((with_reducible apply kp_in_step (hb := hb1)); (with_reducible assumption); rintro ⟨hk, hc, hf, hzc, hzf⟩) | ((with_reducible refine kp_in_first hb1 ?_); rintro ⟨hk, hc, hf, hzc, hzf⟩)) | (go_at_call 30; with_reducible refine Calls.mono (ht1.out _ (by (repeat (first | with_reducible exact Below.refl _ _ | with_reducible apply bl_alloc | with_reducible apply bl_drew | with_reducible apply bl_after | (with_reducible refine bl_call ?_ (by assumption)))))) ?_; rintro e w1 ⟨rfl, hb1⟩; first | ((with_reducible apply kp_in_step (hb := hb1)); (with_reducible assumption); rintro ⟨hk, hc, hf, hzc, hzf⟩) | ((with_reducible refine kp_in_first hb1 ?_); rintro ⟨hk, hc, hf, hzc, hzf⟩)))
            have c7 : Blk (w1.alloc (.cells #[(Value.int .i64 (tw l)), (Value.int .i64 (mx l)), (Value.int .i64 (my l)), (Value.int .i64 (mxx l)), (Value.int .i64 (mxy l)), (Value.int .i64 (myy l)), (Value.int .i64 ((cenX l).1)), (Value.int .i64 ((cenX l).2)), (Value.int .i64 ((cenY l).1)), (Value.int .i64 ((cenY l).2))] 42)) w1.heap.size 42 #[(Value.int .i64 (tw l)), (Value.int .i64 (mx l)), (Value.int .i64 (my l)), (Value.int .i64 (mxx l)), (Value.int .i64 (mxy l)), (Value.int .i64 (myy l)), (Value.int .i64 ((cenX l).1)), (Value.int .i64 ((cenX l).2)), (Value.int .i64 ((cenY l).1)), (Value.int .i64 ((cenY l).2))] := Blk.new _ _ _
            have c3 : Blk (w1.alloc (.cells #[(Value.int .i64 (tw l)), (Value.int .i64 (mx l)), (Value.int .i64 (my l)), (Value.int .i64 (mxx l)), (Value.int .i64 (mxy l)), (Value.int .i64 (myy l)), (Value.int .i64 ((cenX l).1)), (Value.int .i64 ((cenX l).2)), (Value.int .i64 ((cenY l).1)), (Value.int .i64 ((cenY l).2))] 42)) w.heap.size 33 #[(Value.int .i64 (q.1)), (Value.int .i64 (q.2))] := ((c4.below (by assumption)).below (by assumption)).alloc _
            have hbr : Below wr.heap.size wr (w1.alloc (.cells #[(Value.int .i64 (tw l)), (Value.int .i64 (mx l)), (Value.int .i64 (my l)), (Value.int .i64 (mxx l)), (Value.int .i64 (mxy l)), (Value.int .i64 (myy l)), (Value.int .i64 ((cenX l).1)), (Value.int .i64 ((cenX l).2)), (Value.int .i64 ((cenY l).1)), (Value.int .i64 ((cenY l).2))] 42)) := by (repeat (first | with_reducible exact Below.refl _ _ | with_reducible apply bl_alloc | with_reducible apply bl_drew | with_reducible apply bl_after | (with_reducible refine bl_call ?_ (by assumption))))
            clear c4
            clear hk hc hf hzc hzf hb1
            clear hk hc hf hzc hzf hb1
            clear hc ht1
            generalize w1.alloc (.cells #[(Value.int .i64 (tw l)), (Value.int .i64 (mx l)), (Value.int .i64 (my l)), (Value.int .i64 (mxx l)), (Value.int .i64 (mxy l)), (Value.int .i64 (myy l)), (Value.int .i64 ((cenX l).1)), (Value.int .i64 ((cenX l).2)), (Value.int .i64 ((cenY l).1)), (Value.int .i64 ((cenY l).2))] 42) = W1 at c7 c3 hbr ⊢
            generalize w1.heap.size = g7 at c7 ⊢
            go_upto_region 12 with (go_at_call 30; with_reducible refine Calls.mono (ht2.out _ hbr) ?_; rintro e w1 ⟨rfl, hb1⟩; first | ((with_reducible apply kp_in_step (hb := hb1)); (with_reducible assumption); rintro ⟨hk, hc, hf, hzc, hzf⟩) | ((with_reducible refine kp_in_first hb1 ?_); rintro ⟨hk, hc, hf, hzc, hzf⟩))
            have h2 : 2 ≤ l.length := by omega
            have e1 := tw_mvd h2 q
            have e2 := mx_mvd h2 q
            have e3 := my_mvd h2 q
            have e4 := mxx_mvd h2 q
            have e5 := mxy_mvd h2 q
            have e6 := myy_mvd h2 q
            have c9 : Blk (w1.alloc (.cells #[(Value.int .i64 (tw (mvd q l))), (Value.int .i64 (mx (mvd q l))), (Value.int .i64 (my (mvd q l))), (Value.int .i64 (mxx (mvd q l))), (Value.int .i64 (mxy (mvd q l))), (Value.int .i64 (myy (mvd q l))), (Value.int .i64 ((cenX (mvd q l)).1)), (Value.int .i64 ((cenX (mvd q l)).2)), (Value.int .i64 ((cenY (mvd q l)).1)), (Value.int .i64 ((cenY (mvd q l)).2))] 42)) w1.heap.size 42 #[(Value.int .i64 (tw (mvd q l))), (Value.int .i64 (mx (mvd q l))), (Value.int .i64 (my (mvd q l))), (Value.int .i64 (mxx (mvd q l))), (Value.int .i64 (mxy (mvd q l))), (Value.int .i64 (myy (mvd q l))), (Value.int .i64 ((cenX (mvd q l)).1)), (Value.int .i64 ((cenX (mvd q l)).2)), (Value.int .i64 ((cenY (mvd q l)).1)), (Value.int .i64 ((cenY (mvd q l)).2))] := Blk.new _ _ _
            replace c7 := (c7.below hb1).alloc (.cells #[(Value.int .i64 (tw (mvd q l))), (Value.int .i64 (mx (mvd q l))), (Value.int .i64 (my (mvd q l))), (Value.int .i64 (mxx (mvd q l))), (Value.int .i64 (mxy (mvd q l))), (Value.int .i64 (myy (mvd q l))), (Value.int .i64 ((cenX (mvd q l)).1)), (Value.int .i64 ((cenX (mvd q l)).2)), (Value.int .i64 ((cenY (mvd q l)).1)), (Value.int .i64 ((cenY (mvd q l)).2))] 42)
            replace c3 := (c3.below hb1).alloc (.cells #[(Value.int .i64 (tw (mvd q l))), (Value.int .i64 (mx (mvd q l))), (Value.int .i64 (my (mvd q l))), (Value.int .i64 (mxx (mvd q l))), (Value.int .i64 (mxy (mvd q l))), (Value.int .i64 (myy (mvd q l))), (Value.int .i64 ((cenX (mvd q l)).1)), (Value.int .i64 ((cenX (mvd q l)).2)), (Value.int .i64 ((cenY (mvd q l)).1)), (Value.int .i64 ((cenY (mvd q l)).2))] 42)
            have hbE : Below w.heap.size w (w1.alloc (.cells #[(Value.int .i64 (tw (mvd q l))), (Value.int .i64 (mx (mvd q l))), (Value.int .i64 (my (mvd q l))), (Value.int .i64 (mxx (mvd q l))), (Value.int .i64 (mxy (mvd q l))), (Value.int .i64 (myy (mvd q l))), (Value.int .i64 ((cenX (mvd q l)).1)), (Value.int .i64 ((cenX (mvd q l)).2)), (Value.int .i64 ((cenY (mvd q l)).1)), (Value.int .i64 ((cenY (mvd q l)).2))] 42)) := bl_alloc (bl_call (hbA.trans (hbr.mono hbA.size)) hb1)
            clear hk hc hf hzc hzf hb1
            clear ht2 hbr
            generalize w1.alloc (.cells #[(Value.int .i64 (tw (mvd q l))), (Value.int .i64 (mx (mvd q l))), (Value.int .i64 (my (mvd q l))), (Value.int .i64 (mxx (mvd q l))), (Value.int .i64 (mxy (mvd q l))), (Value.int .i64 (myy (mvd q l))), (Value.int .i64 ((cenX (mvd q l)).1)), (Value.int .i64 ((cenX (mvd q l)).2)), (Value.int .i64 ((cenY (mvd q l)).1)), (Value.int .i64 ((cenY (mvd q l)).2))] 42) = W2 at c7 c3 c9 hbE ⊢
            generalize w1.heap.size = g9 at c9 ⊢
            rw [e1, e2, e3, e4, e5, e6] at c9
            clear e1 e2 e3 e4 e5 e6
            have t1 := tw_bd hok
            have t2 := mx_bd hok
            have t3 := my_bd hok
            have t4 := mxx_bd hok
            have t5 := mxy_bd hok
            have t6 := myy_bd hok
            have b1 := mul_bd (A := 600) (B := 800000000000) (x := 3 * q.1) (y := tw l) (by omega) (by omega) (by omega) (by omega)
            have b2 := mul_bd (A := 600) (B := 800000000000) (x := 3 * q.2) (y := tw l) (by omega) (by omega) (by omega) (by omega)
            have b3 := mul_bd (A := 800) (B := 800000000000) (x := 4 * q.1) (y := mx l) (by omega) (by omega) (by omega) (by omega)
            have b4 := mul_bd (A := 800) (B := 800000000000) (x := 4 * q.2) (y := my l) (by omega) (by omega) (by omega) (by omega)
            have b5 := mul_bd (A := 800) (B := 800000000000) (x := 4 * q.2) (y := mx l) (by omega) (by omega) (by omega) (by omega)
            have b6 := mul_bd (A := 800) (B := 800000000000) (x := 4 * q.1) (y := my l) (by omega) (by omega) (by omega) (by omega)
            have b7 := mul_bd (A := 1200) (B := 200) (x := 6 * q.1) (y := q.1) (by omega) (by omega) (by omega) (by omega)
            have b8 := mul_bd (A := 1200) (B := 200) (x := 6 * q.2) (y := q.2) (by omega) (by omega) (by omega) (by omega)
            have b9 := mul_bd (A := 2400) (B := 200) (x := 12 * q.1) (y := q.2) (by omega) (by omega) (by omega) (by omega)
            have b10 := mul_bd (A := 240000) (B := 800000000000) (x := 6 * q.1 * q.1) (y := tw l) (by omega) (by omega) (by omega) (by omega)
            have b11 := mul_bd (A := 240000) (B := 800000000000) (x := 6 * q.2 * q.2) (y := tw l) (by omega) (by omega) (by omega) (by omega)
            have b12 := mul_bd (A := 480000) (B := 800000000000) (x := 12 * q.1 * q.2) (y := tw l) (by omega) (by omega) (by omega) (by omega)
            have m1 := wrap64_in (x := 3 * q.1) (by omega) (by omega)
            have m2 := wrap64_in (x := 3 * q.2) (by omega) (by omega)
            have m3 := wrap64_in (x := 3 * q.1 * tw l) (by omega) (by omega)
            have m4 := wrap64_in (x := 3 * q.2 * tw l) (by omega) (by omega)
            have m5 := wrap64_in (x := mx l + 3 * q.1 * tw l) (by omega) (by omega)
            have m6 := wrap64_in (x := my l + 3 * q.2 * tw l) (by omega) (by omega)
            have m7 := wrap64_in (x := 4 * q.1) (by omega) (by omega)
            have m8 := wrap64_in (x := 4 * q.2) (by omega) (by omega)
            have m9 := wrap64_in (x := 4 * q.1 * mx l) (by omega) (by omega)
            have m10 := wrap64_in (x := 4 * q.2 * my l) (by omega) (by omega)
            have m11 := wrap64_in (x := 4 * q.2 * mx l) (by omega) (by omega)
            have m12 := wrap64_in (x := 4 * q.1 * my l) (by omega) (by omega)
            have m13 := wrap64_in (x := mxx l + 4 * q.1 * mx l) (by omega) (by omega)
            have m14 := wrap64_in (x := myy l + 4 * q.2 * my l) (by omega) (by omega)
            have m15 := wrap64_in (x := mxy l + 4 * q.2 * mx l) (by omega) (by omega)
            have m16 := wrap64_in (x := mxy l + 4 * q.2 * mx l + 4 * q.1 * my l) (by omega) (by omega)
            have m17 := wrap64_in (x := 6 * q.1) (by omega) (by omega)
            have m18 := wrap64_in (x := 6 * q.2) (by omega) (by omega)
            have m19 := wrap64_in (x := 6 * q.1 * q.1) (by omega) (by omega)
            have m20 := wrap64_in (x := 6 * q.2 * q.2) (by omega) (by omega)
            have m21 := wrap64_in (x := 6 * q.1 * q.1 * tw l) (by omega) (by omega)
            have m22 := wrap64_in (x := 6 * q.2 * q.2 * tw l) (by omega) (by omega)
            have m23 := wrap64_in (x := mxx l + 4 * q.1 * mx l + 6 * q.1 * q.1 * tw l) (by omega) (by omega)
            have m24 := wrap64_in (x := myy l + 4 * q.2 * my l + 6 * q.2 * q.2 * tw l) (by omega) (by omega)
            have m25 := wrap64_in (x := 12 * q.1) (by omega) (by omega)
            have m26 := wrap64_in (x := 12 * q.1 * q.2) (by omega) (by omega)
            have m27 := wrap64_in (x := 12 * q.1 * q.2 * tw l) (by omega) (by omega)
            have m28 := wrap64_in (x := mxy l + 4 * q.2 * mx l + 4 * q.1 * my l + 12 * q.1 * q.2 * tw l) (by omega) (by omega)
            clear t1 t2 t3 t4 t5 t6 b1 b2 b3 b4 b5 b6 b7 b8 b9 b10 b11 b12
            have l3 := c3.lt
            have l7 := c7.lt
            have l9 := c9.lt
            have x0 := c3.cell 0
            have x1 := c3.cell 1
            have y0 := c7.cell 0
            have y1 := c7.cell 1
            have y2 := c7.cell 2
            have y3 := c7.cell 3
            have y4 := c7.cell 4
            have y5 := c7.cell 5
            have z0 := c9.cell 0
            have z1 := c9.cell 1
            have z2 := c9.cell 2
            have z3 := c9.cell 3
            have z4 := c9.cell 4
            have z5 := c9.cell 5
            simp only [List.getElem?_toArray, List.getElem?_cons_zero, List.getElem?_cons_succ] at x0 x1 y0 y1 y2 y3 y4 y5 z0 z1 z2 z3 z4 z5
            refine wp_region_after (by kernel_rfl) (by kernel_rfl) ?_; (repeat (go_big_quiet_step ((fail)))); refine wpQuiet_nil ?_; rintro _ ⟨zz, rfl⟩; (first | ((with_reducible apply kp_in_after (z := zz)); (with_reducible assumption); rintro ⟨hk, hc, hf, hzc, hzf⟩) | ((with_reducible refine kp_in_after0 zz ?_); rintro ⟨hk, hc, hf, hzc, hzf⟩))
            go_wp2_with (go_at_call 15; with_reducible refine Calls.mono (works_any _) ?_; rintro e w1 ⟨rfl, hb1⟩; first | ((with_reducible apply kp_in_step (hb := hb1)); (with_reducible assumption); rintro ⟨hk, hc, hf, hzc, hzf⟩) | ((with_reducible refine kp_in_first hb1 ?_); rintro ⟨hk, hc, hf, hzc, hzf⟩))
            go_ret
            exact ⟨rfl, bl_call (bl_after zz hbE) hb1⟩
          · have hc := rCheck_any A1 ca1 (mvd q l) wr hP1 hl6
            rw [chk_no hok2] at hc
            go_wp2_with (first | (go_at_call 23; with_reducible refine Calls.mono (hc) ?_; rintro e w1 ⟨rfl, hb1⟩; first | ((with_reducible apply kp_in_step (hb := hb1)); (with_reducible assumption); rintro ⟨hk, hc, hf, hzc, hzf⟩) | ((with_reducible refine kp_in_first hb1 ?_); rintro ⟨hk, hc, hf, hzc, hzf⟩)) | (go_at_call 15; with_reducible refine Calls.mono (works_any _) ?_; rintro e w1 ⟨rfl, hb1⟩; first | ((with_reducible apply kp_in_step (hb := hb1)); (with_reducible assumption); rintro ⟨hk, hc, hf, hzc, hzf⟩) | ((with_reducible refine kp_in_first hb1 ?_); rintro ⟨hk, hc, hf, hzc, hzf⟩)))
            go_ret
            exact ⟨rfl, by (repeat (first | with_reducible assumption | with_reducible exact Below.refl _ _ | with_reducible apply bl_alloc | with_reducible apply bl_drew | with_reducible apply bl_after | (with_reducible refine bl_call ?_ (by assumption)) | (with_reducible refine bl_setc ?_ (by omega))))⟩
    · rw [Bool.not_eq_true] at hq
      go_enter Try.func7, Try.ntmps7
      go_wp2_with (first | (go_at_call 14; with_reducible refine Calls.mono (hr.out _ (by (repeat (first | with_reducible exact Below.refl _ _ | with_reducible apply bl_alloc | with_reducible apply bl_drew | with_reducible apply bl_after | (with_reducible refine bl_call ?_ (by assumption)))))) ?_; rintro e w1 ⟨rfl, hb1⟩; first | ((with_reducible apply kp_in_step (hb := hb1)); (with_reducible assumption); rintro ⟨hk, hc, hf, hzc, hzf⟩) | ((with_reducible refine kp_in_first hb1 ?_); rintro ⟨hk, hc, hf, hzc, hzf⟩)) | (go_at_call 31; with_reducible refine Calls.mono (rIsPoint_any _ _) ?_; rintro e w1 ⟨rfl, hb1⟩; first | ((with_reducible apply kp_in_step (hb := hb1)); (with_reducible assumption); rintro ⟨hk, hc, hf, hzc, hzf⟩) | ((with_reducible refine kp_in_first hb1 ?_); rintro ⟨hk, hc, hf, hzc, hzf⟩)) | (go_at_call 15; with_reducible refine Calls.mono (works_any _) ?_; rintro e w1 ⟨rfl, hb1⟩; first | ((with_reducible apply kp_in_step (hb := hb1)); (with_reducible assumption); rintro ⟨hk, hc, hf, hzc, hzf⟩) | ((with_reducible refine kp_in_first hb1 ?_); rintro ⟨hk, hc, hf, hzc, hzf⟩)))
      go_ret
      exact ⟨rfl, by (repeat (first | with_reducible exact Below.refl _ _ | with_reducible apply bl_alloc | with_reducible apply bl_drew | with_reducible apply bl_after | (with_reducible refine bl_call ?_ (by assumption))))⟩
  · rw [decide_eq_false hok] at hr
    go_enter Try.func7, Try.ntmps7
    go_wp2_with (first | (go_at_call 14; with_reducible refine Calls.mono (hr.out _ (by (repeat (first | with_reducible exact Below.refl _ _ | with_reducible apply bl_alloc | with_reducible apply bl_drew | with_reducible apply bl_after | (with_reducible refine bl_call ?_ (by assumption)))))) ?_; rintro e w1 ⟨rfl, hb1⟩; first | ((with_reducible apply kp_in_step (hb := hb1)); (with_reducible assumption); rintro ⟨hk, hc, hf, hzc, hzf⟩) | ((with_reducible refine kp_in_first hb1 ?_); rintro ⟨hk, hc, hf, hzc, hzf⟩)) | (go_at_call 15; with_reducible refine Calls.mono (works_any _) ?_; rintro e w1 ⟨rfl, hb1⟩; first | ((with_reducible apply kp_in_step (hb := hb1)); (with_reducible assumption); rintro ⟨hk, hc, hf, hzc, hzf⟩) | ((with_reducible refine kp_in_first hb1 ?_); rintro ⟨hk, hc, hf, hzc, hzf⟩)))
    go_ret
    exact ⟨rfl, by (repeat (first | with_reducible exact Below.refl _ _ | with_reducible apply bl_alloc | with_reducible apply bl_drew | with_reducible apply bl_after | (with_reducible refine bl_call ?_ (by assumption))))⟩
section
open Go.ChangeAt
set_option maxRecDepth 100000 in
theorem cornersMoved_lifted (os : Os) (started : os.Started) (H : Type) (enc : TypeId × Value → H) :
    ReturnsInHanded {} Try.checked os 7 .any (Rows.cornersMovedSpec.pre6 enc Try.prog Try.f7 Rows.cornersMovedRow.domain false) (Rows.cornersMovedSpec.post enc Try.prog Try.f7 false true false false) := by
  refine returnsInHanded_of_change (C := Try.checked) own_knob started (by kernel_rfl) Try.func7
    (ChangeSpec.witness6 (enc := enc) (C := Try.checked) false ⟨#[], #[.slice none 0 0, .agg #[.int .i64 0, .int .i64 0]], []⟩ 8 (by kernel_rfl) (by kernel_rfl) (by kernel_rfl) (by kernel_rfl)) ?_
  intro W base args ds gs before hval0 hW hcnd _
  have hval : ∀ (j : Nat) t v, Try.f7.params[j]? = some t → args[j]? = some v → Value.okWide Try.prog W .any base t v := hval0
  have hW2 := hW
  obtain ⟨p, q, hA0, hV, rfl, hfz, hnd⟩ := hW
  have hA : DataW.TrodAll enc Try.prog W 0 (fun _ => true) true Try.f7.params.toList args.toList ds p := hA0
  rw [Try.params7] at hA hval
  obtain ⟨v0, v1, d0, d1, p0, p1, rfl, rfl, rfl, h0, h1⟩ := trodAll_two hA
  obtain ⟨rfl, rfl⟩ := trodVars_none hV
  obtain ⟨A, ca, l, rfl, hP, hl⟩ := open_points (okWide_slice undPts (hval 0 _ _ rfl rfl)) h0
  obtain ⟨pt, rfl, hq1, hq2⟩ := open_point (hval 1 _ _ rfl rfl) h1
  clear hA0 hval0
  simp only [List.append_nil] at hW2
  refine (lawMoved_any A ca l pt W hP hl).mono fun e W2 ⟨he, hb⟩ => ?_
  subst he
  refine ⟨_, rfl, post_of_below (pa := _) (pv := []) hW2 (fun _ _ _ => trodAll_mk1 (shut_bool und_bool _)) (fun sp hs => args_stay hb (by rw [Try.params7]; intro t ht; simp at ht; (try rcases ht with rfl | rfl | rfl) <;> (try rcases ht with rfl | rfl) <;> (try subst ht) <;> exact ⟨by kernel_rfl, by decide +kernel⟩) (by rw [Try.params7]; exact hA) hs) (fun _ _ => rfl) (by simp) hb (ok_one (by kernel_rfl) rfl (okWide_bool_mk und_bool _))⟩

theorem cornersMoved_holds : Rows.CornersMovedSaid :=
  OpenClaim.holds_of_wide 7 Try.f7 rfl rfl rfl rfl rfl rfl rfl ⟨rfl, rfl, rfl, rfl, rfl⟩ rfl rfl rfl rfl rfl (by kernel_rfl) Try.func7 (by kernel_rfl)
    (of_decide_eq_true (by kernel_rfl)) (by unfold Func.isWrapper; first | (rw [if_pos (by decide +kernel)]; kernel_rfl) | (rw [if_neg (by decide +kernel)]; exact ⟨rfl, rfl⟩))
    (fun os started H enc _ => cornersMoved_lifted os started H enc)
end
end Go.Proofs.Ytijpolfmiajenaa
