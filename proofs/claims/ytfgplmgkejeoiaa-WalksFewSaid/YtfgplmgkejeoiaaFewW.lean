/- The law WalksFew answers true for a valid track and walk of at most five places and points. -/
import Derived.Test.YtfgplmgkejeoiaaFewIn
namespace Go.Proofs.Ytfgplmgkejeoiaa
open Go.RowKit
attribute [local go_sem] After.cell After.frozen

set_option maxRecDepth 100000 in
set_option maxHeartbeats 8000000 in
theorem few_in (b o ca bm om cm : Nat) (E : Option Addr) (ce : Nat) (T : Trk) (m : List Pt) (l : List Int) (w : World) (hp : PtsAt w b o T.pts) (hq : PtsAt w bm om m) (he : Ints w E l) (hle : l.length ≤ 40) (hr : rdyB T m = true) :
    Calls Try.prog 8 #[(Value.agg #[.slice (some ⟨b, o, none⟩) T.pts.length ca, (Value.int .i64 (T.closed)), (Value.int .i64 (T.lo)), (Value.int .i64 (T.hi))]), .slice (some ⟨bm, om, none⟩) m.length cm, .slice E l.length ce] w fun e w' => e = .returned (.bool true) ∧ Below w.heap.size w w' := by
  obtain ⟨hT, hm, hc0, h5T, h5m⟩ := rdy_parts hr
  have hm0 : 0 < m.length := by have := walkB_bd hm; omega
  have hT0 : 0 < T.pts.length := by have := trkB_bd hT; omega
  have e0 : Blk (w.alloc (.cells #[.slice (some ⟨b, o, none⟩) T.pts.length ca, (Value.int .i64 (T.closed)), (Value.int .i64 (T.lo)), (Value.int .i64 (T.hi))] 36)) w.heap.size 36 #[.slice (some ⟨b, o, none⟩) T.pts.length ca, (Value.int .i64 (T.closed)), (Value.int .i64 (T.lo)), (Value.int .i64 (T.hi))] := Blk.new _ _ _
  have hbX : Below w.heap.size w (w.alloc (.cells #[.slice (some ⟨b, o, none⟩) T.pts.length ca, (Value.int .i64 (T.closed)), (Value.int .i64 (T.lo)), (Value.int .i64 (T.hi))] 36)) := by (repeat (first | with_reducible exact Below.refl _ _ | with_reducible apply bl_alloc | with_reducible apply bl_drew | with_reducible apply bl_after | (with_reducible refine bl_call ?_ (by assumption))))
  have xp := hp.below hbX
  have xq := hq.below hbX
  have xe := he.below hbX
  have xa : Pts (w.alloc (.cells #[.slice (some ⟨b, o, none⟩) T.pts.length ca, (Value.int .i64 (T.closed)), (Value.int .i64 (T.lo)), (Value.int .i64 (T.hi))] 36)) (some ⟨b, o, none⟩) T.pts := .inr ⟨b, o, rfl, xp⟩
  have xb : Pts (w.alloc (.cells #[.slice (some ⟨b, o, none⟩) T.pts.length ca, (Value.int .i64 (T.closed)), (Value.int .i64 (T.lo)), (Value.int .i64 (T.hi))] 36)) (some ⟨bm, om, none⟩) m := .inr ⟨bm, om, rfl, xq⟩
  have hRdy := fun (W : World) (h : Below ((w.alloc (.cells #[.slice (some ⟨b, o, none⟩) T.pts.length ca, (Value.int .i64 (T.closed)), (Value.int .i64 (T.lo)), (Value.int .i64 (T.hi))] 36))).heap.size (w.alloc (.cells #[.slice (some ⟨b, o, none⟩) T.pts.length ca, (Value.int .i64 (T.closed)), (Value.int .i64 (T.lo)), (Value.int .i64 (T.hi))] 36)) W) => ready_any (some ⟨b, o, none⟩) (some ⟨bm, om, none⟩) ca cm T m W (xa.below h) (by omega) (xb.below h) (by omega)
  rw [hr] at hRdy
  have d1 : T.pts.length ≤ 1000000 := by omega
  have d2 : m.length ≤ 1000000 := by omega
  have hLe := fun (W : World) (h : Below ((w.alloc (.cells #[.slice (some ⟨b, o, none⟩) T.pts.length ca, (Value.int .i64 (T.closed)), (Value.int .i64 (T.lo)), (Value.int .i64 (T.hi))] 36))).heap.size (w.alloc (.cells #[.slice (some ⟨b, o, none⟩) T.pts.length ca, (Value.int .i64 (T.closed)), (Value.int .i64 (T.lo)), (Value.int .i64 (T.hi))] 36)) W) => Least_any (some ⟨b, o, none⟩) (some ⟨bm, om, none⟩) ca cm T m W (xa.below h) d1 (xb.below h) d2
  have hEl := fun (W : World) (h : Below ((w.alloc (.cells #[.slice (some ⟨b, o, none⟩) T.pts.length ca, (Value.int .i64 (T.closed)), (Value.int .i64 (T.lo)), (Value.int .i64 (T.hi))] 36))).heap.size (w.alloc (.cells #[.slice (some ⟨b, o, none⟩) T.pts.length ca, (Value.int .i64 (T.closed)), (Value.int .i64 (T.lo)), (Value.int .i64 (T.hi))] 36)) W) => Elbows_any (some ⟨b, o, none⟩) (some ⟨bm, om, none⟩) ca cm T m W (xa.below h) d1 (xb.below h) d2
  have hRo := fun (W : World) (h : Below ((w.alloc (.cells #[.slice (some ⟨b, o, none⟩) T.pts.length ca, (Value.int .i64 (T.closed)), (Value.int .i64 (T.lo)), (Value.int .i64 (T.hi))] 36))).heap.size (w.alloc (.cells #[.slice (some ⟨b, o, none⟩) T.pts.length ca, (Value.int .i64 (T.closed)), (Value.int .i64 (T.lo)), (Value.int .i64 (T.hi))] 36)) W) => Rolls_any (some ⟨b, o, none⟩) (some ⟨bm, om, none⟩) ca cm T m W (xa.below h) d1 (xb.below h) d2
  have hRc := fun (W : World) (h : Below ((w.alloc (.cells #[.slice (some ⟨b, o, none⟩) T.pts.length ca, (Value.int .i64 (T.closed)), (Value.int .i64 (T.lo)), (Value.int .i64 (T.hi))] 36))).heap.size (w.alloc (.cells #[.slice (some ⟨b, o, none⟩) T.pts.length ca, (Value.int .i64 (T.closed)), (Value.int .i64 (T.lo)), (Value.int .i64 (T.hi))] 36)) W) (i : Nat) (hi : i < m.length) => Reach_ok (some ⟨b, o, none⟩) ca T (pat m i) W (xa.below h) d1 hT ((walkB_bd hm).2 i hi)
  have hAO := fun (W : World) (h : Below ((w.alloc (.cells #[.slice (some ⟨b, o, none⟩) T.pts.length ca, (Value.int .i64 (T.closed)), (Value.int .i64 (T.lo)), (Value.int .i64 (T.hi))] 36))).heap.size (w.alloc (.cells #[.slice (some ⟨b, o, none⟩) T.pts.length ca, (Value.int .i64 (T.closed)), (Value.int .i64 (T.lo)), (Value.int .i64 (T.hi))] 36)) W) => AreElbows_any b o ca bm om cm E ce T m l W (xp.below h) (xq.below h) (xe.below h) (by omega) hT hm
  have hpl := fun i : Nat => plc_len T (pat m i) T.pts.length
  have hrl := rolV_len5 h5T h5m
  have hK := isKnown_any (opE T m)
  rw [show knownB (opE T m) = true by unfold knownB; rw [decide_eq_true_eq]; exact opE_known hc0] at hK
  replace hRdy := Lib.hid hRdy
  replace hLe := Lib.hid hLe
  replace hEl := Lib.hid hEl
  replace hRo := Lib.hid hRo
  replace hRc := Lib.hid hRc
  replace hAO := Lib.hid hAO
  replace hK := Lib.hid hK
  have HM0 := Lib.hid hm0
  have HC0 := Lib.hid hc0
  clear hp hq he hT hm hc0 hr
  go_enter Try.func8, Try.ntmps8
  go_wp2_with fail
  generalize w.alloc (.cells #[.slice (some ⟨b, o, none⟩) T.pts.length ca, (Value.int .i64 (T.closed)), (Value.int .i64 (T.lo)), (Value.int .i64 (T.hi))] 36) = X at *
  have hgX := e0.lt
  generalize w.heap.size = g2 at e0 hgX ⊢
  (have la := e0.lt); (have ya0 := e0.cell 0); (have ya1 := e0.cell 1); (have ya2 := e0.cell 2); (have ya3 := e0.cell 3); simp only [List.getElem?_toArray, List.getElem?_cons_zero, List.getElem?_cons_succ] at ya0 ya1 ya2 ya3
  have HTM := Lib.hid (chk_zero_inv HC0.out)
  have HOC := Lib.hid (opE_known HC0.out)
  have HZ := Lib.hid (stl_zero HC0.out hm0)
  have HN := Lib.hid (stl_none HC0.out hm0)
  have HLB := Lib.hid (lb_elbs HC0.out)
  have HNE := Lib.hid (opE_nil HC0.out)
  have hbl : (lbV T m).length ≤ 40 := by
    rcases HOC.out with h | h
    · have := (elbs_are hm0 (HLB.out h).1).2.1
      omega
    · rw [lbV, if_neg (by rw [h]; decide)]; simp
  have HSW := Lib.hid fun (x : List Nat) (hx : x ∈ elbs T m) => sw_elbs HC0.out hm0 hx
  have HSe := Lib.hid fun (A5 : Option Addr) (c5 : Nat) (W : World) (h : Below X.heap.size X W) (hI : Ints W A5 (ints (lbV T m))) => Sweep_any (some ⟨b, o, none⟩) (some ⟨bm, om, none⟩) A5 ca cm c5 T m (ints (lbV T m)) W (xa.below h) d1 (xb.below h) d2 hI (by rw [ints_len]; omega)
  have HIr := Lib.hid fun (A5 : Option Addr) (c5 : Nat) (n : Int) (W : World) (hI : Ints W A5 (rolV T m)) => In_any A5 c5 (rolV T m) n W hI (by omega)
  have HLv := Lib.hid (show opE T m ≠ 0 → lvV T m = 0 from fun h => by rw [lvV, if_neg h])
  generalize rolV T m = ro at *
  generalize lbV T m = lb at *
  generalize lvV T m = lv at *
  generalize opE T m = op at *
  go_wp2_with (first | ((go_at_call 42); (with_reducible refine Calls.mono (hRdy.out _ (by (repeat (first | with_reducible exact Below.refl _ _ | with_reducible apply bl_alloc | with_reducible apply bl_drew | with_reducible apply bl_after | (with_reducible refine bl_call ?_ (by assumption)))))) ?_); rintro e wn ⟨rfl, hbn⟩; first | ((with_reducible apply kp_in_step (hb := hbn)); (with_reducible assumption); rintro ⟨hk, hc, hf, hzc, hzf⟩) | ((with_reducible refine kp_in_first hbn ?_); rintro ⟨hk, hc, hf, hzc, hzf⟩)) | ((go_at_call 37); (with_reducible refine Calls.mono (hLe.out _ (by (repeat (first | with_reducible exact Below.refl _ _ | with_reducible apply bl_alloc | with_reducible apply bl_drew | with_reducible apply bl_after | (with_reducible refine bl_call ?_ (by assumption)))))) ?_); rintro e wn ⟨rfl, hbn⟩; first | ((with_reducible apply kp_in_step (hb := hbn)); (with_reducible assumption); rintro ⟨hk, hc, hf, hzc, hzf⟩) | ((with_reducible refine kp_in_first hbn ?_); rintro ⟨hk, hc, hf, hzc, hzf⟩)) | ((go_at_call 39); (with_reducible refine Calls.mono (hEl.out _ (by (repeat (first | with_reducible exact Below.refl _ _ | with_reducible apply bl_alloc | with_reducible apply bl_drew | with_reducible apply bl_after | (with_reducible refine bl_call ?_ (by assumption)))))) ?_); rintro e wt ⟨⟨A7, c7, rfl, hN7⟩, hbt⟩; first | ((with_reducible apply kp_in_step (hb := hbt)); (with_reducible assumption); rintro ⟨hk, hc, hf, hzc, hzf⟩) | ((with_reducible refine kp_in_first hbt ?_); rintro ⟨hk, hc, hf, hzc, hzf⟩)) | ((go_at_call 35); (with_reducible refine Calls.mono (hRo.out _ (by (repeat (first | with_reducible exact Below.refl _ _ | with_reducible apply bl_alloc | with_reducible apply bl_drew | with_reducible apply bl_after | (with_reducible refine bl_call ?_ (by assumption)))))) ?_); rintro e wr ⟨⟨A5, c5, rfl, hN5⟩, hbr⟩; first | ((with_reducible apply kp_in_step (hb := hbr)); (with_reducible assumption); rintro ⟨hk, hc, hf, hzc, hzf⟩) | ((with_reducible refine kp_in_first hbr ?_); rintro ⟨hk, hc, hf, hzc, hzf⟩)) | ((go_at_call 43); (with_reducible refine Calls.mono (hK.out _) ?_); rintro e wn ⟨rfl, hbn⟩; first | ((with_reducible apply kp_in_step (hb := hbn)); (with_reducible assumption); rintro ⟨hk, hc, hf, hzc, hzf⟩) | ((with_reducible refine kp_in_first hbn ?_); rintro ⟨hk, hc, hf, hzc, hzf⟩)))
  have hNs := Lib.hid (hN7.ints.below (show Below wt.heap.size wt wn by (repeat (first | with_reducible exact Below.refl _ _ | with_reducible apply bl_alloc | with_reducible apply bl_drew | with_reducible apply bl_after | (with_reducible refine bl_call ?_ (by assumption))))))
  have hMs := Lib.hid (hN5.ints.below (show Below wr.heap.size wr wn by (repeat (first | with_reducible exact Below.refl _ _ | with_reducible apply bl_alloc | with_reducible apply bl_drew | with_reducible apply bl_after | (with_reducible refine bl_call ?_ (by assumption))))))
  have hbs : Below X.heap.size X wn := by (repeat (first | with_reducible exact Below.refl _ _ | with_reducible apply bl_alloc | with_reducible apply bl_drew | with_reducible apply bl_after | (with_reducible refine bl_call ?_ (by assumption))))
  ((try clear hk hc hf hzc hzf); (try clear hk hc hf hzc hzf); (try clear hk hc hf hzc hzf); (try clear hk hc hf hzc hzf))
  clear hN7 hN5 hbn hbr hbt hRdy hLe hEl hRo hK
  clear hbn
  go_loopw [13, 14] (fun s i wr => ∃ (k : Nat) (sb : Bool), k ≤ T.pts.length ∧ i = (Value.int .i64 ((k : Int))) ∧ s = .bool sb ∧ Hid (sb = (List.range k).any (stillB T m)) ∧ Below wn.heap.size wn wr) (fun _ i _ => T.pts.length - (intOf i).toNat)
  case atStart => exact ⟨0, false, Nat.zero_le _, rfl, rfl, Lib.hid rfl, Below.refl _ _⟩
  case round =>
    obtain ⟨k, sb, kn, rfl, rfl, hsb, hbr0⟩ := hrel
    have hbr : Below X.heap.size X wr := hbs.trans (hbr0.mono hbs.size)
    first | ((with_reducible apply kp_in_step (hb := hbr)); (with_reducible assumption); rintro ⟨hk, hc, hf, hzc, hzf⟩) | ((with_reducible refine kp_in_first hbr ?_); rintro ⟨hk, hc, hf, hzc, hzf⟩)
    by_cases hlt : k < T.pts.length
    · go_wp2
      obtain ⟨wo, hwo⟩ : ∃ wo : World, wo = wr := ⟨_, rfl⟩
      rw [← hwo]
      rw [← hwo] at hbr hbr0
      clear hwo
      ((try clear hk hc hf hzc hzf); (try clear hk hc hf hzc hzf); (try clear hk hc hf hzc hzf); (try clear hk hc hf hzc hzf))
      go_loopw [15, 16] (fun a i wq => ∃ (j : Nat) (ab : Bool), j ≤ m.length ∧ i = (Value.int .i64 ((j : Int))) ∧ a = .bool ab ∧ Hid (ab = (List.range j).all fun i => reachB T k (pat m i)) ∧ Below wo.heap.size wo wq) (fun _ i _ => m.length - (intOf i).toNat)
      case atStart => exact ⟨0, true, Nat.zero_le _, rfl, rfl, Lib.hid rfl, Below.refl _ _⟩
      case round =>
        obtain ⟨j, ab, jn, rfl, rfl, hab, hbt0⟩ := hrel
        have hbt : Below X.heap.size X wr := hbr.trans (hbt0.mono hbr.size)
        first | ((with_reducible apply kp_in_step (hb := hbt)); (with_reducible assumption); rintro ⟨hk, hc, hf, hzc, hzf⟩) | ((with_reducible refine kp_in_first hbt ?_); rintro ⟨hk, hc, hf, hzc, hzf⟩)
        by_cases hjt : j < m.length
        · have hj1 : (0 : Int) ≤ (j : Int) := by omega
          have hj2 : (j : Int) < (m.length : Int) := by omega
          have lm := xq.lt
          have x1 := xq.xp hjt
          have x2 := xq.yp hjt
          have hRj := Lib.hid fun (W : World) (h : Below X.heap.size X W) => hRc.out W h j hjt
          have hpj : (plc T (pat m j)).length ≤ T.pts.length := hpl j
          have hIn := fun (A' : Option Addr) (c' : Nat) (W : World) (h : Ints W A' (plc T (pat m j))) => In_any A' c' (plc T (pat m j)) (k : Int) W h (by omega)
          rw [mem_plc hlt] at hIn
          have hnx := all_succ (fun i => reachB T k (pat m i)) j
          rw [← hab.out] at hnx
          replace hnx := Lib.hid hnx
          replace hIn := Lib.hid hIn
          clear hab
          generalize reachB T k (pat m j) = rb at hIn hnx
          generalize plc T (pat m j) = pl at *
          go_wp2
          refine wp_region_C (fun w' => ∃ z : After wr, w' = z.val) (by kernel_rfl) ?_
          change wpAnyC _ _ _ _ _ _ _ (World.drew wr)
          have hd0 : Below wr.heap.size wr wr.drew := bl_drew (Below.refl _ _)
          refine wpAnyC_take (i := 0) (v := ?v0u) rfl (by kernel_rfl) (by kernel_rfl) (by kernel_rfl) ?q0u rfl ?y0u ?r0u; (case q0u => exact fun _ _ _ h => h); (case y0u => ((rintro _ ⟨z, rfl⟩); (go_simp); (try with_reducible rfl))); simp only [Act.put, List.getElem_toArray, List.getElem_cons_succ, List.getElem_cons_zero, List.setIfInBounds_toArray, List.set_cons_succ, List.set_cons_zero]
          refine wpAnyC_take (i := 1) (v := ?v1u) rfl (by kernel_rfl) (by kernel_rfl) (by kernel_rfl) ?q1u rfl ?y1u ?r1u; (case q1u => exact fun _ _ _ h => h); (case y1u => ((rintro _ ⟨z, rfl⟩); (go_simp); (try with_reducible rfl))); simp only [Act.put, List.getElem_toArray, List.getElem_cons_succ, List.getElem_cons_zero, List.setIfInBounds_toArray, List.set_cons_succ, List.set_cons_zero]
          refine wpAnyC_take (i := 2) (v := ?v2u) rfl (by kernel_rfl) (by kernel_rfl) (by kernel_rfl) ?q2u rfl ?y2u ?r2u; (case q2u => exact fun _ _ _ h => h); (case y2u => ((rintro _ ⟨z, rfl⟩); (go_simp); (try with_reducible rfl))); simp only [Act.put, List.getElem_toArray, List.getElem_cons_succ, List.getElem_cons_zero, List.setIfInBounds_toArray, List.set_cons_succ, List.set_cons_zero]
          refine wpAnyC_take (i := 3) (v := ?v3u) rfl (by kernel_rfl) (by kernel_rfl) (by kernel_rfl) ?q3u rfl ?y3u ?r3u; (case q3u => exact fun _ _ _ h => h); (case y3u => ((rintro _ ⟨z, rfl⟩); (go_simp); (try with_reducible rfl))); simp only [Act.put, List.getElem_toArray, List.getElem_cons_succ, List.getElem_cons_zero, List.setIfInBounds_toArray, List.set_cons_succ, List.set_cons_zero]
          refine wpAnyC_take (i := 4) (v := ?v4u) rfl (by kernel_rfl) (by kernel_rfl) (by kernel_rfl) ?q4u rfl ?y4u ?r4u; (case q4u => exact fun _ _ _ h => h); (case y4u => ((rintro _ ⟨z, rfl⟩); (go_simp); (try with_reducible rfl))); simp only [Act.put, List.getElem_toArray, List.getElem_cons_succ, List.getElem_cons_zero, List.setIfInBounds_toArray, List.set_cons_succ, List.set_cons_zero]
          refine wpAnyC_one (i := 5) (by kernel_rfl) rfl ⟨⟨_, hd0⟩, rfl⟩ rfl (fun K hK => ?_)
          go_simp
          go_at_call 26
          (with_reducible refine Calls.mono (hRj.out _ (by (repeat (first | with_reducible assumption | with_reducible exact Below.refl _ _ | with_reducible apply bl_alloc | with_reducible apply bl_drew | with_reducible apply bl_after | (with_reducible refine bl_call ?_ (by assumption)) | (with_reducible refine bl_setc ?_ (by omega)))))) ?_)
          rintro e wu ⟨⟨A8, c8, rfl, hN8⟩, hbu⟩
          refine hK _ _ ?_
          clear hK K
          have hbd := hd0.trans (hbu.mono hd0.size)
          refine wpAnyC_take (i := 6) (v := ?v6u) rfl (by kernel_rfl) (by kernel_rfl) (by kernel_rfl) ?q6u rfl ?y6u ?r6u; (case q6u => exact fun _ _ _ h => h); (case y6u => ((rintro _ ⟨z, rfl⟩); (go_simp); (try with_reducible rfl))); simp only [Act.put, List.getElem_toArray, List.getElem_cons_succ, List.getElem_cons_zero, List.setIfInBounds_toArray, List.set_cons_succ, List.set_cons_zero]
          refine wpAnyC_take (i := 7) (v := ?v7u) rfl (by kernel_rfl) (by kernel_rfl) (by kernel_rfl) ?q7u rfl ?y7u ?r7u; (case q7u => exact fun _ _ _ h => h); (case y7u => ((rintro _ ⟨z, rfl⟩); (go_simp); (try with_reducible rfl))); simp only [Act.put, List.getElem_toArray, List.getElem_cons_succ, List.getElem_cons_zero, List.setIfInBounds_toArray, List.set_cons_succ, List.set_cons_zero]
          refine wpAnyC_take (i := 8) (v := ?v8u) rfl (by kernel_rfl) (by kernel_rfl) (by kernel_rfl) ?q8u rfl ?y8u ?r8u; (case q8u => exact fun _ _ _ h => h); (case y8u => ((rintro _ ⟨z, rfl⟩); (go_simp); (try with_reducible rfl))); simp only [Act.put, List.getElem_toArray, List.getElem_cons_succ, List.getElem_cons_zero, List.setIfInBounds_toArray, List.set_cons_succ, List.set_cons_zero]
          refine wpAnyC_take (i := 9) (v := ?v9u) rfl (by kernel_rfl) (by kernel_rfl) (by kernel_rfl) ?q9u rfl ?y9u ?r9u; (case q9u => exact fun _ _ _ h => h); (case y9u => ((rintro _ ⟨z, rfl⟩); (go_simp); (try with_reducible rfl))); simp only [Act.put, List.getElem_toArray, List.getElem_cons_succ, List.getElem_cons_zero, List.setIfInBounds_toArray, List.set_cons_succ, List.set_cons_zero]
          refine wpAnyC_take (i := 10) (v := ?v10u) rfl (by kernel_rfl) (by kernel_rfl) (by kernel_rfl) ?q10u rfl ?y10u ?r10u; (case q10u => exact fun _ _ _ h => h); (case y10u => ((rintro _ ⟨z, rfl⟩); (go_simp); (try with_reducible rfl))); simp only [Act.put, List.getElem_toArray, List.getElem_cons_succ, List.getElem_cons_zero, List.setIfInBounds_toArray, List.set_cons_succ, List.set_cons_zero]
          refine wpAnyC_done (by kernel_rfl) ⟨⟨_, hbd⟩, rfl⟩ ?_ _
          have hbu2 : Below X.heap.size X wu := hbt.trans (hbd.mono hbt.size)
          have hbu3 : Below wo.heap.size wo wu := hbt0.trans (hbd.mono hbt0.size)
          first | ((with_reducible apply kp_in_step (hb := hbu2)); (with_reducible assumption); rintro ⟨hk, hc, hf, hzc, hzf⟩) | ((with_reducible refine kp_in_first hbu2 ?_); rintro ⟨hk, hc, hf, hzc, hzf⟩)
          cases ab
          · go_wp2
            go_roundw
            case rel => exact ⟨j + 1, _, by omega, by go_num, rfl, Lib.hid (by rw [hnx.out]; rfl), hbu3⟩
            case measure => simp [intOf]; omega
          · go_wp2_with ((go_at_call 44); (with_reducible refine Calls.mono (hIn.out _ _ _ hN8) ?_); rintro e wv ⟨rfl, hbv⟩; first | ((with_reducible apply kp_in_step (hb := hbv)); (with_reducible assumption); rintro ⟨hk, hc, hf, hzc, hzf⟩) | ((with_reducible refine kp_in_first hbv ?_); rintro ⟨hk, hc, hf, hzc, hzf⟩))
            go_roundw
            case rel => exact ⟨j + 1, _, by omega, by go_num, rfl, Lib.hid (by rw [hnx.out]; rfl), hbu3.trans (hbv.mono hbu3.size)⟩
            case measure => simp [intOf]; omega
        · obtain rfl : j = m.length := by omega
          have hnx := any_succ (stillB T m) k
          rw [← hsb.out, show stillB T m k = ab from hab.out.symm] at hnx
          replace hnx := Lib.hid hnx
          clear hsb hab
          cases sb
          all_goals
            go_wp2
            go_roundw
            case rel => exact ⟨k + 1, _, by omega, by go_num, rfl, Lib.hid (by rw [hnx.out]; rfl), hbr0.trans (hbt0.mono hbr0.size)⟩
            case measure => simp [intOf]; omega
    · obtain rfl : k = T.pts.length := by omega
      rcases HOC.out with rfl | rfl
      · have hz : (lv == 0) = sb := by rw [hsb.out]; exact (HZ.out rfl).symm
        obtain ⟨b1, b2, b3⟩ := HLB.out rfl
        obtain ⟨c1, c2, c3⟩ := elbs_are hm0 b1
        obtain ⟨s1, s2, s3⟩ := HSW.out lb b1
        have s4 := s3 rfl
        have hAE := fun (A5 : Option Addr) (c5 : Nat) (W : World) (h : Below X.heap.size X W) (hI : Ints W A5 (ints lb)) => AreElbows_any b o ca bm om cm A5 c5 T m (ints lb) W (xp.below h) (xq.below h) hI (by rw [ints_len]; omega) HTM.out.1 HTM.out.2
        rw [c1, ints_len] at hAE
        have hMo := fun (A5 : Option Addr) (c5 : Nat) (W : World) (hI : Ints W A5 (ints lb)) => Moves_any A5 c5 lb W hI (by omega)
        rw [← c3, b2] at hMo
        have hSe := HSe.out
        rw [s1, s2, ints_len] at hSe
        have hIr := fun (A5 : Option Addr) (c5 : Nat) (W : World) (hI : Ints W A5 ro) => HIr.out A5 c5 (swp T m lb) W hI
        rw [decide_eq_true s4] at hIr
        replace hAE := Lib.hid hAE
        replace hMo := Lib.hid hMo
        replace hSe := Lib.hid hSe
        replace hIr := Lib.hid hIr
        have HB3 := Lib.hid b3
        clear hsb b1 b2 b3 c1 c2 c3 s1 s2 s3 s4 HLB HSe HIr HZ HN HLv HNE
        cases how : areB T m l with
        | false =>
          rw [how] at hAO
          clear how HSW HB3
          cases sb
          all_goals ((go_wp2_with (first | ((go_at_call 40); (with_reducible refine Calls.mono (hAO.out _ (by (repeat (first | with_reducible exact Below.refl _ _ | with_reducible apply bl_alloc | with_reducible apply bl_drew | with_reducible apply bl_after | (with_reducible refine bl_call ?_ (by assumption)))))) ?_); rintro e wn ⟨rfl, hbn⟩; first | ((with_reducible apply kp_in_step (hb := hbn)); (with_reducible assumption); rintro ⟨hk, hc, hf, hzc, hzf⟩) | ((with_reducible refine kp_in_first hbn ?_); rintro ⟨hk, hc, hf, hzc, hzf⟩)) | ((go_at_call 40); (with_reducible refine Calls.mono (hAE.out _ _ _ (by (repeat (first | with_reducible assumption | with_reducible exact Below.refl _ _ | with_reducible apply bl_alloc | with_reducible apply bl_drew | with_reducible apply bl_after | (with_reducible refine bl_call ?_ (by assumption)) | (with_reducible refine bl_setc ?_ (by omega))))) (hNs.out.below (by first | exact hbr0 | exact hbr0.trans (Below.mono (by (repeat (first | with_reducible exact Below.refl _ _ | with_reducible assumption | (with_reducible refine bl_call ?_ (by assumption))))) hbr0.size)))) ?_); rintro e w5 ⟨rfl, hb5⟩; first | ((with_reducible apply kp_in_step (hb := hb5)); (with_reducible assumption); rintro ⟨hk, hc, hf, hzc, hzf⟩) | ((with_reducible refine kp_in_first hb5 ?_); rintro ⟨hk, hc, hf, hzc, hzf⟩)) | ((go_at_call 41); (with_reducible refine Calls.mono (hMo.out _ _ _ (hNs.out.below (by first | exact hbr0 | exact hbr0.trans (Below.mono (by (repeat (first | with_reducible exact Below.refl _ _ | with_reducible assumption | (with_reducible refine bl_call ?_ (by assumption))))) hbr0.size)))) ?_); rintro e w6 ⟨rfl, hb6⟩; first | ((with_reducible apply kp_in_step (hb := hb6)); (with_reducible assumption); rintro ⟨hk, hc, hf, hzc, hzf⟩) | ((with_reducible refine kp_in_first hb6 ?_); rintro ⟨hk, hc, hf, hzc, hzf⟩)) | ((go_at_call 17); (with_reducible refine Calls.mono (hSe.out _ _ _ (by (repeat (first | with_reducible assumption | with_reducible exact Below.refl _ _ | with_reducible apply bl_alloc | with_reducible apply bl_drew | with_reducible apply bl_after | (with_reducible refine bl_call ?_ (by assumption)) | (with_reducible refine bl_setc ?_ (by omega))))) (hNs.out.below (by first | exact hbr0 | exact hbr0.trans (Below.mono (by (repeat (first | with_reducible exact Below.refl _ _ | with_reducible assumption | (with_reducible refine bl_call ?_ (by assumption))))) hbr0.size)))) ?_); rintro e w7 ⟨rfl, hb7⟩; first | ((with_reducible apply kp_in_step (hb := hb7)); (with_reducible assumption); rintro ⟨hk, hc, hf, hzc, hzf⟩) | ((with_reducible refine kp_in_first hb7 ?_); rintro ⟨hk, hc, hf, hzc, hzf⟩)) | ((go_at_call 44); (with_reducible refine Calls.mono (hIr.out _ _ _ (hMs.out.below (by first | exact hbr0 | exact hbr0.trans (Below.mono (by (repeat (first | with_reducible exact Below.refl _ _ | with_reducible assumption | (with_reducible refine bl_call ?_ (by assumption))))) hbr0.size)))) ?_); rintro e w8 ⟨rfl, hb8⟩; first | ((with_reducible apply kp_in_step (hb := hb8)); (with_reducible assumption); rintro ⟨hk, hc, hf, hzc, hzf⟩) | ((with_reducible refine kp_in_first hb8 ?_); rintro ⟨hk, hc, hf, hzc, hzf⟩)) | fail | ((go_at_call 14); (with_reducible refine Calls.mono (works_any _) ?_); rintro e wn ⟨rfl, hbn⟩; first | ((with_reducible apply kp_in_step (hb := hbn)); (with_reducible assumption); rintro ⟨hk, hc, hf, hzc, hzf⟩) | ((with_reducible refine kp_in_first hbn ?_); rintro ⟨hk, hc, hf, hzc, hzf⟩)))); go_ret; exact ⟨rfl, bl_call hbX (by (repeat (first | with_reducible assumption | with_reducible exact Below.refl _ _ | with_reducible apply bl_alloc | with_reducible apply bl_drew | with_reducible apply bl_after | (with_reducible refine bl_call ?_ (by assumption)) | (with_reducible refine bl_setc ?_ (by omega)))))⟩)
        | true =>
          rw [how] at hAO
          obtain ⟨x, rfl, hx⟩ := are_elbs hm0 how
          obtain ⟨c1, c2, c3⟩ := elbs_are hm0 hx
          have hle2 := HB3.out x hx
          rw [c3] at hle2
          have hd : decide (lv ≤ ((rmV x : Nat) : Int)) = true := decide_eq_true hle2
          have hMx := Lib.hid fun (W : World) (h : Below X.heap.size X W) => Moves_any E ce x W (xe.below h) (by omega)
          rw [ints_len] at hAO
          rw [ints_len]
          clear how HSW HB3 hx c1 c2 c3 hle2
          cases sb
          all_goals ((go_wp2_with (first | ((go_at_call 40); (with_reducible refine Calls.mono (hAO.out _ (by (repeat (first | with_reducible exact Below.refl _ _ | with_reducible apply bl_alloc | with_reducible apply bl_drew | with_reducible apply bl_after | (with_reducible refine bl_call ?_ (by assumption)))))) ?_); rintro e wn ⟨rfl, hbn⟩; first | ((with_reducible apply kp_in_step (hb := hbn)); (with_reducible assumption); rintro ⟨hk, hc, hf, hzc, hzf⟩) | ((with_reducible refine kp_in_first hbn ?_); rintro ⟨hk, hc, hf, hzc, hzf⟩)) | ((go_at_call 40); (with_reducible refine Calls.mono (hAE.out _ _ _ (by (repeat (first | with_reducible assumption | with_reducible exact Below.refl _ _ | with_reducible apply bl_alloc | with_reducible apply bl_drew | with_reducible apply bl_after | (with_reducible refine bl_call ?_ (by assumption)) | (with_reducible refine bl_setc ?_ (by omega))))) (hNs.out.below (by first | exact hbr0 | exact hbr0.trans (Below.mono (by (repeat (first | with_reducible exact Below.refl _ _ | with_reducible assumption | (with_reducible refine bl_call ?_ (by assumption))))) hbr0.size)))) ?_); rintro e w5 ⟨rfl, hb5⟩; first | ((with_reducible apply kp_in_step (hb := hb5)); (with_reducible assumption); rintro ⟨hk, hc, hf, hzc, hzf⟩) | ((with_reducible refine kp_in_first hb5 ?_); rintro ⟨hk, hc, hf, hzc, hzf⟩)) | ((go_at_call 41); (with_reducible refine Calls.mono (hMo.out _ _ _ (hNs.out.below (by first | exact hbr0 | exact hbr0.trans (Below.mono (by (repeat (first | with_reducible exact Below.refl _ _ | with_reducible assumption | (with_reducible refine bl_call ?_ (by assumption))))) hbr0.size)))) ?_); rintro e w6 ⟨rfl, hb6⟩; first | ((with_reducible apply kp_in_step (hb := hb6)); (with_reducible assumption); rintro ⟨hk, hc, hf, hzc, hzf⟩) | ((with_reducible refine kp_in_first hb6 ?_); rintro ⟨hk, hc, hf, hzc, hzf⟩)) | ((go_at_call 17); (with_reducible refine Calls.mono (hSe.out _ _ _ (by (repeat (first | with_reducible assumption | with_reducible exact Below.refl _ _ | with_reducible apply bl_alloc | with_reducible apply bl_drew | with_reducible apply bl_after | (with_reducible refine bl_call ?_ (by assumption)) | (with_reducible refine bl_setc ?_ (by omega))))) (hNs.out.below (by first | exact hbr0 | exact hbr0.trans (Below.mono (by (repeat (first | with_reducible exact Below.refl _ _ | with_reducible assumption | (with_reducible refine bl_call ?_ (by assumption))))) hbr0.size)))) ?_); rintro e w7 ⟨rfl, hb7⟩; first | ((with_reducible apply kp_in_step (hb := hb7)); (with_reducible assumption); rintro ⟨hk, hc, hf, hzc, hzf⟩) | ((with_reducible refine kp_in_first hb7 ?_); rintro ⟨hk, hc, hf, hzc, hzf⟩)) | ((go_at_call 44); (with_reducible refine Calls.mono (hIr.out _ _ _ (hMs.out.below (by first | exact hbr0 | exact hbr0.trans (Below.mono (by (repeat (first | with_reducible exact Below.refl _ _ | with_reducible assumption | (with_reducible refine bl_call ?_ (by assumption))))) hbr0.size)))) ?_); rintro e w8 ⟨rfl, hb8⟩; first | ((with_reducible apply kp_in_step (hb := hb8)); (with_reducible assumption); rintro ⟨hk, hc, hf, hzc, hzf⟩) | ((with_reducible refine kp_in_first hb8 ?_); rintro ⟨hk, hc, hf, hzc, hzf⟩)) | ((go_at_call 41); (with_reducible refine Calls.mono (hMx.out _ (by (repeat (first | with_reducible exact Below.refl _ _ | with_reducible apply bl_alloc | with_reducible apply bl_drew | with_reducible apply bl_after | (with_reducible refine bl_call ?_ (by assumption)))))) ?_); rintro e wn ⟨rfl, hbn⟩; first | ((with_reducible apply kp_in_step (hb := hbn)); (with_reducible assumption); rintro ⟨hk, hc, hf, hzc, hzf⟩) | ((with_reducible refine kp_in_first hbn ?_); rintro ⟨hk, hc, hf, hzc, hzf⟩)) | ((go_at_call 14); (with_reducible refine Calls.mono (works_any _) ?_); rintro e wn ⟨rfl, hbn⟩; first | ((with_reducible apply kp_in_step (hb := hbn)); (with_reducible assumption); rintro ⟨hk, hc, hf, hzc, hzf⟩) | ((with_reducible refine kp_in_first hbn ?_); rintro ⟨hk, hc, hf, hzc, hzf⟩)))); go_ret; exact ⟨rfl, bl_call hbX (by (repeat (first | with_reducible assumption | with_reducible exact Below.refl _ _ | with_reducible apply bl_alloc | with_reducible apply bl_drew | with_reducible apply bl_after | (with_reducible refine bl_call ?_ (by assumption)) | (with_reducible refine bl_setc ?_ (by omega)))))⟩)
      · obtain rfl : sb = false := by rw [hsb.out]; exact HN.out (by decide)
        obtain rfl : lv = 0 := HLv.out (by decide)
        have hun : areB T m l = false := by
          cases h : areB T m l with
          | false => rfl
          | true =>
            obtain ⟨x, rfl, hx⟩ := are_elbs hm0 h
            have := HNE.out.2 fun e => by rw [e] at hx; cases hx
            omega
        rw [hun] at hAO
        clear hun
        go_wp2_with (first | ((go_at_call 40); (with_reducible refine Calls.mono (hAO.out _ (by (repeat (first | with_reducible exact Below.refl _ _ | with_reducible apply bl_alloc | with_reducible apply bl_drew | with_reducible apply bl_after | (with_reducible refine bl_call ?_ (by assumption)))))) ?_); rintro e wn ⟨rfl, hbn⟩; first | ((with_reducible apply kp_in_step (hb := hbn)); (with_reducible assumption); rintro ⟨hk, hc, hf, hzc, hzf⟩) | ((with_reducible refine kp_in_first hbn ?_); rintro ⟨hk, hc, hf, hzc, hzf⟩)) | ((go_at_call 14); (with_reducible refine Calls.mono (works_any _) ?_); rintro e wn ⟨rfl, hbn⟩; first | ((with_reducible apply kp_in_step (hb := hbn)); (with_reducible assumption); rintro ⟨hk, hc, hf, hzc, hzf⟩) | ((with_reducible refine kp_in_first hbn ?_); rintro ⟨hk, hc, hf, hzc, hzf⟩)))
        go_ret
        exact ⟨rfl, bl_call hbX (by (repeat (first | with_reducible assumption | with_reducible exact Below.refl _ _ | with_reducible apply bl_alloc | with_reducible apply bl_drew | with_reducible apply bl_after | (with_reducible refine bl_call ?_ (by assumption)) | (with_reducible refine bl_setc ?_ (by omega)))))⟩
end Go.Proofs.Ytfgplmgkejeoiaa
