/- The law WalksElbows answers true for any track and walk, and leaves them as they were. -/
import Derived.Test.YtfgplmgkejeoiaaRRol
import Derived.Test.YtfgplmgkejeoiaaElf
import Derived.Test.YtfgplmgkejeoiaaFar
import Derived.Test.YtfgplmgkejeoiaaCop
import Derived.Test.YtfgplmgkejeoiaaApp5
import Derived.Test.YtfgplmgkejeoiaaSame
import Derived.Test.YtfgplmgkejeoiaaOpw
import Derived.Test.YtfgplmgkejeoiaaRows
namespace Go.Proofs.Ytfgplmgkejeoiaa
open Go.ChangeShapes Go.WideShapes Go.RowKit
attribute [local go_sem] After.cell After.frozen

theorem allR_lenN {T : Trk} {n : Nat} (hT : T.pts.length ≤ n) (m : List Pt) : ∀ (r : Nat) (first : List Nat), (allR T m r first).length ≤ n ^ r
  | 0, first => by rw [allR]; split <;> simp
  | r + 1, first => by
    rw [allR]
    refine Nat.le_trans (flat_len _ (n ^ r) _ fun q _ => ?_) ?_
    · split
      · exact allR_lenN hT m r _
      · simp
    · have h1 : (plcN T (pat m first.length)).length ≤ n := by
        have := List.length_filter_le (fun i => reachB T i (pat m first.length)) (List.range T.pts.length)
        simp only [List.length_range] at this
        unfold plcN
        omega
      rw [Nat.pow_succ, Nat.mul_comm (n ^ r)]
      exact Nat.mul_le_mul_right _ h1
theorem far_no {T : Trk} {m : List Pt} (h : farB T m = false) : T.pts.length ≤ 40 ∧ m.length ≤ 40 ∧ (chkT T m = 0 → T.pts.length ≤ 5 ∧ m.length ≤ 5) := by
  unfold farB at h
  rw [decide_eq_false_iff_not] at h
  omega
theorem rolV_len {T : Trk} {m : List Pt} (h : farB T m = false) : (rolV T m).length ≤ 3125 := by
  unfold rolV
  split
  · rename_i h0
    have hc : chkT T m = 0 := by
      unfold opE at h0
      split at h0
      · assumption
      · exact h0
    have h5 := (far_no h).2.2 hc
    have h1 := allR_lenN h5.1 m m.length []
    have h2 : (5 : Nat) ^ m.length ≤ 5 ^ 5 := Nat.pow_le_pow_right (by omega) h5.2
    have h3 : (5 : Nat) ^ 5 = 3125 := by decide
    have h4 := sws_len T m (elbs T m).length
    unfold rolS elbs at *
    omega
  · simp
theorem lbV_len {T : Trk} {m : List Pt} (h : m.length ≤ 40) : (lbV T m).length ≤ 40 := by
  unfold lbV
  split
  · rename_i h0
    by_cases hne : elbs T m = []
    · have : lsB T m = [] := by unfold lsB lsO best; rw [hne]; rfl
      rw [this]; simp
    · have := (mem_elbs (ls_min hne).1).1
      omega
  · simp
theorem lb_are {T : Trk} {m : List Pt} (hc : chkT T m = 0) (h0 : opE T m = 0) : areB T m (ints (lbV T m)) = true ∧ ((rmV (lbV T m) : Nat) : Int) = lvV T m := by
  have hm := walkB_bd (chk_zero_inv hc).2
  have h1 := ls_min ((opE_nil hc).1 h0)
  rw [lbV, lvV, if_pos h0, if_pos h0]
  obtain ⟨h2, h3, h4⟩ := (elbs_iff (by omega)).1 h1.1
  refine ⟨by rw [areB_of h2 h3]; exact h4, ?_⟩
  unfold lsV
  exact (mv_rm (by omega) h1.1).symm

set_option maxRecDepth 100000 in
set_option maxHeartbeats 4000000 in
theorem elbows_far (A B : Option Addr) (ca cb : Nat) (T : Trk) (m : List Pt) (w : World) (ha : Pts w A T.pts) (hla : T.pts.length ≤ 9223372036854775807) (hb : Pts w B m) (hlb : m.length ≤ 9223372036854775807) (hfar : farB T m = true) :
    Calls Try.prog 7 #[(Value.agg #[.slice A T.pts.length ca, (Value.int .i64 (T.closed)), (Value.int .i64 (T.lo)), (Value.int .i64 (T.hi))]), .slice B m.length cb] w fun e w' => e = .returned (.bool true) ∧ Below w.heap.size w w' := by
  have hF := fun (W : World) (h : Below w.heap.size w W) => Far_any A B ca cb T m W (ha.below h) hla (hb.below h) hlb
  rw [hfar] at hF
  replace hF := Lib.hid hF
  have e0 : Blk (w.alloc (.cells #[.slice A T.pts.length ca, (Value.int .i64 (T.closed)), (Value.int .i64 (T.lo)), (Value.int .i64 (T.hi))] 36)) w.heap.size 36 #[.slice A T.pts.length ca, (Value.int .i64 (T.closed)), (Value.int .i64 (T.lo)), (Value.int .i64 (T.hi))] := Blk.new _ _ _
  (have la := e0.lt); (have ya0 := e0.cell 0); (have ya1 := e0.cell 1); (have ya2 := e0.cell 2); (have ya3 := e0.cell 3); simp only [List.getElem?_toArray, List.getElem?_cons_zero, List.getElem?_cons_succ] at ya0 ya1 ya2 ya3
  clear ha hb hfar
  go_enter Try.func7, Try.ntmps7
  go_wp2_with (first | ((go_at_call 32); (with_reducible refine Calls.mono (hF.out _ (by (repeat (first | with_reducible exact Below.refl _ _ | with_reducible apply bl_alloc | with_reducible apply bl_drew | with_reducible apply bl_after | (with_reducible refine bl_call ?_ (by assumption)))))) ?_); rintro e wn ⟨rfl, hbn⟩; first | ((with_reducible apply kp_in_step (hb := hbn)); (with_reducible assumption); rintro ⟨hk, hc, hf, hzc, hzf⟩) | ((with_reducible refine kp_in_first hbn ?_); rintro ⟨hk, hc, hf, hzc, hzf⟩)) | ((go_at_call 14); (with_reducible refine Calls.mono (works_any _) ?_); rintro e wn ⟨rfl, hbn⟩; first | ((with_reducible apply kp_in_step (hb := hbn)); (with_reducible assumption); rintro ⟨hk, hc, hf, hzc, hzf⟩) | ((with_reducible refine kp_in_first hbn ?_); rintro ⟨hk, hc, hf, hzc, hzf⟩)))
  go_ret
  exact ⟨rfl, by (repeat (first | with_reducible exact Below.refl _ _ | with_reducible apply bl_alloc | with_reducible apply bl_drew | with_reducible apply bl_after | (with_reducible refine bl_call ?_ (by assumption))))⟩
set_option maxRecDepth 100000 in
set_option maxHeartbeats 4000000 in
theorem elbows_near (A B : Option Addr) (ca cb : Nat) (T : Trk) (m : List Pt) (w : World) (ha : Pts w A T.pts) (hb : Pts w B m) (hcb : B = none → cb = 0) (hfar : farB T m = false) :
    Calls Try.prog 7 #[(Value.agg #[.slice A T.pts.length ca, (Value.int .i64 (T.closed)), (Value.int .i64 (T.lo)), (Value.int .i64 (T.hi))]), .slice B m.length cb] w fun e w' => e = .returned (.bool true) ∧ Below w.heap.size w w' := by
  obtain ⟨g1, g2, g3⟩ := far_no hfar
  have hF := fun (W : World) (h : Below w.heap.size w W) => Far_any A B ca cb T m W (ha.below h) (by omega) (hb.below h) (by omega)
  rw [hfar] at hF
  replace hF := Lib.hid hF
  have e0 : Blk (w.alloc (.cells #[.slice A T.pts.length ca, (Value.int .i64 (T.closed)), (Value.int .i64 (T.lo)), (Value.int .i64 (T.hi))] 36)) w.heap.size 36 #[.slice A T.pts.length ca, (Value.int .i64 (T.closed)), (Value.int .i64 (T.lo)), (Value.int .i64 (T.hi))] := Blk.new _ _ _
  (have la := e0.lt); (have ya0 := e0.cell 0); (have ya1 := e0.cell 1); (have ya2 := e0.cell 2); (have ya3 := e0.cell 3); simp only [List.getElem?_toArray, List.getElem?_cons_zero, List.getElem?_cons_succ] at ya0 ya1 ya2 ya3
  have hrl := rolV_len hfar
  have hbl := lbV_len (T := T) g2
  have hla := lb_are (T := T) (m := m)
  have hC := Lib.hid fun (W : World) (h : Below w.heap.size w W) => Copy_any A ca T W (ha.below h) (by omega)
  have HC := Lib.hid g3
  clear g3 hfar
  have hop : opE T m = 0 ∨ (opE T m != 0) = true := by
    by_cases h : opE T m = 0
    · exact .inl h
    · exact .inr (by rw [bne_iff_ne]; exact h)
  have hoc := fun h : opE T m = 0 => show chkT T m = 0 by
      have h' := h
      unfold opE at h'
      split at h'
      · assumption
      · exact h'
  have hknl : ((knl T m).length : Int) = mnV T m := knl_many T m
  go_enter Try.func7, Try.ntmps7
  go_wp2_with (first | ((go_at_call 32); (with_reducible refine Calls.mono (hF.out _ (by (repeat (first | with_reducible exact Below.refl _ _ | with_reducible apply bl_alloc | with_reducible apply bl_drew | with_reducible apply bl_after | (with_reducible refine bl_call ?_ (by assumption)))))) ?_); rintro e wn ⟨rfl, hbn⟩; first | ((with_reducible apply kp_in_step (hb := hbn)); (with_reducible assumption); rintro ⟨hk, hc, hf, hzc, hzf⟩) | ((with_reducible refine kp_in_first hbn ?_); rintro ⟨hk, hc, hf, hzc, hzf⟩)) | ((go_at_call 16); (with_reducible refine Calls.mono (hC.out _ (by (repeat (first | with_reducible exact Below.refl _ _ | with_reducible apply bl_alloc | with_reducible apply bl_drew | with_reducible apply bl_after | (with_reducible refine bl_call ?_ (by assumption)))))) ?_); rintro e w1 ⟨⟨A1, ca1, rfl, hC1⟩, hb1⟩; (have hm1 := hb.below (show Below w.heap.size w w1 by (repeat (first | with_reducible exact Below.refl _ _ | with_reducible apply bl_alloc | with_reducible apply bl_drew | with_reducible apply bl_after | (with_reducible refine bl_call ?_ (by assumption)))))); first | ((with_reducible apply kp_in_step (hb := hb1)); (with_reducible assumption); rintro ⟨hk, hc, hf, hzc, hzf⟩) | ((with_reducible refine kp_in_first hb1 ?_); rintro ⟨hk, hc, hf, hzc, hzf⟩)) | (at_builtin; refine wpList_copy_pts rfl (.tmp 27) (.tmp 28) rfl B cb m rfl rfl hcb hm1 (by omega) ?_; intro A2 ca2 w2 hP2 hb2 hn2; (have hC2 := hC1.below hb2); first | ((with_reducible apply kp_in_step (hb := hb2)); (with_reducible assumption); rintro ⟨hk, hc, hf, hzc, hzf⟩) | ((with_reducible refine kp_in_first hb2 ?_); rintro ⟨hk, hc, hf, hzc, hzf⟩)) | ((go_at_call 33); fail))
  have hbw2 : Below w.heap.size w w2 := by (repeat (first | with_reducible exact Below.refl _ _ | with_reducible apply bl_alloc | with_reducible apply bl_drew | with_reducible apply bl_after | (with_reducible refine bl_call ?_ (by assumption))))
  have hb02 : Below (w.heap.size + 1) (w.alloc (.cells #[.slice A T.pts.length ca, (Value.int .i64 (T.closed)), (Value.int .i64 (T.lo)), (Value.int .i64 (T.hi))] 36)) w2 := hk.b.mono (by simp)
  have c2 : Blk (w2.alloc (.cells #[.slice A1 T.pts.length ca1, (Value.int .i64 (T.closed)), (Value.int .i64 (T.lo)), (Value.int .i64 (T.hi))] 36)) w.heap.size 36 #[.slice A T.pts.length ca, (Value.int .i64 (T.closed)), (Value.int .i64 (T.lo)), (Value.int .i64 (T.hi))] := (e0.old hb02 (by simp)).alloc _
  have c5 : Blk (w2.alloc (.cells #[.slice A1 T.pts.length ca1, (Value.int .i64 (T.closed)), (Value.int .i64 (T.lo)), (Value.int .i64 (T.hi))] 36)) w2.heap.size 36 #[.slice A1 T.pts.length ca1, (Value.int .i64 (T.closed)), (Value.int .i64 (T.lo)), (Value.int .i64 (T.hi))] := Blk.new _ _ _
  have hbX := bl_alloc (o := .cells #[.slice A1 T.pts.length ca1, (Value.int .i64 (T.closed)), (Value.int .i64 (T.lo)), (Value.int .i64 (T.hi))] 36) hbw2
  have xa := ha.below hbX
  have xb := hb.below hbX
  have xC := hC2.alloc (.cells #[.slice A1 T.pts.length ca1, (Value.int .i64 (T.closed)), (Value.int .i64 (T.lo)), (Value.int .i64 (T.hi))] 36)
  have xP := hP2.alloc (.cells #[.slice A1 T.pts.length ca1, (Value.int .i64 (T.closed)), (Value.int .i64 (T.lo)), (Value.int .i64 (T.hi))] 36)
  ((try clear hk hc hf hzc hzf); (try clear hk hc hf hzc hzf); (try clear hk hc hf hzc hzf); (try clear hk hc hf hzc hzf))
  clear hb1 hb2 hbn hC1 hC2 hP2 hm1 ha hb hbw2 hb02 e0 ya0 ya1 ya2 ya3 la hF hC
  generalize w2.alloc (.cells #[.slice A1 T.pts.length ca1, (Value.int .i64 (T.closed)), (Value.int .i64 (T.lo)), (Value.int .i64 (T.hi))] 36) = X at *
  generalize w2.heap.size = g5 at *
  generalize w.heap.size = g2' at c2
  (have la := c2.lt); (have ya0 := c2.cell 0); (have ya1 := c2.cell 1); (have ya2 := c2.cell 2); (have ya3 := c2.cell 3); simp only [List.getElem?_toArray, List.getElem?_cons_zero, List.getElem?_cons_succ] at ya0 ya1 ya2 ya3
  (have lb := c5.lt); (have yb0 := c5.cell 0); (have yb1 := c5.cell 1); (have yb2 := c5.cell 2); (have yb3 := c5.cell 3); simp only [List.getElem?_toArray, List.getElem?_cons_zero, List.getElem?_cons_succ] at yb0 yb1 yb2 yb3
  have d1 : T.pts.length ≤ 1000000 := by omega
  have d2 : m.length ≤ 1000000 := by omega
  have hMa := fun (W : World) (h : Below X.heap.size X W) => Many_any A1 A2 ca1 ca2 T m W (xC.below h) d1 (xP.below h) d2
  have hMr := fun (W : World) (h : Below X.heap.size X W) => r5Many_any A B ca cb T m W (xa.below h) d1 (xb.below h) d2
  rw [hknl] at hMr
  have hRo := fun (W : World) (h : Below X.heap.size X W) => Rolls_any A1 A2 ca1 ca2 T m W (xC.below h) d1 (xP.below h) d2
  have hRr := fun (W : World) (h : Below X.heap.size X W) => r5Rolls_any A B ca cb T m W (xa.below h) d1 (xb.below h) d2
  have hLe := fun (W : World) (h : Below X.heap.size X W) => Least_any A1 A2 ca1 ca2 T m W (xC.below h) d1 (xP.below h) d2
  have hLr := fun (W : World) (h : Below X.heap.size X W) => r5Least_any A B ca cb T m W (xa.below h) d1 (xb.below h) d2
  have hEl := fun (W : World) (h : Below X.heap.size X W) => Elbows_any A1 A2 ca1 ca2 T m W (xC.below h) d1 (xP.below h) d2
  have hS1 := fun (W : World) (h : Below X.heap.size X W) => samePoints_any A1 A ca1 ca T.pts T.pts W (xC.below h) (xa.below h) d1 d1
  have hS2 := fun (W : World) (h : Below X.heap.size X W) => samePoints_any A2 B ca2 cb m m W (xP.below h) (xb.below h) d2 d2
  rw [decide_eq_true rfl] at hS1 hS2
  have hSI := fun (A5 A6 : Option Addr) (c5 c6 : Nat) (W : World) (h1 : Ints W A5 (rolV T m)) (h2 : Ints W A6 (rolV T m)) => SameInts_any A5 A6 c5 c6 (rolV T m) (rolV T m) W h1 h2 (by omega) (by omega)
  rw [decide_eq_true rfl] at hSI
  have hMo := fun (A5 : Option Addr) (c5 : Nat) (W : World) (h1 : Ints W A5 (ints (lbV T m))) => Moves_any A5 c5 (lbV T m) W h1 (by omega)
  replace hMa := Lib.hid hMa
  replace hMr := Lib.hid hMr
  replace hRo := Lib.hid hRo
  replace hRr := Lib.hid hRr
  replace hLe := Lib.hid hLe
  replace hLr := Lib.hid hLr
  replace hEl := Lib.hid hEl
  replace hS1 := Lib.hid hS1
  replace hS2 := Lib.hid hS2
  replace hSI := Lib.hid hSI
  rcases hop with hop | hop
  · have hcz := hoc hop
    obtain ⟨hT, hm⟩ := chk_zero_inv hcz
    obtain ⟨h1, h2⟩ := hla hcz hop
    obtain ⟨b, o, rfl, hp⟩ := xa.at_ (k := 0) (by have := (trkB_bd hT).1; omega)
    obtain ⟨bm, om, rfl, hq⟩ := xb.at_ (k := 0) (by have := walkB_bd hm; omega)
    have hAE := fun (A5 : Option Addr) (c5 : Nat) (W : World) (h : Below X.heap.size X W) (hI : Ints W A5 (ints (lbV T m))) => AreElbows_any b o ca bm om cb A5 c5 T m (ints (lbV T m)) W (hp.below h) (hq.below h) hI (by rw [ints_len]; omega) hT hm
    rw [h1, ints_len] at hAE
    rw [h2] at hMo
    replace hMo := Lib.hid hMo
    replace hAE := Lib.hid hAE
    rw [hop] at hMa hMr hRo hRr hLe hLr hEl
    clear hop hoc hla h1 h2 hcz hknl HC hT hm hp hq xa xb xC xP hcb hn2
    generalize rolV T m = ro at *
    generalize lbV T m = lb at *
    go_wp2_with (first | ((go_at_call 33); (with_reducible refine Calls.mono (hMa.out _ (by (repeat (first | with_reducible exact Below.refl _ _ | with_reducible apply bl_alloc | with_reducible apply bl_drew | with_reducible apply bl_after | (with_reducible refine bl_call ?_ (by assumption)))))) ?_); rintro e wn ⟨rfl, hbn⟩; first | ((with_reducible apply kp_in_step (hb := hbn)); (with_reducible assumption); rintro ⟨hk, hc, hf, hzc, hzf⟩) | ((with_reducible refine kp_in_first hbn ?_); rintro ⟨hk, hc, hf, hzc, hzf⟩)) | ((go_at_call 34); (with_reducible refine Calls.mono (hMr.out _ (by (repeat (first | with_reducible exact Below.refl _ _ | with_reducible apply bl_alloc | with_reducible apply bl_drew | with_reducible apply bl_after | (with_reducible refine bl_call ?_ (by assumption)))))) ?_); rintro e wn ⟨rfl, hbn⟩; first | ((with_reducible apply kp_in_step (hb := hbn)); (with_reducible assumption); rintro ⟨hk, hc, hf, hzc, hzf⟩) | ((with_reducible refine kp_in_first hbn ?_); rintro ⟨hk, hc, hf, hzc, hzf⟩)) | ((go_at_call 35); (with_reducible refine Calls.mono (hRo.out _ (by (repeat (first | with_reducible exact Below.refl _ _ | with_reducible apply bl_alloc | with_reducible apply bl_drew | with_reducible apply bl_after | (with_reducible refine bl_call ?_ (by assumption)))))) ?_); rintro e wr ⟨⟨A5, c5, rfl, hN5⟩, hbr⟩; first | ((with_reducible apply kp_in_step (hb := hbr)); (with_reducible assumption); rintro ⟨hk, hc, hf, hzc, hzf⟩) | ((with_reducible refine kp_in_first hbr ?_); rintro ⟨hk, hc, hf, hzc, hzf⟩)) | ((go_at_call 36); (with_reducible refine Calls.mono (hRr.out _ (by (repeat (first | with_reducible exact Below.refl _ _ | with_reducible apply bl_alloc | with_reducible apply bl_drew | with_reducible apply bl_after | (with_reducible refine bl_call ?_ (by assumption)))))) ?_); rintro e ws ⟨⟨A6, c6, rfl, hN6⟩, hbs⟩; first | ((with_reducible apply kp_in_step (hb := hbs)); (with_reducible assumption); rintro ⟨hk, hc, hf, hzc, hzf⟩) | ((with_reducible refine kp_in_first hbs ?_); rintro ⟨hk, hc, hf, hzc, hzf⟩)) | ((go_at_call 37); (with_reducible refine Calls.mono (hLe.out _ (by (repeat (first | with_reducible exact Below.refl _ _ | with_reducible apply bl_alloc | with_reducible apply bl_drew | with_reducible apply bl_after | (with_reducible refine bl_call ?_ (by assumption)))))) ?_); rintro e wn ⟨rfl, hbn⟩; first | ((with_reducible apply kp_in_step (hb := hbn)); (with_reducible assumption); rintro ⟨hk, hc, hf, hzc, hzf⟩) | ((with_reducible refine kp_in_first hbn ?_); rintro ⟨hk, hc, hf, hzc, hzf⟩)) | ((go_at_call 38); (with_reducible refine Calls.mono (hLr.out _ (by (repeat (first | with_reducible exact Below.refl _ _ | with_reducible apply bl_alloc | with_reducible apply bl_drew | with_reducible apply bl_after | (with_reducible refine bl_call ?_ (by assumption)))))) ?_); rintro e wn ⟨rfl, hbn⟩; first | ((with_reducible apply kp_in_step (hb := hbn)); (with_reducible assumption); rintro ⟨hk, hc, hf, hzc, hzf⟩) | ((with_reducible refine kp_in_first hbn ?_); rintro ⟨hk, hc, hf, hzc, hzf⟩)) | ((go_at_call 39); (with_reducible refine Calls.mono (hEl.out _ (by (repeat (first | with_reducible exact Below.refl _ _ | with_reducible apply bl_alloc | with_reducible apply bl_drew | with_reducible apply bl_after | (with_reducible refine bl_call ?_ (by assumption)))))) ?_); rintro e wt ⟨⟨A7, c7, rfl, hN7⟩, hbt⟩; first | ((with_reducible apply kp_in_step (hb := hbt)); (with_reducible assumption); rintro ⟨hk, hc, hf, hzc, hzf⟩) | ((with_reducible refine kp_in_first hbt ?_); rintro ⟨hk, hc, hf, hzc, hzf⟩)) | ((go_at_call 22); (with_reducible refine Calls.mono (hSI.out _ _ _ _ _ (hN5.ints.below (by (repeat (first | with_reducible exact Below.refl _ _ | with_reducible apply bl_alloc | with_reducible apply bl_drew | with_reducible apply bl_after | (with_reducible refine bl_call ?_ (by assumption)))))) (hN6.below (by (repeat (first | with_reducible exact Below.refl _ _ | with_reducible apply bl_alloc | with_reducible apply bl_drew | with_reducible apply bl_after | (with_reducible refine bl_call ?_ (by assumption))))))) ?_); rintro e wn ⟨rfl, hbn⟩; first | ((with_reducible apply kp_in_step (hb := hbn)); (with_reducible assumption); rintro ⟨hk, hc, hf, hzc, hzf⟩) | ((with_reducible refine kp_in_first hbn ?_); rintro ⟨hk, hc, hf, hzc, hzf⟩)) | ((go_at_call 21); (with_reducible refine Calls.mono (hS1.out _ (by (repeat (first | with_reducible exact Below.refl _ _ | with_reducible apply bl_alloc | with_reducible apply bl_drew | with_reducible apply bl_after | (with_reducible refine bl_call ?_ (by assumption)))))) ?_); rintro e wn ⟨rfl, hbn⟩; first | ((with_reducible apply kp_in_step (hb := hbn)); (with_reducible assumption); rintro ⟨hk, hc, hf, hzc, hzf⟩) | ((with_reducible refine kp_in_first hbn ?_); rintro ⟨hk, hc, hf, hzc, hzf⟩)) | ((go_at_call 21); (with_reducible refine Calls.mono (hS2.out _ (by (repeat (first | with_reducible exact Below.refl _ _ | with_reducible apply bl_alloc | with_reducible apply bl_drew | with_reducible apply bl_after | (with_reducible refine bl_call ?_ (by assumption)))))) ?_); rintro e wn ⟨rfl, hbn⟩; first | ((with_reducible apply kp_in_step (hb := hbn)); (with_reducible assumption); rintro ⟨hk, hc, hf, hzc, hzf⟩) | ((with_reducible refine kp_in_first hbn ?_); rintro ⟨hk, hc, hf, hzc, hzf⟩)) | ((go_at_call 40); (with_reducible refine Calls.mono (hAE.out _ _ _ (by (repeat (first | with_reducible exact Below.refl _ _ | with_reducible apply bl_alloc | with_reducible apply bl_drew | with_reducible apply bl_after | (with_reducible refine bl_call ?_ (by assumption))))) (hN7.ints.below (by (repeat (first | with_reducible exact Below.refl _ _ | with_reducible apply bl_alloc | with_reducible apply bl_drew | with_reducible apply bl_after | (with_reducible refine bl_call ?_ (by assumption))))))) ?_); rintro e wn ⟨rfl, hbn⟩; first | ((with_reducible apply kp_in_step (hb := hbn)); (with_reducible assumption); rintro ⟨hk, hc, hf, hzc, hzf⟩) | ((with_reducible refine kp_in_first hbn ?_); rintro ⟨hk, hc, hf, hzc, hzf⟩)) | ((go_at_call 41); (with_reducible refine Calls.mono (hMo.out _ _ _ (hN7.ints.below (by (repeat (first | with_reducible exact Below.refl _ _ | with_reducible apply bl_alloc | with_reducible apply bl_drew | with_reducible apply bl_after | (with_reducible refine bl_call ?_ (by assumption))))))) ?_); rintro e wn ⟨rfl, hbn⟩; first | ((with_reducible apply kp_in_step (hb := hbn)); (with_reducible assumption); rintro ⟨hk, hc, hf, hzc, hzf⟩) | ((with_reducible refine kp_in_first hbn ?_); rintro ⟨hk, hc, hf, hzc, hzf⟩)) | ((go_at_call 14); (with_reducible refine Calls.mono (works_any _) ?_); rintro e wn ⟨rfl, hbn⟩; first | ((with_reducible apply kp_in_step (hb := hbn)); (with_reducible assumption); rintro ⟨hk, hc, hf, hzc, hzf⟩) | ((with_reducible refine kp_in_first hbn ?_); rintro ⟨hk, hc, hf, hzc, hzf⟩)))
    go_ret
    exact ⟨rfl, bl_call hbX (by (repeat (first | with_reducible exact Below.refl _ _ | with_reducible apply bl_alloc | with_reducible apply bl_drew | with_reducible apply bl_after | (with_reducible refine bl_call ?_ (by assumption)))))⟩
  · have hlb : lbV T m = [] := by
      rw [bne_iff_ne] at hop
      rw [lbV, if_neg hop]
    rw [hlb] at hEl
    clear hoc hla hMo hknl HC hlb hbl xa xb xC xP hcb hn2
    generalize rolV T m = ro at *
    generalize opE T m = op at *
    go_wp2_with (first | ((go_at_call 33); (with_reducible refine Calls.mono (hMa.out _ (by (repeat (first | with_reducible exact Below.refl _ _ | with_reducible apply bl_alloc | with_reducible apply bl_drew | with_reducible apply bl_after | (with_reducible refine bl_call ?_ (by assumption)))))) ?_); rintro e wn ⟨rfl, hbn⟩; first | ((with_reducible apply kp_in_step (hb := hbn)); (with_reducible assumption); rintro ⟨hk, hc, hf, hzc, hzf⟩) | ((with_reducible refine kp_in_first hbn ?_); rintro ⟨hk, hc, hf, hzc, hzf⟩)) | ((go_at_call 34); (with_reducible refine Calls.mono (hMr.out _ (by (repeat (first | with_reducible exact Below.refl _ _ | with_reducible apply bl_alloc | with_reducible apply bl_drew | with_reducible apply bl_after | (with_reducible refine bl_call ?_ (by assumption)))))) ?_); rintro e wn ⟨rfl, hbn⟩; first | ((with_reducible apply kp_in_step (hb := hbn)); (with_reducible assumption); rintro ⟨hk, hc, hf, hzc, hzf⟩) | ((with_reducible refine kp_in_first hbn ?_); rintro ⟨hk, hc, hf, hzc, hzf⟩)) | ((go_at_call 35); (with_reducible refine Calls.mono (hRo.out _ (by (repeat (first | with_reducible exact Below.refl _ _ | with_reducible apply bl_alloc | with_reducible apply bl_drew | with_reducible apply bl_after | (with_reducible refine bl_call ?_ (by assumption)))))) ?_); rintro e wr ⟨⟨A5, c5, rfl, hN5⟩, hbr⟩; first | ((with_reducible apply kp_in_step (hb := hbr)); (with_reducible assumption); rintro ⟨hk, hc, hf, hzc, hzf⟩) | ((with_reducible refine kp_in_first hbr ?_); rintro ⟨hk, hc, hf, hzc, hzf⟩)) | ((go_at_call 36); (with_reducible refine Calls.mono (hRr.out _ (by (repeat (first | with_reducible exact Below.refl _ _ | with_reducible apply bl_alloc | with_reducible apply bl_drew | with_reducible apply bl_after | (with_reducible refine bl_call ?_ (by assumption)))))) ?_); rintro e ws ⟨⟨A6, c6, rfl, hN6⟩, hbs⟩; first | ((with_reducible apply kp_in_step (hb := hbs)); (with_reducible assumption); rintro ⟨hk, hc, hf, hzc, hzf⟩) | ((with_reducible refine kp_in_first hbs ?_); rintro ⟨hk, hc, hf, hzc, hzf⟩)) | ((go_at_call 37); (with_reducible refine Calls.mono (hLe.out _ (by (repeat (first | with_reducible exact Below.refl _ _ | with_reducible apply bl_alloc | with_reducible apply bl_drew | with_reducible apply bl_after | (with_reducible refine bl_call ?_ (by assumption)))))) ?_); rintro e wn ⟨rfl, hbn⟩; first | ((with_reducible apply kp_in_step (hb := hbn)); (with_reducible assumption); rintro ⟨hk, hc, hf, hzc, hzf⟩) | ((with_reducible refine kp_in_first hbn ?_); rintro ⟨hk, hc, hf, hzc, hzf⟩)) | ((go_at_call 38); (with_reducible refine Calls.mono (hLr.out _ (by (repeat (first | with_reducible exact Below.refl _ _ | with_reducible apply bl_alloc | with_reducible apply bl_drew | with_reducible apply bl_after | (with_reducible refine bl_call ?_ (by assumption)))))) ?_); rintro e wn ⟨rfl, hbn⟩; first | ((with_reducible apply kp_in_step (hb := hbn)); (with_reducible assumption); rintro ⟨hk, hc, hf, hzc, hzf⟩) | ((with_reducible refine kp_in_first hbn ?_); rintro ⟨hk, hc, hf, hzc, hzf⟩)) | ((go_at_call 39); (with_reducible refine Calls.mono (hEl.out _ (by (repeat (first | with_reducible exact Below.refl _ _ | with_reducible apply bl_alloc | with_reducible apply bl_drew | with_reducible apply bl_after | (with_reducible refine bl_call ?_ (by assumption)))))) ?_); rintro e wt ⟨⟨A7, c7, rfl, hN7⟩, hbt⟩; first | ((with_reducible apply kp_in_step (hb := hbt)); (with_reducible assumption); rintro ⟨hk, hc, hf, hzc, hzf⟩) | ((with_reducible refine kp_in_first hbt ?_); rintro ⟨hk, hc, hf, hzc, hzf⟩)) | ((go_at_call 22); (with_reducible refine Calls.mono (hSI.out _ _ _ _ _ (hN5.ints.below (by (repeat (first | with_reducible exact Below.refl _ _ | with_reducible apply bl_alloc | with_reducible apply bl_drew | with_reducible apply bl_after | (with_reducible refine bl_call ?_ (by assumption)))))) (hN6.below (by (repeat (first | with_reducible exact Below.refl _ _ | with_reducible apply bl_alloc | with_reducible apply bl_drew | with_reducible apply bl_after | (with_reducible refine bl_call ?_ (by assumption))))))) ?_); rintro e wn ⟨rfl, hbn⟩; first | ((with_reducible apply kp_in_step (hb := hbn)); (with_reducible assumption); rintro ⟨hk, hc, hf, hzc, hzf⟩) | ((with_reducible refine kp_in_first hbn ?_); rintro ⟨hk, hc, hf, hzc, hzf⟩)) | ((go_at_call 21); (with_reducible refine Calls.mono (hS1.out _ (by (repeat (first | with_reducible exact Below.refl _ _ | with_reducible apply bl_alloc | with_reducible apply bl_drew | with_reducible apply bl_after | (with_reducible refine bl_call ?_ (by assumption)))))) ?_); rintro e wn ⟨rfl, hbn⟩; first | ((with_reducible apply kp_in_step (hb := hbn)); (with_reducible assumption); rintro ⟨hk, hc, hf, hzc, hzf⟩) | ((with_reducible refine kp_in_first hbn ?_); rintro ⟨hk, hc, hf, hzc, hzf⟩)) | ((go_at_call 21); (with_reducible refine Calls.mono (hS2.out _ (by (repeat (first | with_reducible exact Below.refl _ _ | with_reducible apply bl_alloc | with_reducible apply bl_drew | with_reducible apply bl_after | (with_reducible refine bl_call ?_ (by assumption)))))) ?_); rintro e wn ⟨rfl, hbn⟩; first | ((with_reducible apply kp_in_step (hb := hbn)); (with_reducible assumption); rintro ⟨hk, hc, hf, hzc, hzf⟩) | ((with_reducible refine kp_in_first hbn ?_); rintro ⟨hk, hc, hf, hzc, hzf⟩)) | ((go_at_call 14); (with_reducible refine Calls.mono (works_any _) ?_); rintro e wn ⟨rfl, hbn⟩; first | ((with_reducible apply kp_in_step (hb := hbn)); (with_reducible assumption); rintro ⟨hk, hc, hf, hzc, hzf⟩) | ((with_reducible refine kp_in_first hbn ?_); rintro ⟨hk, hc, hf, hzc, hzf⟩)))
    go_ret
    exact ⟨rfl, bl_call hbX (by (repeat (first | with_reducible exact Below.refl _ _ | with_reducible apply bl_alloc | with_reducible apply bl_drew | with_reducible apply bl_after | (with_reducible refine bl_call ?_ (by assumption)))))⟩
theorem lawElbows_any (A B : Option Addr) (ca cb : Nat) (T : Trk) (m : List Pt) (w : World) (ha : Pts w A T.pts) (hla : T.pts.length ≤ 9223372036854775807) (hb : Pts w B m) (hlb : m.length ≤ 9223372036854775807) (hcb : B = none → cb = 0) :
    Calls Try.prog 7 #[(Value.agg #[.slice A T.pts.length ca, (Value.int .i64 (T.closed)), (Value.int .i64 (T.lo)), (Value.int .i64 (T.hi))]), .slice B m.length cb] w fun e w' => e = .returned (.bool true) ∧ Below w.heap.size w w' := by
  cases h : farB T m with
  | true => exact elbows_far A B ca cb T m w ha hla hb hlb h
  | false => exact elbows_near A B ca cb T m w ha hb hcb h
section
open Go.ChangeAt
set_option maxRecDepth 100000 in
theorem walksElbows_lifted (os : Os) (started : os.Started) (H : Type) (enc : TypeId × Value → H) :
    ReturnsInHanded {} Try.checked os 7 .any (Rows.walksElbowsSpec.pre6 enc Try.prog Try.f7 Rows.walksElbowsRow.domain false) (Rows.walksElbowsSpec.post enc Try.prog Try.f7 false true false false) := by
  refine returnsInHanded_of_change (C := Try.checked) own_knob started (by kernel_rfl) Try.func7
    (ChangeSpec.witness6 (enc := enc) (C := Try.checked) false ⟨#[], #[.agg #[.slice none 0 0, .int .i64 0, .int .i64 0, .int .i64 0], .slice none 0 0], []⟩ 8 (by kernel_rfl) (by kernel_rfl) (by kernel_rfl) (by kernel_rfl)) ?_
  intro W base args ds gs before hval0 hW hcnd _
  have hval : ∀ (j : Nat) t v, Try.f7.params[j]? = some t → args[j]? = some v → Value.okWide Try.prog W .any base t v := hval0
  have hW2 := hW
  obtain ⟨p, q, hA0, hV, rfl, hfz, hnd⟩ := hW
  have hA : DataW.TrodAll enc Try.prog W 0 (fun _ => true) true Try.f7.params.toList args.toList ds p := hA0
  rw [Try.params7] at hA hval
  obtain ⟨v0, v1, d0, d1, p0, p1, rfl, rfl, rfl, h0, h1⟩ := trodAll_two hA; obtain ⟨A, ca, T, rfl, hP0, hl0, hT1, hT2, hT3⟩ := open_track (hval 0 _ _ rfl rfl) h0; obtain ⟨B, cb, m, rfl, hP1, hl1⟩ := open_points (okWide_slice undPts (hval 1 _ _ rfl rfl)) h1; have hc1 := slice_cap0 undPts h1
  obtain ⟨rfl, rfl⟩ := trodVars_none hV
  clear hA0 hval0
  simp only [List.append_nil, List.nil_append] at hW2
  (try simp only [List.append_nil, List.nil_append] at hA)
  refine (lawElbows_any A B ca cb T m W hP0 hl0 hP1 hl1 hc1).mono fun e W2 ⟨he, hb⟩ => ?_
  subst he
  refine ⟨_, rfl, post_of_below (pa := _) (pv := []) hW2 (fun _ _ _ => trodAll_mk1 (shut_bool und_bool _)) (fun sp hs => args_stay hb (by rw [Try.params7]; intro t ht; simp at ht; (try rcases ht with rfl | rfl | rfl) <;> (try rcases ht with rfl | rfl) <;> (try subst ht) <;> exact ⟨by kernel_rfl, by decide +kernel⟩) (by rw [Try.params7]; exact hA) hs) (fun _ _ => rfl) (by simp) hb (ok_one (by kernel_rfl) rfl (okWide_bool_mk und_bool _))⟩

theorem walksElbows_holds : Rows.WalksElbowsSaid :=
  OpenClaim.holds_of_wide 7 Try.f7 rfl rfl rfl rfl rfl rfl rfl ⟨rfl, rfl, rfl, rfl, rfl⟩ rfl rfl rfl rfl rfl (by kernel_rfl) Try.func7 (by kernel_rfl)
    (of_decide_eq_true (by kernel_rfl)) (by unfold Func.isWrapper; first | (rw [if_pos (by decide +kernel)]; kernel_rfl) | (rw [if_neg (by decide +kernel)]; exact ⟨rfl, rfl⟩))
    (fun os started H enc _ => walksElbows_lifted os started H enc)
end
end Go.Proofs.Ytfgplmgkejeoiaa
