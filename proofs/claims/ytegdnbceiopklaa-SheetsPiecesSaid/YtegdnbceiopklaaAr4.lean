/- The functions Area and Length of sheets answer the bounds of an area and of the square of a length. -/
import Derived.Test.YtegdnbceiopklaaTwp
import Derived.Test.YtegdnbceiopklaaBn4
import Derived.Test.YtegdnbceiopklaaSt4
namespace Go.Proofs.Ytegdnbceiopklaa
open Go.RowKit Go.Shelf
attribute [local go_sem] After.cell After.frozen

/-- The doubled area of a polygon without its sign. -/
def abT (l : List Pt) : Int := max (tw l) (-tw l)
def msE (S : Sht) (l : List Pt) : Int := if shtB S = true then chk l else 40
def msV (S : Sht) (l : List Pt) : Int := if msE S l = 0 then abT l else 0
theorem chk_zero {l : List Pt} (h : chk l = 0) : Ok l := by
  by_cases hok : Ok l
  · exact hok
  · rw [chk_no hok] at h; omega
theorem tw_bd {l : List Pt} (h : Ok l) : -800000000000 ≤ tw l ∧ tw l ≤ 800000000000 := sumOf_bd h.1.2 h.2.1 one_bd
theorem abT_bd {l : List Pt} (h : Ok l) : 0 ≤ abT l ∧ abT l ≤ 800000000000 := by have := tw_bd h; unfold abT; omega
set_option maxHeartbeats 1000000 in
theorem measured_any (A B : Option Addr) (ca cb : Nat) (S : Sht) (l : List Pt) (w : World) (ha : Cts w A S.cs) (hb : Pts w B l) (hlb : l.length ≤ 1000000) :
    Calls Try.prog 50 #[(Value.agg #[(Value.int .i64 (S.xlo)), (Value.int .i64 (S.xhi)), (Value.int .i64 (S.ylo)), (Value.int .i64 (S.yhi)), .slice A S.cs.length ca, (Value.int .i64 (S.wrong))]), .slice B l.length cb] w fun e w' => e = .returned (.tuple #[(Value.int .i64 (msV S l)), (Value.int .i64 (msE S l))]) ∧ Below w.heap.size w w' := by
  have hC := fun (W : World) (h : Below w.heap.size w W) => sCheck_any A ca S W (ha.below h)
  have hT := fun (W : World) (h : Below w.heap.size w W) => Twice_pts B cb l W (hb.below h) hlb
  have c1 : Blk (w.alloc (.cells #[(Value.int .i64 (S.xlo)), (Value.int .i64 (S.xhi)), (Value.int .i64 (S.ylo)), (Value.int .i64 (S.yhi)), .slice A S.cs.length ca, (Value.int .i64 (S.wrong))] 26)) w.heap.size 26 #[(Value.int .i64 (S.xlo)), (Value.int .i64 (S.xhi)), (Value.int .i64 (S.ylo)), (Value.int .i64 (S.yhi)), .slice A S.cs.length ca, (Value.int .i64 (S.wrong))] := Blk.new _ _ _
  (have la := c1.lt); (have ya0 := c1.cell 0); (have ya1 := c1.cell 1); (have ya2 := c1.cell 2); (have ya3 := c1.cell 3); (have ya4 := c1.cell 4); (have ya5 := c1.cell 5); simp only [List.getElem?_toArray, List.getElem?_cons_zero, List.getElem?_cons_succ] at ya0 ya1 ya2 ya3 ya4 ya5
  clear ha hb
  by_cases h0 : shtB S = true
  · have hE : msE S l = chk l := if_pos h0
    rw [chkS, if_pos h0] at hC
    by_cases hok : Ok l
    · have hV : msV S l = abT l := if_pos (by rw [hE, chk_ok hok])
      rw [hV, hE, chk_ok hok]
      rw [okN, if_pos hok, chk_ok hok] at hT
      have hb1 := tw_bd hok
      have z := wrap64_in (x := -tw l) (by omega) (by omega)
      replace hC := Lib.hid hC
      replace hT := Lib.hid hT
      clear hE hV hok h0 hb1
      go_enter Try.func50, Try.ntmps50
      go_wp2_with (first | ((go_at_call 28); (with_reducible refine Calls.mono (hC.out _ (by (repeat (first | with_reducible exact Below.refl _ _ | with_reducible apply bl_alloc | with_reducible apply bl_drew | with_reducible apply bl_after | (with_reducible refine bl_call ?_ (by assumption)))))) ?_); rintro e wn ⟨rfl, hbn⟩; first | ((with_reducible apply kp_in_step (hb := hbn)); (with_reducible assumption); rintro ⟨hk, hc, hf, hzc, hzf⟩) | ((with_reducible refine kp_in_first hbn ?_); rintro ⟨hk, hc, hf, hzc, hzf⟩)) | ((go_at_call 38); (with_reducible refine Calls.mono (hT.out _ (by (repeat (first | with_reducible exact Below.refl _ _ | with_reducible apply bl_alloc | with_reducible apply bl_drew | with_reducible apply bl_after | (with_reducible refine bl_call ?_ (by assumption)))))) ?_); rintro e wn ⟨rfl, hbn⟩; first | ((with_reducible apply kp_in_step (hb := hbn)); (with_reducible assumption); rintro ⟨hk, hc, hf, hzc, hzf⟩) | ((with_reducible refine kp_in_first hbn ?_); rintro ⟨hk, hc, hf, hzc, hzf⟩)))
      go_ret2
      exact ⟨rfl, by (repeat (first | with_reducible exact Below.refl _ _ | with_reducible apply bl_alloc | with_reducible apply bl_drew | with_reducible apply bl_after | (with_reducible refine bl_call ?_ (by assumption))))⟩
    · have hV : msV S l = 0 := if_neg (by rw [hE, chk_no hok]; decide)
      rw [hV, hE, chk_no hok]
      rw [okN, if_neg hok, chk_no hok] at hT
      replace hC := Lib.hid hC
      replace hT := Lib.hid hT
      clear hE hV hok h0
      go_enter Try.func50, Try.ntmps50
      go_wp2_with (first | ((go_at_call 28); (with_reducible refine Calls.mono (hC.out _ (by (repeat (first | with_reducible exact Below.refl _ _ | with_reducible apply bl_alloc | with_reducible apply bl_drew | with_reducible apply bl_after | (with_reducible refine bl_call ?_ (by assumption)))))) ?_); rintro e wn ⟨rfl, hbn⟩; first | ((with_reducible apply kp_in_step (hb := hbn)); (with_reducible assumption); rintro ⟨hk, hc, hf, hzc, hzf⟩) | ((with_reducible refine kp_in_first hbn ?_); rintro ⟨hk, hc, hf, hzc, hzf⟩)) | ((go_at_call 38); (with_reducible refine Calls.mono (hT.out _ (by (repeat (first | with_reducible exact Below.refl _ _ | with_reducible apply bl_alloc | with_reducible apply bl_drew | with_reducible apply bl_after | (with_reducible refine bl_call ?_ (by assumption)))))) ?_); rintro e wn ⟨rfl, hbn⟩; first | ((with_reducible apply kp_in_step (hb := hbn)); (with_reducible assumption); rintro ⟨hk, hc, hf, hzc, hzf⟩) | ((with_reducible refine kp_in_first hbn ?_); rintro ⟨hk, hc, hf, hzc, hzf⟩)))
      go_ret2
      exact ⟨rfl, by (repeat (first | with_reducible exact Below.refl _ _ | with_reducible apply bl_alloc | with_reducible apply bl_drew | with_reducible apply bl_after | (with_reducible refine bl_call ?_ (by assumption))))⟩
  · have hE : msE S l = 40 := if_neg h0
    have hV : msV S l = 0 := if_neg (by rw [hE]; decide)
    rw [hV, hE]
    rw [chkS, if_neg h0] at hC
    replace hC := Lib.hid hC
    clear hE hV h0 hT
    go_enter Try.func50, Try.ntmps50
    go_wp2_with (first | ((go_at_call 28); (with_reducible refine Calls.mono (hC.out _ (by (repeat (first | with_reducible exact Below.refl _ _ | with_reducible apply bl_alloc | with_reducible apply bl_drew | with_reducible apply bl_after | (with_reducible refine bl_call ?_ (by assumption)))))) ?_); rintro e wn ⟨rfl, hbn⟩; first | ((with_reducible apply kp_in_step (hb := hbn)); (with_reducible assumption); rintro ⟨hk, hc, hf, hzc, hzf⟩) | ((with_reducible refine kp_in_first hbn ?_); rintro ⟨hk, hc, hf, hzc, hzf⟩)))
    go_ret2
    exact ⟨rfl, by (repeat (first | with_reducible exact Below.refl _ _ | with_reducible apply bl_alloc | with_reducible apply bl_drew | with_reducible apply bl_after | (with_reducible refine bl_call ?_ (by assumption))))⟩
def arQ (l : List Pt) (f : Pt) : Int × Int := (abT l * 1000000, f.1 * f.2)
theorem ff_bd {f : Pt} (h : FacOk f) : 810000 ≤ f.1 * f.2 ∧ f.1 * f.2 ≤ 1210000 := by
  obtain ⟨⟨h1, h2⟩, h3, h4⟩ := h
  exact ⟨by have := Int.mul_le_mul h1 h3 (by omega) (by omega); omega, by have := Int.mul_le_mul h2 h4 (by omega) (by omega); omega⟩
theorem arQ_ok {l : List Pt} {f : Pt} (hl : Ok l) (hf : FacOk f) : FrOk (arQ l f) := by
  have h1 := abT_bd hl
  have h2 := ff_bd hf
  exact ⟨⟨by simp only [arQ]; omega, by simp only [arQ]; omega⟩, by simp only [arQ]; omega, by simp only [arQ]; omega⟩
set_option maxHeartbeats 1000000 in
theorem area1_any (l : List Pt) (f : Pt) (hl : Ok l) (hf : FacOk f) (g : Nat) (w : World) (hB : Blk w g 3 #[(Value.int .i64 (abT l))]) :
    Calls Try.prog 62 #[(Value.agg #[.int .i64 f.1, .int .i64 f.2]), .pointer (some ⟨g, 0, none⟩)] w fun e w' => e = .returned (.tuple #[(Value.int .i64 ((arQ l f).1)), (Value.int .i64 ((arQ l f).2))]) ∧ Below w.heap.size w w' := by
  have h1 := abT_bd hl
  have h2 := ff_bd hf
  have z1 := wrap64_in (x := abT l * 1000000) (by omega) (by omega)
  have z2 := wrap64_in (x := f.1 * f.2) (by omega) (by omega)
  have e1 : (arQ l f).1 = abT l * 1000000 := rfl
  have e2 : (arQ l f).2 = f.1 * f.2 := rfl
  rw [e1, e2]
  (have la := hB.lt); (have ya0 := hB.cell 0); simp only [List.getElem?_toArray, List.getElem?_cons_zero] at ya0
  clear hB hl hf h1 h2 e1 e2
  go_enter Try.func62, Try.ntmps62
  go_wp2
  refine wp_region_after (by kernel_rfl) (by kernel_rfl) ?_; (repeat (go_big_quiet_step ((fail)))); refine wpQuiet_nil ?_; rintro _ ⟨z, rfl⟩; (first | ((with_reducible apply kp_in_after (z := z)); (with_reducible assumption); rintro ⟨hk, hc, hf, hzc, hzf⟩) | ((with_reducible refine kp_in_after0 z ?_); rintro ⟨hk, hc, hf, hzc, hzf⟩))
  go_wp2
  go_ret2
  exact ⟨by simp [z1, z2], by (repeat (first | with_reducible exact Below.refl _ _ | with_reducible apply bl_alloc | with_reducible apply bl_drew | with_reducible apply bl_after | (with_reducible refine bl_call ?_ (by assumption))))⟩
def arE (S : Sht) (l : List Pt) (is : Bool) : Int := if msE S l = 0 then opS S is else msE S l
def arLo (S : Sht) (l : List Pt) : Int := if arE S l true = 0 then bLo (arQ l) (trs S) else 0
def arHi (S : Sht) (l : List Pt) : Int := if arE S l true = 0 then bHi (arQ l) (trs S) else 0
set_option maxRecDepth 100000 in
set_option maxHeartbeats 4000000 in
theorem Area_any (A B : Option Addr) (ca cb : Nat) (S : Sht) (l : List Pt) (w : World) (ha : Cts w A S.cs) (hb : Pts w B l) (hlb : l.length ≤ 1000000) :
    Calls Try.prog 23 #[(Value.agg #[(Value.int .i64 (S.xlo)), (Value.int .i64 (S.xhi)), (Value.int .i64 (S.ylo)), (Value.int .i64 (S.yhi)), .slice A S.cs.length ca, (Value.int .i64 (S.wrong))]), .slice B l.length cb] w fun e w' => e = .returned (.tuple #[.agg #[(Value.int .i64 (arLo S l)), (Value.int .i64 (arHi S l))], (Value.int .i64 (arE S l true))]) ∧ Below w.heap.size w w' := by
  have hMs := fun (W : World) (h : Below w.heap.size w W) => measured_any A B ca cb S l W (ha.below h) (hb.below h) hlb
  have HOP := fun (W : World) (h : Below w.heap.size w W) => open_any4 A ca S true W (ha.below h)
  have c2 : Blk ((w.alloc (.cells #[(Value.int .i64 (S.xlo)), (Value.int .i64 (S.xhi)), (Value.int .i64 (S.ylo)), (Value.int .i64 (S.yhi)), .slice A S.cs.length ca, (Value.int .i64 (S.wrong))] 26)).alloc (.cells #[(Value.int .i64 (0)), (Value.int .i64 (0))] 23)) w.heap.size 26 #[(Value.int .i64 (S.xlo)), (Value.int .i64 (S.xhi)), (Value.int .i64 (S.ylo)), (Value.int .i64 (S.yhi)), .slice A S.cs.length ca, (Value.int .i64 (S.wrong))] := (Blk.new _ _ _).alloc _
  have c4 : Blk ((w.alloc (.cells #[(Value.int .i64 (S.xlo)), (Value.int .i64 (S.xhi)), (Value.int .i64 (S.ylo)), (Value.int .i64 (S.yhi)), .slice A S.cs.length ca, (Value.int .i64 (S.wrong))] 26)).alloc (.cells #[(Value.int .i64 (0)), (Value.int .i64 (0))] 23)) (w.heap.size + 1) 23 #[(Value.int .i64 (0)), (Value.int .i64 (0))] := Blk.new_at (by simp)
  have hb0 : Below w.heap.size w ((w.alloc (.cells #[(Value.int .i64 (S.xlo)), (Value.int .i64 (S.xhi)), (Value.int .i64 (S.ylo)), (Value.int .i64 (S.yhi)), .slice A S.cs.length ca, (Value.int .i64 (S.wrong))] 26)).alloc (.cells #[(Value.int .i64 (0)), (Value.int .i64 (0))] 23)) := by (repeat (first | with_reducible exact Below.refl _ _ | with_reducible apply bl_alloc | with_reducible apply bl_drew | with_reducible apply bl_after | (with_reducible refine bl_call ?_ (by assumption))))
  have HC := Lib.hid (And.intro c2 c4)
  clear ha hb
  (have la := c2.lt); (have ya0 := c2.cell 0); (have ya1 := c2.cell 1); (have ya2 := c2.cell 2); (have ya3 := c2.cell 3); (have ya4 := c2.cell 4); (have ya5 := c2.cell 5); simp only [List.getElem?_toArray, List.getElem?_cons_zero, List.getElem?_cons_succ] at ya0 ya1 ya2 ya3 ya4 ya5
  (have lb := c4.lt); (have yb0 := c4.cell 0); (have yb1 := c4.cell 1); simp only [List.getElem?_toArray, List.getElem?_cons_zero, List.getElem?_cons_succ] at yb0 yb1
  by_cases h0 : msE S l = 0
  · have hE : arE S l true = opS S true := by rw [arE, if_pos h0]
    have h0' := h0
    rw [msV, if_pos h0, h0] at hMs
    replace hMs := Lib.hid hMs
    replace HOP := Lib.hid HOP
    have HV0 := Lib.hid hE
    have HM0 := Lib.hid h0
    clear h0 hE c2 c4 h0'
    go_enter Try.func23, Try.ntmps23
    go_upto_region 2 with ((go_at_call 50); (with_reducible refine Calls.mono (hMs.out _ (by (repeat (first | with_reducible exact Below.refl _ _ | with_reducible apply bl_alloc | with_reducible apply bl_drew | with_reducible apply bl_after | (with_reducible refine bl_call ?_ (by assumption)))))) ?_); rintro e w1 ⟨rfl, hb1⟩; first | ((with_reducible apply kp_in_step (hb := hb1)); (with_reducible assumption); rintro ⟨hk, hc, hf, hzc, hzf⟩) | ((with_reducible refine kp_in_first hb1 ?_); rintro ⟨hk, hc, hf, hzc, hzf⟩))
    have c6 := Blk.new w1 3 #[(Value.int .i64 (abT l))]
    have c2 := (HC.out.1.below hb1).alloc (.cells #[(Value.int .i64 (abT l))] 3)
    have c4 := (HC.out.2.below hb1).alloc (.cells #[(Value.int .i64 (abT l))] 3)
    have hbV := bl_alloc (o := .cells #[(Value.int .i64 (abT l))] 3) (bl_call hb0 hb1)
    clear la ya0 ya1 ya2 ya3 ya4 ya5 lb yb0 yb1 hb1 hMs
    ((try clear hk hc hf hzc hzf); (try clear hk hc hf hzc hzf); (try clear hk hc hf hzc hzf); (try clear hk hc hf hzc hzf))
    generalize w1.alloc (.cells #[(Value.int .i64 (abT l))] 3) = W1 at *
    generalize w1.heap.size = g6 at *
    have HC6 := Lib.hid (And.intro c4 c6)
    (have la := c2.lt); (have ya0 := c2.cell 0); (have ya1 := c2.cell 1); (have ya2 := c2.cell 2); (have ya3 := c2.cell 3); (have ya4 := c2.cell 4); (have ya5 := c2.cell 5); simp only [List.getElem?_toArray, List.getElem?_cons_zero, List.getElem?_cons_succ] at ya0 ya1 ya2 ya3 ya4 ya5
    (have lb := c4.lt); (have yb0 := c4.cell 0); (have yb1 := c4.cell 1); simp only [List.getElem?_toArray, List.getElem?_cons_zero, List.getElem?_cons_succ] at yb0 yb1
    have f4 := c4.frozen 0
    have f5 := c4.frozen 1
    clear c4 c6 c2 HC hb0
    by_cases h1 : opS S true = 0
    · have hok : Ok l := chk_zero (by
        have h := HM0.out
        rwa [msE, if_pos (opS_zero h1).1] at h)
      have hS := sht_ok (opS_zero h1).1
      have hE : arE S l true = 0 := by rw [HV0.out, h1]
      have HV := Lib.hid (show Value.tuple #[.agg #[(Value.int .i64 (arLo S l)), (Value.int .i64 (arHi S l))], (Value.int .i64 (arE S l true))] = .tuple #[.agg #[(Value.int .i64 (bLo (arQ l) (trs S))), (Value.int .i64 (bHi (arQ l) (trs S)))], (Value.int .i64 (0))] by rw [arLo, arHi, if_pos hE, if_pos hE, hE])
      have h1' := Lib.hid h1
      have HOP2 := HOP.out
      rw [h1] at HOP2
      replace HOP2 := Lib.hid HOP2
      clear h1 hE HOP
      go_upto_region 7 with ((go_at_call 51); (with_reducible refine Calls.mono (HOP2.out _ hbV) ?_); rintro e w2 ⟨⟨p, rfl, hO⟩, hb2⟩; first | ((with_reducible apply kp_in_step (hb := hb2)); (with_reducible assumption); rintro ⟨hk, hc, hf, hzc, hzf⟩) | ((with_reducible refine kp_in_first hb2 ?_); rintro ⟨hk, hc, hf, hzc, hzf⟩))
      obtain ⟨g, rfl, hK⟩ := hO.ok h1'.out
      have hbd := Lib.hid (bounds_any4 g A ca S hS 62 #[.pointer (some ⟨g6, 0, none⟩)] (arQ l) w2 hK (enters_of Try.func62 (by kernel_rfl) rfl) (fun f hf => arQ_ok hok (trs_ok hS hf)) (fun f hf W hb => area1_any l f hok (trs_ok hS hf) g6 W ((HC6.out.2.below hb2).below hb)))
      have c4 := HC6.out.1.below hb2
      have hbW := bl_call hbV hb2
      clear hO hK HC6 HOP2
      go_wp2_with ((go_at_call 61); (with_reducible refine Calls.mono hbd.out ?_); rintro e w3 ⟨rfl, hb3⟩; first | ((with_reducible apply kp_in_step (hb := hb3)); (with_reducible assumption); rintro ⟨hk, hc, hf, hzc, hzf⟩) | ((with_reducible refine kp_in_first hb3 ?_); rintro ⟨hk, hc, hf, hzc, hzf⟩))
      ((have d4 : Blk ((w3.setCell ⟨w.heap.size + 1, 0, none⟩ (Value.int .i64 ((bLo (arQ l) (trs S))))).setCell ⟨w.heap.size + 1, 1, none⟩ (Value.int .i64 ((bHi (arQ l) (trs S))))) (w.heap.size + 1) 23 #[(Value.int .i64 ((bLo (arQ l) (trs S)))), (Value.int .i64 ((bHi (arQ l) (trs S))))] := (by (have h := ((c4.below hb3).set_ 0 (Value.int .i64 ((bLo (arQ l) (trs S))))).set_ 1 (Value.int .i64 ((bHi (arQ l) (trs S))))); simpa using h)); (have hbX : Below w.heap.size w ((w3.setCell ⟨w.heap.size + 1, 0, none⟩ (Value.int .i64 ((bLo (arQ l) (trs S))))).setCell ⟨w.heap.size + 1, 1, none⟩ (Value.int .i64 ((bHi (arQ l) (trs S))))) := bl_setc (bl_setc (bl_call hbW hb3) (by omega)) (by omega)); generalize (w3.setCell ⟨w.heap.size + 1, 0, none⟩ (Value.int .i64 ((bLo (arQ l) (trs S))))).setCell ⟨w.heap.size + 1, 1, none⟩ (Value.int .i64 ((bHi (arQ l) (trs S)))) = X at d4 hbX ⊢; (have z4 := d4.cell 0); (have z5 := d4.cell 1); simp only [List.getElem?_toArray, List.getElem?_cons_zero, List.getElem?_cons_succ] at z4 z5; refine bodyPost_ret (v := .tuple #[.agg #[(Value.int .i64 ((bLo (arQ l) (trs S)))), (Value.int .i64 ((bHi (arQ l) (trs S))))], (Value.int .i64 (0))]) (by simp [results, Try.results23, go_sem, z4, z5]) rfl ⟨congrArg Ending.returned HV.out.symm, hbX⟩)
    · have hne : arE S l true ≠ 0 := by rw [HV0.out]; exact h1
      have HV := Lib.hid (show Value.tuple #[.agg #[(Value.int .i64 (arLo S l)), (Value.int .i64 (arHi S l))], (Value.int .i64 (arE S l true))] = .tuple #[.agg #[(Value.int .i64 (0)), (Value.int .i64 (0))], (Value.int .i64 (opS S true))] by rw [arLo, arHi, if_neg hne, if_neg hne, HV0.out])
      have h2 : (opS S true != 0) = true := by rw [bne_iff_ne]; exact h1
      clear h1 hne
      go_wp2_with ((go_at_call 51); (with_reducible refine Calls.mono (HOP.out _ hbV) ?_); rintro e w2 ⟨⟨p, rfl, hO⟩, hb2⟩; first | ((with_reducible apply kp_in_step (hb := hb2)); (with_reducible assumption); rintro ⟨hk, hc, hf, hzc, hzf⟩) | ((with_reducible refine kp_in_first hb2 ?_); rintro ⟨hk, hc, hf, hzc, hzf⟩))
      ((have d4 : Blk ((w2.setCell ⟨w.heap.size + 1, 0, none⟩ (Value.int .i64 (0))).setCell ⟨w.heap.size + 1, 1, none⟩ (Value.int .i64 (0))) (w.heap.size + 1) 23 #[(Value.int .i64 (0)), (Value.int .i64 (0))] := (by (have h := ((HC6.out.1.below hb2).set_ 0 (Value.int .i64 (0))).set_ 1 (Value.int .i64 (0))); simpa using h)); (have hbX : Below w.heap.size w ((w2.setCell ⟨w.heap.size + 1, 0, none⟩ (Value.int .i64 (0))).setCell ⟨w.heap.size + 1, 1, none⟩ (Value.int .i64 (0))) := bl_setc (bl_setc (bl_call hbV hb2) (by omega)) (by omega)); generalize (w2.setCell ⟨w.heap.size + 1, 0, none⟩ (Value.int .i64 (0))).setCell ⟨w.heap.size + 1, 1, none⟩ (Value.int .i64 (0)) = X at d4 hbX ⊢; (have z4 := d4.cell 0); (have z5 := d4.cell 1); simp only [List.getElem?_toArray, List.getElem?_cons_zero, List.getElem?_cons_succ] at z4 z5; refine bodyPost_ret (v := .tuple #[.agg #[(Value.int .i64 (0)), (Value.int .i64 (0))], (Value.int .i64 ((opS S true)))]) (by simp [results, Try.results23, go_sem, z4, z5]) rfl ⟨congrArg Ending.returned HV.out.symm, hbX⟩)
  · have hE : arE S l true = msE S l := by rw [arE, if_neg h0]
    have hne : arE S l true ≠ 0 := by rw [hE]; exact h0
    have h2 : (msE S l != 0) = true := by rw [bne_iff_ne]; exact h0
    have HV := Lib.hid (show Value.tuple #[.agg #[(Value.int .i64 (arLo S l)), (Value.int .i64 (arHi S l))], (Value.int .i64 (arE S l true))] = .tuple #[.agg #[(Value.int .i64 (0)), (Value.int .i64 (0))], (Value.int .i64 (msE S l))] by rw [arLo, arHi, if_neg hne, if_neg hne, hE])
    rw [msV, if_neg h0] at hMs
    replace hMs := Lib.hid hMs
    clear h0 hE hne HOP c2 c4
    go_enter Try.func23, Try.ntmps23
    go_upto_region 2 with ((go_at_call 50); (with_reducible refine Calls.mono (hMs.out _ (by (repeat (first | with_reducible exact Below.refl _ _ | with_reducible apply bl_alloc | with_reducible apply bl_drew | with_reducible apply bl_after | (with_reducible refine bl_call ?_ (by assumption)))))) ?_); rintro e w1 ⟨rfl, hb1⟩; first | ((with_reducible apply kp_in_step (hb := hb1)); (with_reducible assumption); rintro ⟨hk, hc, hf, hzc, hzf⟩) | ((with_reducible refine kp_in_first hb1 ?_); rintro ⟨hk, hc, hf, hzc, hzf⟩))
    have c2 := (HC.out.1.below hb1).alloc (.cells #[(Value.int .i64 (0))] 3)
    have c4 := (HC.out.2.below hb1).alloc (.cells #[(Value.int .i64 (0))] 3)
    have hbV := bl_alloc (o := .cells #[(Value.int .i64 (0))] 3) (bl_call hb0 hb1)
    clear la ya0 ya1 ya2 ya3 ya4 ya5 lb yb0 yb1 hb1 hMs
    ((try clear hk hc hf hzc hzf); (try clear hk hc hf hzc hzf); (try clear hk hc hf hzc hzf); (try clear hk hc hf hzc hzf))
    generalize w1.alloc (.cells #[(Value.int .i64 (0))] 3) = W1 at *
    generalize w1.heap.size = g6 at *
    (have la := c2.lt); (have ya0 := c2.cell 0); (have ya1 := c2.cell 1); (have ya2 := c2.cell 2); (have ya3 := c2.cell 3); (have ya4 := c2.cell 4); (have ya5 := c2.cell 5); simp only [List.getElem?_toArray, List.getElem?_cons_zero, List.getElem?_cons_succ] at ya0 ya1 ya2 ya3 ya4 ya5
    (have lb := c4.lt); (have yb0 := c4.cell 0); (have yb1 := c4.cell 1); simp only [List.getElem?_toArray, List.getElem?_cons_zero, List.getElem?_cons_succ] at yb0 yb1
    have f4 := c4.frozen 0
    have f5 := c4.frozen 1
    go_wp2
    ((have d4 : Blk ((W1.setCell ⟨w.heap.size + 1, 0, none⟩ (Value.int .i64 (0))).setCell ⟨w.heap.size + 1, 1, none⟩ (Value.int .i64 (0))) (w.heap.size + 1) 23 #[(Value.int .i64 (0)), (Value.int .i64 (0))] := (by (have h := (c4.set_ 0 (Value.int .i64 (0))).set_ 1 (Value.int .i64 (0))); simpa using h)); (have hbX : Below w.heap.size w ((W1.setCell ⟨w.heap.size + 1, 0, none⟩ (Value.int .i64 (0))).setCell ⟨w.heap.size + 1, 1, none⟩ (Value.int .i64 (0))) := bl_setc (bl_setc hbV (by omega)) (by omega)); generalize (W1.setCell ⟨w.heap.size + 1, 0, none⟩ (Value.int .i64 (0))).setCell ⟨w.heap.size + 1, 1, none⟩ (Value.int .i64 (0)) = X at d4 hbX ⊢; (have z4 := d4.cell 0); (have z5 := d4.cell 1); simp only [List.getElem?_toArray, List.getElem?_cons_zero, List.getElem?_cons_succ] at z4 z5; refine bodyPost_ret (v := .tuple #[.agg #[(Value.int .i64 (0)), (Value.int .i64 (0))], (Value.int .i64 ((msE S l)))]) (by simp [results, Try.results23, go_sem, z4, z5]) rfl ⟨congrArg Ending.returned HV.out.symm, hbX⟩)
end Go.Proofs.Ytegdnbceiopklaa
