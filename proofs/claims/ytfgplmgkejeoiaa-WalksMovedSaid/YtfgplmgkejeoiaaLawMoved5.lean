/- The law WalksMoved answers true for any track, walk and move. -/
import Derived.Test.YtfgplmgkejeoiaaFewIn
import Derived.Test.YtfgplmgkejeoiaaRowS
import Derived.Test.YtfgplmgkejeoiaaCop
import Derived.Test.YtfgplmgkejeoiaaOpw
import Derived.Test.YtfgplmgkejeoiaaRows
namespace Go.Proofs.Ytfgplmgkejeoiaa
open Go.RowKit
attribute [local go_sem] After.cell After.frozen

/-- What lies in memory while the copies are moved. -/
structure MvS (g1 c1 g2 c2 g3 g5 g7 : Nat) (A : Option Addr) (ca : Nat) (T : Trk) (m : List Pt) (d : Pt) (l1 l2 : List Pt) (w wr : World) : Prop where
  r1 : RowP wr w.heap.size (.slice (some ⟨g1, 0, none⟩) T.pts.length c1) l1
  r2 : RowP wr w.heap.size (.slice (some ⟨g2, 0, none⟩) m.length c2) l2
  e3 : Blk wr g3 36 #[.slice A T.pts.length ca, (Value.int .i64 (T.closed)), (Value.int .i64 (T.lo)), (Value.int .i64 (T.hi))]
  e5 : Blk wr g5 31 #[(Value.int .i64 (d.1)), (Value.int .i64 (d.2))]
  e7 : Blk wr g7 36 #[.slice (some ⟨g1, 0, none⟩) T.pts.length c1, (Value.int .i64 (T.closed)), (Value.int .i64 (T.lo)), (Value.int .i64 (T.hi))]
  bl : Below w.heap.size w wr
theorem MvS.below {g1 c1 g2 c2 g3 g5 g7 : Nat} {A : Option Addr} {ca : Nat} {T : Trk} {m : List Pt} {d : Pt} {l1 l2 : List Pt} {w wr wt : World} (h : MvS g1 c1 g2 c2 g3 g5 g7 A ca T m d l1 l2 w wr) (hb : Below wr.heap.size wr wt) : MvS g1 c1 g2 c2 g3 g5 g7 A ca T m d l1 l2 w wt :=
  ⟨h.r1.below hb, h.r2.below hb, h.e3.below hb, h.e5.below hb, h.e7.below hb, h.bl.trans (hb.mono h.bl.size)⟩
theorem MvS.set1 {g1 c1 g2 c2 g3 g5 g7 : Nat} {A : Option Addr} {ca : Nat} {T : Trk} {m : List Pt} {d : Pt} {l1 l2 : List Pt} {w wr : World} (h : MvS g1 c1 g2 c2 g3 g5 g7 A ca T m d l1 l2 w wr) {k : Nat} (hk : k < l1.length) (x y : Int) (n2 : g2 ≠ g1) (n3 : g3 ≠ g1) (n5 : g5 ≠ g1) (n7 : g7 ≠ g1) :
    MvS g1 c1 g2 c2 g3 g5 g7 A ca T m d (l1.set k (x, y)) l2 w ((wr.setCell ⟨g1, k * 2, none⟩ (Value.int .i64 (x))).setCell ⟨g1, k * 2 + 1, none⟩ (Value.int .i64 (y))) :=
  ⟨h.r1.set hk x y, (h.r2.far (by simp [Value.ownBlock]; exact n2) _).far (by simp [Value.ownBlock]; exact n2) _, (h.e3.far n3 _).far n3 _, (h.e5.far n5 _).far n5 _, (h.e7.far n7 _).far n7 _, bl_setc5 (bl_setc5 h.bl h.r1.base.1) h.r1.base.1⟩
theorem MvS.set2 {g1 c1 g2 c2 g3 g5 g7 : Nat} {A : Option Addr} {ca : Nat} {T : Trk} {m : List Pt} {d : Pt} {l1 l2 : List Pt} {w wr : World} (h : MvS g1 c1 g2 c2 g3 g5 g7 A ca T m d l1 l2 w wr) {k : Nat} (hk : k < l2.length) (x y : Int) (n1 : g1 ≠ g2) (n3 : g3 ≠ g2) (n5 : g5 ≠ g2) (n7 : g7 ≠ g2) :
    MvS g1 c1 g2 c2 g3 g5 g7 A ca T m d l1 (l2.set k (x, y)) w ((wr.setCell ⟨g2, k * 2, none⟩ (Value.int .i64 (x))).setCell ⟨g2, k * 2 + 1, none⟩ (Value.int .i64 (y))) :=
  ⟨(h.r1.far (by simp [Value.ownBlock]; exact n1) _).far (by simp [Value.ownBlock]; exact n1) _, h.r2.set hk x y, (h.e3.far n3 _).far n3 _, (h.e5.far n5 _).far n5 _, (h.e7.far n7 _).far n7 _, bl_setc5 (bl_setc5 h.bl h.r2.base.1) h.r2.base.1⟩

set_option maxRecDepth 100000 in
set_option maxHeartbeats 8000000 in
theorem mov_in (b o ca bm om cm : Nat) (T : Trk) (m : List Pt) (d : Pt) (w : World) (hp : PtsAt w b o T.pts) (hq : PtsAt w bm om m) (hr : rdyB T m = true) (hd : isPt d = true) :
    Calls Try.prog 9 #[(Value.agg #[.slice (some ⟨b, o, none⟩) T.pts.length ca, (Value.int .i64 (T.closed)), (Value.int .i64 (T.lo)), (Value.int .i64 (T.hi))]), .slice (some ⟨bm, om, none⟩) m.length cm, (Value.agg #[.int .i64 d.1, .int .i64 d.2])] w fun e w' => e = .returned (.bool true) ∧ Below w.heap.size w w' := by
  obtain ⟨hT, hm, hc0, h5T, h5m⟩ := rdy_parts hr
  have hm0 : 0 < m.length := by have := walkB_bd hm; omega
  have hT0 : 0 < T.pts.length := by have := trkB_bd hT; omega
  have e3 : Blk ((w.alloc (.cells #[.slice (some ⟨b, o, none⟩) T.pts.length ca, (Value.int .i64 (T.closed)), (Value.int .i64 (T.lo)), (Value.int .i64 (T.hi))] 36)).alloc (.cells #[(Value.int .i64 (d.1)), (Value.int .i64 (d.2))] 31)) w.heap.size 36 #[.slice (some ⟨b, o, none⟩) T.pts.length ca, (Value.int .i64 (T.closed)), (Value.int .i64 (T.lo)), (Value.int .i64 (T.hi))] := (Blk.new _ _ _).alloc _
  have e5 : Blk ((w.alloc (.cells #[.slice (some ⟨b, o, none⟩) T.pts.length ca, (Value.int .i64 (T.closed)), (Value.int .i64 (T.lo)), (Value.int .i64 (T.hi))] 36)).alloc (.cells #[(Value.int .i64 (d.1)), (Value.int .i64 (d.2))] 31)) (w.heap.size + 1) 31 #[(Value.int .i64 (d.1)), (Value.int .i64 (d.2))] := Blk.new_at (by simp)
  have hbX : Below w.heap.size w ((w.alloc (.cells #[.slice (some ⟨b, o, none⟩) T.pts.length ca, (Value.int .i64 (T.closed)), (Value.int .i64 (T.lo)), (Value.int .i64 (T.hi))] 36)).alloc (.cells #[(Value.int .i64 (d.1)), (Value.int .i64 (d.2))] 31)) := by (repeat (first | with_reducible exact Below.refl _ _ | with_reducible apply bl_alloc | with_reducible apply bl_drew | with_reducible apply bl_after | (with_reducible refine bl_call ?_ (by assumption))))
  have hRdy := fun (W : World) (h : Below w.heap.size w W) => ready_any (some ⟨b, o, none⟩) (some ⟨bm, om, none⟩) ca cm T m W (.inr ⟨b, o, rfl, hp.below h⟩) (by omega) (.inr ⟨bm, om, rfl, hq.below h⟩) (by omega)
  rw [hr] at hRdy
  have hIs := r5IsPoint_any d
  rw [hd] at hIs
  have hCp := fun (W : World) (h : Below w.heap.size w W) => Copy_own ⟨b, o, none⟩ ca T W (.inr ⟨b, o, rfl, hp.below h⟩) (by omega)
  have hd0 := Lib.hid hd
  replace hRdy := Lib.hid hRdy
  replace hIs := Lib.hid hIs
  replace hCp := Lib.hid hCp
  have HP := Lib.hid hp
  have HQ := Lib.hid hq
  have HTM := Lib.hid (And.intro hT hm)
  have HC0 := Lib.hid hc0
  clear hp hq hT hm hc0 hr hd
  (have la := e3.lt); (have ya0 := e3.cell 0); (have ya1 := e3.cell 1); (have ya2 := e3.cell 2); (have ya3 := e3.cell 3); simp only [List.getElem?_toArray, List.getElem?_cons_zero, List.getElem?_cons_succ] at ya0 ya1 ya2 ya3
  have l5 := e5.lt
  have y50 := e5.cell 0
  have y51 := e5.cell 1
  simp only [List.getElem?_toArray, List.getElem?_cons_zero, List.getElem?_cons_succ] at y50 y51
  go_enter Try.func9, Try.ntmps9
  go_wp2_with (first | ((go_at_call 42); (with_reducible refine Calls.mono (hRdy.out _ (by (repeat (first | with_reducible exact Below.refl _ _ | with_reducible apply bl_alloc | with_reducible apply bl_drew | with_reducible apply bl_after | (with_reducible refine bl_call ?_ (by assumption)))))) ?_); rintro e wn ⟨rfl, hbn⟩; first | ((with_reducible apply kp_in_step (hb := hbn)); (with_reducible assumption); rintro ⟨hk, hc, hf, hzc, hzf⟩) | ((with_reducible refine kp_in_first hbn ?_); rintro ⟨hk, hc, hf, hzc, hzf⟩)) | ((go_at_call 45); (with_reducible refine Calls.mono (hIs.out _) ?_); rintro e wn ⟨rfl, hbn⟩; first | ((with_reducible apply kp_in_step (hb := hbn)); (with_reducible assumption); rintro ⟨hk, hc, hf, hzc, hzf⟩) | ((with_reducible refine kp_in_first hbn ?_); rintro ⟨hk, hc, hf, hzc, hzf⟩)) | ((go_at_call 16); (with_reducible refine Calls.mono (hCp.out _ (by (repeat (first | with_reducible exact Below.refl _ _ | with_reducible apply bl_alloc | with_reducible apply bl_drew | with_reducible apply bl_after | (with_reducible refine bl_call ?_ (by assumption)))))) ?_); rintro e w1 ⟨⟨A1, ca1, rfl, hC1⟩, hb1⟩; (have hbw1 : Below w.heap.size w w1 := by (repeat (first | with_reducible exact Below.refl _ _ | with_reducible apply bl_alloc | with_reducible apply bl_drew | with_reducible apply bl_after | (with_reducible refine bl_call ?_ (by assumption))))); obtain ⟨g1, _, e1, hR1, hg1⟩ := RowP.head hC1 hT0; simp only [Value.slice.injEq] at e1; obtain ⟨rfl, -, rfl⟩ := e1; (have HR1 := Lib.hid hR1); (have hK1z := hk.b.size); (have hbA1 := bl_call hk.b hb1); (have hwn := (show w.heap.size ≤ wn.heap.size by have := hK1z; simp at this; omega)); clear hC1 hR1; first | ((with_reducible apply kp_in_step (hb := hb1)); (with_reducible assumption); rintro ⟨hk, hc, hf, hzc, hzf⟩) | ((with_reducible refine kp_in_first hb1 ?_); rintro ⟨hk, hc, hf, hzc, hzf⟩)) | (at_builtin; refine wpList_copy_own rfl (.tmp 39) (.tmp 40) rfl (w1.heap.size + 1) (by simp) ⟨bm, om, none⟩ cm m rfl rfl (.inr ⟨bm, om, rfl, HQ.out.below (bl_alloc hbw1)⟩) hm0 (by omega) ?_; intro g2 ca2 w2 hR2 hb2; first | ((with_reducible apply kp_in_step (hb := hb2)); (with_reducible assumption); rintro ⟨hk, hc, hf, hzc, hzf⟩) | ((with_reducible refine kp_in_first hb2 ?_); rintro ⟨hk, hc, hf, hzc, hzf⟩)))
  have hbA2 := bl_call (bl_alloc hbA1) hb2
  have hbw2 : Below w.heap.size w w2 := (bl_alloc hbw1).trans (hb2.mono (bl_alloc hbw1).size)
  have hS : MvS g1 ca1 g2 ca2 w.heap.size (w.heap.size + 1) w1.heap.size (some ⟨b, o, none⟩) ca T m d T.pts m w w2 :=
    ⟨(Joins.ownsRow_le ((HR1.out.below (bl_alloc (Below.refl _ _))).below hb2) hwn), Joins.ownsRow_le hR2 (bl_alloc hbw1).size, e3.below hbA2, e5.below hbA2, (Blk.new w1 _ _).below hb2, hbw2⟩
  have k7 : g1 < w1.heap.size := HR1.out.base.2
  have k2 : w1.heap.size + 1 ≤ g2 := by have := hR2.base.1; simp at this; exact this
  have k1 : w.heap.size + 1 + 1 ≤ g1 := by simp at hK1z; omega
  have n31 : w.heap.size ≠ g1 := by omega
  have n51 : w.heap.size + 1 ≠ g1 := by omega
  have n71 : w1.heap.size ≠ g1 := by omega
  have n21 : g2 ≠ g1 := by omega
  have n32 : w.heap.size ≠ g2 := by omega
  have n52 : w.heap.size + 1 ≠ g2 := by omega
  have n72 : w1.heap.size ≠ g2 := by omega
  clear HR1 hR2 hb2 hb1 hbw1 e3 e5 hbX hRdy hIs hCp hbA1 hbA2 hK1z hwn hg1
  ((try clear hk hc hf hzc hzf); (try clear hk hc hf hzc hzf); (try clear hk hc hf hzc hzf); (try clear hk hc hf hzc hzf))
  obtain ⟨hT, hm⟩ := HTM.out
  have HPT := Lib.hid ((trkB_bd hT).1.2)
  have HPM := Lib.hid ((walkB_bd hm).2)
  clear hT hm
  have hd2 := isPt_bd hd0.out
  have HS := Lib.hid hS
  clear hS hbw2
  go_loopw [9] (fun i wr => ∃ k : Nat, k ≤ T.pts.length ∧ i = (Value.int .i64 ((k : Int))) ∧ Hid (MvS g1 ca1 g2 ca2 w.heap.size (w.heap.size + 1) w1.heap.size (some ⟨b, o, none⟩) ca T m d (mvTk d T.pts k) m w wr)) (fun i _ => T.pts.length - (intOf i).toNat)
  case atStart => exact ⟨0, Nat.zero_le _, rfl, Lib.hid (by rw [mvTk_zero]; exact HS.out)⟩
  case round =>
    clear HS
    obtain ⟨k, kn, rfl, HS⟩ := hrel
    have e7 := HS.out.e7
    (have lc := e7.lt); (have yc0 := e7.cell 0); (have yc1 := e7.cell 1); (have yc2 := e7.cell 2); (have yc3 := e7.cell 3); simp only [List.getElem?_toArray, List.getElem?_cons_zero, List.getElem?_cons_succ] at yc0 yc1 yc2 yc3
    by_cases hlt : k < T.pts.length
    · have e3 := HS.out.e3
      have e5 := HS.out.e5
      (have la := e3.lt); (have ya0 := e3.cell 0); (have ya1 := e3.cell 1); (have ya2 := e3.cell 2); (have ya3 := e3.cell 3); simp only [List.getElem?_toArray, List.getElem?_cons_zero, List.getElem?_cons_succ] at ya0 ya1 ya2 ya3
      have l5 := e5.lt
      have y50 := e5.cell 0
      have y51 := e5.cell 1
      simp only [List.getElem?_toArray, List.getElem?_cons_zero, List.getElem?_cons_succ] at y50 y51
      obtain ⟨r1, r2, r3, r4, r5⟩ := HS.out.r1.cells (k := k) (by rw [mvTk_len]; exact hlt)
      have pm := HP.out.below HS.out.bl
      have lm := pm.lt
      have x1 := pm.xp hlt
      have x2 := pm.yp hlt
      have hpt := isPt_bd (HPT.out k hlt)
      have hNS := Lib.hid (mvTk_succ (d := d) hlt)
      have j1 : (0 : Int) ≤ (k : Int) := by omega
      have j2 : (k : Int) < (T.pts.length : Int) := by omega
      have m1 : IntKind.i64.wrap ((pat T.pts k).1 + d.1) = (pat T.pts k).1 + d.1 := IntWalk.i64_in _ (by omega)
      have m2 : IntKind.i64.wrap ((pat T.pts k).2 + d.2) = (pat T.pts k).2 + d.2 := IntWalk.i64_in _ (by omega)
      clear pm e3 e5 e7
      generalize pat T.pts k = q at *
      go_wp2
      refine wp_region_after_tail 22 (by kernel_rfl) (by kernel_rfl) ?_; simp only [List.take_succ_cons, List.take_zero, List.drop_succ_cons, List.drop_zero]; (repeat (go_big_quiet_step ((fail)))); refine wpQuiet_nil ?_; rintro _ ⟨z, rfl⟩; (first | ((with_reducible apply kp_in_after (z := z)); (with_reducible assumption); rintro ⟨hk, hc, hf, hzc, hzf⟩) | ((with_reducible refine kp_in_after0 z ?_); rintro ⟨hk, hc, hf, hzc, hzf⟩))
      go_wp2
      go_roundw
      case rel => exact ⟨k + 1, by omega, by go_num, Lib.hid (by rw [← hNS.out]; exact (HS.out.below z.ok).set1 (by rw [mvTk_len]; exact hlt) _ _ n21 n31 n51 n71)⟩
      case measure => simp [intOf]; omega
    · obtain rfl : k = T.pts.length := by omega
      have HS0 := HS.out
      rw [mvTk_all] at HS0
      have HS := Lib.hid HS0
      clear HS0
      go_wp2
      clear lc yc0 yc1 yc2 yc3 e7
      go_loopw [10] (fun i wq => ∃ k : Nat, k ≤ m.length ∧ i = (Value.int .i64 ((k : Int))) ∧ Hid (MvS g1 ca1 g2 ca2 w.heap.size (w.heap.size + 1) w1.heap.size (some ⟨b, o, none⟩) ca T m d (mvP d T.pts) (mvTk d m k) w wq)) (fun i _ => m.length - (intOf i).toNat)
      case atStart => exact ⟨0, Nat.zero_le _, rfl, Lib.hid (by rw [mvTk_zero]; exact HS.out)⟩
      case round =>
        clear HS
        obtain ⟨k, kn, rfl, HS⟩ := hrel
        by_cases hlt : k < m.length
        · have e5 := HS.out.e5
          have l5 := e5.lt
          have y50 := e5.cell 0
          have y51 := e5.cell 1
          simp only [List.getElem?_toArray, List.getElem?_cons_zero, List.getElem?_cons_succ] at y50 y51
          obtain ⟨r1, r2, r3, r4, r5⟩ := HS.out.r2.cells (k := k) (by rw [mvTk_len]; exact hlt)
          have pm := HQ.out.below HS.out.bl
          have lm := pm.lt
          have x1 := pm.xp hlt
          have x2 := pm.yp hlt
          have hpt := isPt_bd (HPM.out k hlt)
          have hNS := Lib.hid (mvTk_succ (d := d) hlt)
          have j1 : (0 : Int) ≤ (k : Int) := by omega
          have j2 : (k : Int) < (m.length : Int) := by omega
          have m1 : IntKind.i64.wrap ((pat m k).1 + d.1) = (pat m k).1 + d.1 := IntWalk.i64_in _ (by omega)
          have m2 : IntKind.i64.wrap ((pat m k).2 + d.2) = (pat m k).2 + d.2 := IntWalk.i64_in _ (by omega)
          clear pm e5
          generalize pat m k = q at *
          go_wp2
          refine wp_region_after_tail 19 (by kernel_rfl) (by kernel_rfl) ?_; simp only [List.take_succ_cons, List.take_zero, List.drop_succ_cons, List.drop_zero]; (repeat (go_big_quiet_step ((fail)))); refine wpQuiet_nil ?_; rintro _ ⟨z, rfl⟩; (first | ((with_reducible apply kp_in_after (z := z)); (with_reducible assumption); rintro ⟨hk, hc, hf, hzc, hzf⟩) | ((with_reducible refine kp_in_after0 z ?_); rintro ⟨hk, hc, hf, hzc, hzf⟩))
          go_wp2
          go_roundw
          case rel => exact ⟨k + 1, by omega, by go_num, Lib.hid (by rw [← hNS.out]; exact (HS.out.below z.ok).set2 (by rw [mvTk_len]; exact hlt) _ _ n21.symm n32 n52 n72)⟩
          case measure => simp [intOf]; omega
        · obtain rfl : k = m.length := by omega
          have HS0 := HS.out
          rw [mvTk_all] at HS0
          clear HS
          obtain ⟨r1, r2, e3, e5, e7, hbX⟩ := HS0
          have xa : Pts wr (some ⟨b, o, none⟩) T.pts := .inr ⟨b, o, rfl, HP.out.below hbX⟩
          have xb : Pts wr (some ⟨bm, om, none⟩) m := .inr ⟨bm, om, rfl, HQ.out.below hbX⟩
          have xC := r1.pts
          have xP := r2.pts
          clear e5 r1 r2 n21 n31 n51 n71 n32 n52 n72 k7 k2 k1
          (have la := e3.lt); (have ya0 := e3.cell 0); (have ya1 := e3.cell 1); (have ya2 := e3.cell 2); (have ya3 := e3.cell 3); simp only [List.getElem?_toArray, List.getElem?_cons_zero, List.getElem?_cons_succ] at ya0 ya1 ya2 ya3
          (have lc := e7.lt); (have yc0 := e7.cell 0); (have yc1 := e7.cell 1); (have yc2 := e7.cell 2); (have yc3 := e7.cell 3); simp only [List.getElem?_toArray, List.getElem?_cons_zero, List.getElem?_cons_succ] at yc0 yc1 yc2 yc3
          obtain ⟨hT, hm⟩ := HTM.out
          have hc0 := HC0.out
          have g1' : T.pts.length ≤ 1000000 := by omega
          have g2' : m.length ≤ 1000000 := by omega
          have hTl : (mvT d T).pts.length = T.pts.length := mvP_len d T.pts
          have hml : (mvP d m).length = m.length := mvP_len d m
          have hTc : (mvT d T).closed = T.closed := rfl
          have hTo : (mvT d T).lo = T.lo := rfl
          have hTh : (mvT d T).hi = T.hi := rfl
          have xC' : Pts wr (some ⟨g1, 0, none⟩) (mvT d T).pts := xC
          have hRdy := fun (W : World) (h : Below wr.heap.size wr W) => ready_any (some ⟨g1, 0, none⟩) (some ⟨g2, 0, none⟩) ca1 ca2 (mvT d T) (mvP d m) W (xC'.below h) (by rw [hTl]; omega) (xP.below h) (by rw [hml]; omega)
          simp only [hTl, hml, hTc, hTo, hTh] at hRdy
          cases hr2 : rdyB (mvT d T) (mvP d m) with
          | false =>
            rw [hr2] at hRdy
            replace hRdy := Lib.hid hRdy
            clear hr2 hT hm hc0 hTl hml hTc hTo hTh xC' xC xP xa xb
            go_wp2_with (first | ((go_at_call 42); (with_reducible refine Calls.mono (hRdy.out _ (by (repeat (first | with_reducible exact Below.refl _ _ | with_reducible apply bl_alloc | with_reducible apply bl_drew | with_reducible apply bl_after | (with_reducible refine bl_call ?_ (by assumption)))))) ?_); rintro e wn ⟨rfl, hbn⟩; first | ((with_reducible apply kp_in_step (hb := hbn)); (with_reducible assumption); rintro ⟨hk, hc, hf, hzc, hzf⟩) | ((with_reducible refine kp_in_first hbn ?_); rintro ⟨hk, hc, hf, hzc, hzf⟩)) | ((go_at_call 14); (with_reducible refine Calls.mono (works_any _) ?_); rintro e wn ⟨rfl, hbn⟩; first | ((with_reducible apply kp_in_step (hb := hbn)); (with_reducible assumption); rintro ⟨hk, hc, hf, hzc, hzf⟩) | ((with_reducible refine kp_in_first hbn ?_); rintro ⟨hk, hc, hf, hzc, hzf⟩)))
            go_ret
            exact ⟨rfl, bl_call hbX (by (repeat (first | with_reducible exact Below.refl _ _ | with_reducible apply bl_alloc | with_reducible apply bl_drew | with_reducible apply bl_after | (with_reducible refine bl_call ?_ (by assumption)))))⟩
          | true =>
            rw [hr2] at hRdy
            replace hRdy := Lib.hid hRdy
            obtain ⟨hT2, hm2, hc2, -, -⟩ := rdy_parts hr2
            obtain ⟨v1, v2, v3⟩ := move_all (d := d) (T := T) (m := m) hm0
            have eO : opE (mvT d T) (mvP d m) = opE T m := opE_of hc2 hc0 (nil_of_len v1)
            have eM : mnV (mvT d T) (mvP d m) = mnV T m := by rw [mnV, mnV, if_pos hc2, if_pos hc0, v1]
            have eR : rolV (mvT d T) (mvP d m) = rolV T m := rolV_of eO v2
            have eL : lvV (mvT d T) (mvP d m) = lvV T m := (lvV_of eO.symm (fun h => (v3 h).symm) hc0).symm
            have eA := dbl_move d m
            have p0 : pat (mvP d m) 0 = ((pat m 0).1 + d.1, (pat m 0).2 + d.2) := mvP_at hm0
            have eP : plc (mvT d T) (pat (mvP d m) 0) = plc T (pat m 0) := by rw [p0]; exact plc_move _
            have hrl := rolV_len5 h5T h5m
            have hpl : (plc T (pat m 0)).length ≤ 8 := by have := plc_len T (pat m 0) T.pts.length; unfold plc; omega
            have hA1 := fun (W : World) (h : Below wr.heap.size wr W) => wArea_any (some ⟨bm, om, none⟩) cm m W (xb.below h) g2'
            rw [arV, arE, if_pos hm, if_pos hm] at hA1
            have hA2 := fun (W : World) (h : Below wr.heap.size wr W) => wArea_any (some ⟨g2, 0, none⟩) ca2 (mvP d m) W (xP.below h) (by rw [hml]; exact g2')
            rw [arV, arE, if_pos hm2, if_pos hm2, eA] at hA2
            have hM1 := fun (W : World) (h : Below wr.heap.size wr W) => Many_any (some ⟨b, o, none⟩) (some ⟨bm, om, none⟩) ca cm T m W (xa.below h) g1' (xb.below h) g2'
            have hM2 := fun (W : World) (h : Below wr.heap.size wr W) => Many_any (some ⟨g1, 0, none⟩) (some ⟨g2, 0, none⟩) ca1 ca2 (mvT d T) (mvP d m) W (xC'.below h) (by rw [hTl]; exact g1') (xP.below h) (by rw [hml]; exact g2')
            rw [eM, eO] at hM2
            have hR1 := fun (W : World) (h : Below wr.heap.size wr W) => Rolls_any (some ⟨b, o, none⟩) (some ⟨bm, om, none⟩) ca cm T m W (xa.below h) g1' (xb.below h) g2'
            have hR2 := fun (W : World) (h : Below wr.heap.size wr W) => Rolls_any (some ⟨g1, 0, none⟩) (some ⟨g2, 0, none⟩) ca1 ca2 (mvT d T) (mvP d m) W (xC'.below h) (by rw [hTl]; exact g1') (xP.below h) (by rw [hml]; exact g2')
            rw [eR, eO] at hR2
            have hL1 := fun (W : World) (h : Below wr.heap.size wr W) => Least_any (some ⟨b, o, none⟩) (some ⟨bm, om, none⟩) ca cm T m W (xa.below h) g1' (xb.below h) g2'
            have hL2 := fun (W : World) (h : Below wr.heap.size wr W) => Least_any (some ⟨g1, 0, none⟩) (some ⟨g2, 0, none⟩) ca1 ca2 (mvT d T) (mvP d m) W (xC'.below h) (by rw [hTl]; exact g1') (xP.below h) (by rw [hml]; exact g2')
            rw [eL, eO] at hL2
            have hC1 := fun (W : World) (h : Below wr.heap.size wr W) => Reach_ok (some ⟨b, o, none⟩) ca T (pat m 0) W (xa.below h) g1' hT ((walkB_bd hm).2 0 hm0)
            have hC2 := fun (W : World) (h : Below wr.heap.size wr W) => Reach_ok (some ⟨g1, 0, none⟩) ca1 (mvT d T) (pat (mvP d m) 0) W (xC'.below h) (by rw [hTl]; exact g1') hT2 ((walkB_bd hm2).2 0 (by rw [hml]; exact hm0))
            rw [eP, p0] at hC2
            simp only [hTl, hml, hTc, hTo, hTh] at hA2 hM2 hR2 hL2 hC2
            have hS1 := fun (A5 A6 : Option Addr) (c5 c6 : Nat) (W : World) (h1 : Ints W A5 (rolV T m)) (h2 : Ints W A6 (rolV T m)) => SameInts_any A5 A6 c5 c6 (rolV T m) (rolV T m) W h1 h2 (by omega) (by omega)
            have hS2 := fun (A5 A6 : Option Addr) (c5 c6 : Nat) (W : World) (h1 : Ints W A5 (plc T (pat m 0))) (h2 : Ints W A6 (plc T (pat m 0))) => SameInts_any A5 A6 c5 c6 (plc T (pat m 0)) (plc T (pat m 0)) W h1 h2 (by omega) (by omega)
            rw [decide_eq_true rfl] at hS1 hS2
            replace hA1 := Lib.hid hA1
            replace hA2 := Lib.hid hA2
            replace hM1 := Lib.hid hM1
            replace hM2 := Lib.hid hM2
            replace hR1 := Lib.hid hR1
            replace hR2 := Lib.hid hR2
            replace hL1 := Lib.hid hL1
            replace hL2 := Lib.hid hL2
            replace hC1 := Lib.hid hC1
            replace hC2 := Lib.hid hC2
            replace hS1 := Lib.hid hS1
            replace hS2 := Lib.hid hS2
            have q1 := (HQ.out.below hbX).xp hm0
            have q2 := (HQ.out.below hbX).yp hm0
            have q3 := (HQ.out.below hbX).lt
            obtain ⟨s1, s2, s3⟩ : g2 < wr.heap.size ∧ wr.cell? ⟨g2, 0 * 2, none⟩ = some (Value.int .i64 ((pat m 0).1 + d.1)) ∧ wr.cell? ⟨g2, 0 * 2 + 1, none⟩ = some (Value.int .i64 ((pat m 0).2 + d.2)) := by
              have h1 := xP.fix (k := 0) (by rw [hml]; exact hm0)
              have h2 := h1.xp (i := 0) (by rw [hml]; exact hm0)
              have h3 := h1.yp (i := 0) (by rw [hml]; exact hm0)
              rw [p0, Nat.zero_add] at h2 h3
              exact ⟨h1.lt, h2, h3⟩
            simp only [Nat.zero_mul, Nat.add_zero, Nat.zero_add] at q1 q2 s2 s3
            clear hr2 hT hm hc0 hTl hml hTc hTo hTh xC' xC xP xa xb eO eM eR eL eA eP p0 v1 v2 v3 hT2 hm2 hc2
            generalize rolV T m = ro at *
            generalize plc T (pat m 0) = pl at *
            generalize opE T m = op at *
            generalize mnV T m = mn at *
            generalize lvV T m = lv at *
            generalize pat m 0 = pz at *
            generalize dbl m = ar at *
            generalize wr = X at *
            go_wp2_with (first | ((go_at_call 42); (with_reducible refine Calls.mono (hRdy.out _ (by (repeat (first | with_reducible exact Below.refl _ _ | with_reducible apply bl_alloc | with_reducible apply bl_drew | with_reducible apply bl_after | (with_reducible refine bl_call ?_ (by assumption)))))) ?_); rintro e wn ⟨rfl, hbn⟩; first | ((with_reducible apply kp_in_step (hb := hbn)); (with_reducible assumption); rintro ⟨hk, hc, hf, hzc, hzf⟩) | ((with_reducible refine kp_in_first hbn ?_); rintro ⟨hk, hc, hf, hzc, hzf⟩)) | ((go_at_call 15); (with_reducible refine Calls.mono (hA1.out _ (by (repeat (first | with_reducible exact Below.refl _ _ | with_reducible apply bl_alloc | with_reducible apply bl_drew | with_reducible apply bl_after | (with_reducible refine bl_call ?_ (by assumption)))))) ?_); rintro e wn ⟨rfl, hbn⟩; first | ((with_reducible apply kp_in_step (hb := hbn)); (with_reducible assumption); rintro ⟨hk, hc, hf, hzc, hzf⟩) | ((with_reducible refine kp_in_first hbn ?_); rintro ⟨hk, hc, hf, hzc, hzf⟩)) | ((go_at_call 15); (with_reducible refine Calls.mono (hA2.out _ (by (repeat (first | with_reducible exact Below.refl _ _ | with_reducible apply bl_alloc | with_reducible apply bl_drew | with_reducible apply bl_after | (with_reducible refine bl_call ?_ (by assumption)))))) ?_); rintro e wn ⟨rfl, hbn⟩; first | ((with_reducible apply kp_in_step (hb := hbn)); (with_reducible assumption); rintro ⟨hk, hc, hf, hzc, hzf⟩) | ((with_reducible refine kp_in_first hbn ?_); rintro ⟨hk, hc, hf, hzc, hzf⟩)) | ((go_at_call 33); (with_reducible refine Calls.mono (hM1.out _ (by (repeat (first | with_reducible exact Below.refl _ _ | with_reducible apply bl_alloc | with_reducible apply bl_drew | with_reducible apply bl_after | (with_reducible refine bl_call ?_ (by assumption)))))) ?_); rintro e wn ⟨rfl, hbn⟩; first | ((with_reducible apply kp_in_step (hb := hbn)); (with_reducible assumption); rintro ⟨hk, hc, hf, hzc, hzf⟩) | ((with_reducible refine kp_in_first hbn ?_); rintro ⟨hk, hc, hf, hzc, hzf⟩)) | ((go_at_call 33); (with_reducible refine Calls.mono (hM2.out _ (by (repeat (first | with_reducible exact Below.refl _ _ | with_reducible apply bl_alloc | with_reducible apply bl_drew | with_reducible apply bl_after | (with_reducible refine bl_call ?_ (by assumption)))))) ?_); rintro e wn ⟨rfl, hbn⟩; first | ((with_reducible apply kp_in_step (hb := hbn)); (with_reducible assumption); rintro ⟨hk, hc, hf, hzc, hzf⟩) | ((with_reducible refine kp_in_first hbn ?_); rintro ⟨hk, hc, hf, hzc, hzf⟩)) | ((go_at_call 35); (with_reducible refine Calls.mono (hR1.out _ (by (repeat (first | with_reducible exact Below.refl _ _ | with_reducible apply bl_alloc | with_reducible apply bl_drew | with_reducible apply bl_after | (with_reducible refine bl_call ?_ (by assumption)))))) ?_); rintro e w5 ⟨⟨A5, c5, rfl, hN5⟩, hb5⟩; first | ((with_reducible apply kp_in_step (hb := hb5)); (with_reducible assumption); rintro ⟨hk, hc, hf, hzc, hzf⟩) | ((with_reducible refine kp_in_first hb5 ?_); rintro ⟨hk, hc, hf, hzc, hzf⟩)) | ((go_at_call 35); (with_reducible refine Calls.mono (hR2.out _ (by (repeat (first | with_reducible exact Below.refl _ _ | with_reducible apply bl_alloc | with_reducible apply bl_drew | with_reducible apply bl_after | (with_reducible refine bl_call ?_ (by assumption)))))) ?_); rintro e w6 ⟨⟨A6, c6, rfl, hN6⟩, hb6⟩; first | ((with_reducible apply kp_in_step (hb := hb6)); (with_reducible assumption); rintro ⟨hk, hc, hf, hzc, hzf⟩) | ((with_reducible refine kp_in_first hb6 ?_); rintro ⟨hk, hc, hf, hzc, hzf⟩)) | ((go_at_call 22); (with_reducible refine Calls.mono (hS1.out _ _ _ _ _ (hN5.ints.below (by (repeat (first | with_reducible exact Below.refl _ _ | with_reducible apply bl_alloc | with_reducible apply bl_drew | with_reducible apply bl_after | (with_reducible refine bl_call ?_ (by assumption)))))) (hN6.ints.below (by (repeat (first | with_reducible exact Below.refl _ _ | with_reducible apply bl_alloc | with_reducible apply bl_drew | with_reducible apply bl_after | (with_reducible refine bl_call ?_ (by assumption))))))) ?_); rintro e w7 ⟨rfl, hb7⟩; first | ((with_reducible apply kp_in_step (hb := hb7)); (with_reducible assumption); rintro ⟨hk, hc, hf, hzc, hzf⟩) | ((with_reducible refine kp_in_first hb7 ?_); rintro ⟨hk, hc, hf, hzc, hzf⟩)) | ((go_at_call 37); (with_reducible refine Calls.mono (hL1.out _ (by (repeat (first | with_reducible exact Below.refl _ _ | with_reducible apply bl_alloc | with_reducible apply bl_drew | with_reducible apply bl_after | (with_reducible refine bl_call ?_ (by assumption)))))) ?_); rintro e wn ⟨rfl, hbn⟩; first | ((with_reducible apply kp_in_step (hb := hbn)); (with_reducible assumption); rintro ⟨hk, hc, hf, hzc, hzf⟩) | ((with_reducible refine kp_in_first hbn ?_); rintro ⟨hk, hc, hf, hzc, hzf⟩)) | ((go_at_call 37); (with_reducible refine Calls.mono (hL2.out _ (by (repeat (first | with_reducible exact Below.refl _ _ | with_reducible apply bl_alloc | with_reducible apply bl_drew | with_reducible apply bl_after | (with_reducible refine bl_call ?_ (by assumption)))))) ?_); rintro e w8 ⟨rfl, hb8⟩; first | ((with_reducible apply kp_in_step (hb := hb8)); (with_reducible assumption); rintro ⟨hk, hc, hf, hzc, hzf⟩) | ((with_reducible refine kp_in_first hb8 ?_); rintro ⟨hk, hc, hf, hzc, hzf⟩)))
            refine wp_region_C (fun w' => ∃ z : After w8, w' = z.val) (by kernel_rfl) ?_; change wpAnyC _ _ _ _ _ _ _ (World.drew w8); (have hd0 : Below (w8).heap.size w8 (w8).drew := bl_drew (Below.refl _ _)); refine wpAnyC_take (i := 0) (v := ?v0u) rfl (by kernel_rfl) (by kernel_rfl) (by kernel_rfl) ?q0u rfl ?y0u ?r0u; (case q0u => exact fun _ _ _ h => h); (case y0u => ((rintro _ ⟨z, rfl⟩); (go_simp); (try with_reducible rfl))); simp only [Act.put, List.getElem_toArray, List.getElem_cons_succ, List.getElem_cons_zero, List.setIfInBounds_toArray, List.set_cons_succ, List.set_cons_zero]; refine wpAnyC_take (i := 1) (v := ?v1u) rfl (by kernel_rfl) (by kernel_rfl) (by kernel_rfl) ?q1u rfl ?y1u ?r1u; (case q1u => exact fun _ _ _ h => h); (case y1u => ((rintro _ ⟨z, rfl⟩); (go_simp); (try with_reducible rfl))); simp only [Act.put, List.getElem_toArray, List.getElem_cons_succ, List.getElem_cons_zero, List.setIfInBounds_toArray, List.set_cons_succ, List.set_cons_zero]; refine wpAnyC_take (i := 2) (v := ?v2u) rfl (by kernel_rfl) (by kernel_rfl) (by kernel_rfl) ?q2u rfl ?y2u ?r2u; (case q2u => exact fun _ _ _ h => h); (case y2u => ((rintro _ ⟨z, rfl⟩); (go_simp); (try with_reducible rfl))); simp only [Act.put, List.getElem_toArray, List.getElem_cons_succ, List.getElem_cons_zero, List.setIfInBounds_toArray, List.set_cons_succ, List.set_cons_zero]; refine wpAnyC_take (i := 3) (v := ?v3u) rfl (by kernel_rfl) (by kernel_rfl) (by kernel_rfl) ?q3u rfl ?y3u ?r3u; (case q3u => exact fun _ _ _ h => h); (case y3u => ((rintro _ ⟨z, rfl⟩); (go_simp); (try with_reducible rfl))); simp only [Act.put, List.getElem_toArray, List.getElem_cons_succ, List.getElem_cons_zero, List.setIfInBounds_toArray, List.set_cons_succ, List.set_cons_zero]; refine wpAnyC_one (i := 4) (by kernel_rfl) rfl ⟨⟨_, hd0⟩, rfl⟩ rfl (fun K hK => ?_); go_simp; go_at_call 26; (with_reducible refine Calls.mono (hC1.out _ (by (repeat (first | with_reducible exact Below.refl _ _ | with_reducible apply bl_alloc | with_reducible apply bl_drew | with_reducible apply bl_after | (with_reducible refine bl_call ?_ (by assumption)))))) ?_); rintro e w9 ⟨⟨A8, c8, rfl, hN8⟩, hbr9⟩; refine hK _ _ ?_; clear hK K; (have hb9 := hd0.trans (hbr9.mono hd0.size)); clear hbr9 hd0; refine wpAnyC_take (i := 5) (v := ?v5u) rfl (by kernel_rfl) (by kernel_rfl) (by kernel_rfl) ?q5u rfl ?y5u ?r5u; (case q5u => exact fun _ _ _ h => h); (case y5u => ((rintro _ ⟨z, rfl⟩); (go_simp); (try with_reducible rfl))); simp only [Act.put, List.getElem_toArray, List.getElem_cons_succ, List.getElem_cons_zero, List.setIfInBounds_toArray, List.set_cons_succ, List.set_cons_zero]; refine wpAnyC_take (i := 6) (v := ?v6u) rfl (by kernel_rfl) (by kernel_rfl) (by kernel_rfl) ?q6u rfl ?y6u ?r6u; (case q6u => exact fun _ _ _ h => h); (case y6u => ((rintro _ ⟨z, rfl⟩); (go_simp); (try with_reducible rfl))); simp only [Act.put, List.getElem_toArray, List.getElem_cons_succ, List.getElem_cons_zero, List.setIfInBounds_toArray, List.set_cons_succ, List.set_cons_zero]; refine wpAnyC_take (i := 7) (v := ?v7u) rfl (by kernel_rfl) (by kernel_rfl) (by kernel_rfl) ?q7u rfl ?y7u ?r7u; (case q7u => exact fun _ _ _ h => h); (case y7u => ((rintro _ ⟨z, rfl⟩); (go_simp); (try with_reducible rfl))); simp only [Act.put, List.getElem_toArray, List.getElem_cons_succ, List.getElem_cons_zero, List.setIfInBounds_toArray, List.set_cons_succ, List.set_cons_zero]; refine wpAnyC_take (i := 8) (v := ?v8u) rfl (by kernel_rfl) (by kernel_rfl) (by kernel_rfl) ?q8u rfl ?y8u ?r8u; (case q8u => exact fun _ _ _ h => h); (case y8u => ((rintro _ ⟨z, rfl⟩); (go_simp); (try with_reducible rfl))); simp only [Act.put, List.getElem_toArray, List.getElem_cons_succ, List.getElem_cons_zero, List.setIfInBounds_toArray, List.set_cons_succ, List.set_cons_zero]; refine wpAnyC_take (i := 9) (v := ?v9u) rfl (by kernel_rfl) (by kernel_rfl) (by kernel_rfl) ?q9u rfl ?y9u ?r9u; (case q9u => exact fun _ _ _ h => h); (case y9u => ((rintro _ ⟨z, rfl⟩); (go_simp); (try with_reducible rfl))); simp only [Act.put, List.getElem_toArray, List.getElem_cons_succ, List.getElem_cons_zero, List.setIfInBounds_toArray, List.set_cons_succ, List.set_cons_zero]; refine wpAnyC_done (by kernel_rfl) ⟨⟨_, hb9⟩, rfl⟩ ?_ _; first | ((with_reducible apply kp_in_step (hb := hb9)); (with_reducible assumption); rintro ⟨hk, hc, hf, hzc, hzf⟩) | ((with_reducible refine kp_in_first hb9 ?_); rintro ⟨hk, hc, hf, hzc, hzf⟩)
            go_wp2
            refine wp_region_C (fun w' => ∃ z : After w9, w' = z.val) (by kernel_rfl) ?_; change wpAnyC _ _ _ _ _ _ _ (World.drew w9); (have hd0 : Below (w9).heap.size w9 (w9).drew := bl_drew (Below.refl _ _)); refine wpAnyC_take (i := 0) (v := ?v0v) rfl (by kernel_rfl) (by kernel_rfl) (by kernel_rfl) ?q0v rfl ?y0v ?r0v; (case q0v => exact fun _ _ _ h => h); (case y0v => ((rintro _ ⟨z, rfl⟩); (go_simp); (try with_reducible rfl))); simp only [Act.put, List.getElem_toArray, List.getElem_cons_succ, List.getElem_cons_zero, List.setIfInBounds_toArray, List.set_cons_succ, List.set_cons_zero]; refine wpAnyC_take (i := 1) (v := ?v1v) rfl (by kernel_rfl) (by kernel_rfl) (by kernel_rfl) ?q1v rfl ?y1v ?r1v; (case q1v => exact fun _ _ _ h => h); (case y1v => ((rintro _ ⟨z, rfl⟩); (go_simp); (try with_reducible rfl))); simp only [Act.put, List.getElem_toArray, List.getElem_cons_succ, List.getElem_cons_zero, List.setIfInBounds_toArray, List.set_cons_succ, List.set_cons_zero]; refine wpAnyC_take (i := 2) (v := ?v2v) rfl (by kernel_rfl) (by kernel_rfl) (by kernel_rfl) ?q2v rfl ?y2v ?r2v; (case q2v => exact fun _ _ _ h => h); (case y2v => ((rintro _ ⟨z, rfl⟩); (go_simp); (try with_reducible rfl))); simp only [Act.put, List.getElem_toArray, List.getElem_cons_succ, List.getElem_cons_zero, List.setIfInBounds_toArray, List.set_cons_succ, List.set_cons_zero]; refine wpAnyC_take (i := 3) (v := ?v3v) rfl (by kernel_rfl) (by kernel_rfl) (by kernel_rfl) ?q3v rfl ?y3v ?r3v; (case q3v => exact fun _ _ _ h => h); (case y3v => ((rintro _ ⟨z, rfl⟩); (go_simp); (try with_reducible rfl))); simp only [Act.put, List.getElem_toArray, List.getElem_cons_succ, List.getElem_cons_zero, List.setIfInBounds_toArray, List.set_cons_succ, List.set_cons_zero]; refine wpAnyC_one (i := 4) (by kernel_rfl) rfl ⟨⟨_, hd0⟩, rfl⟩ rfl (fun K hK => ?_); go_simp; go_at_call 26; (with_reducible refine Calls.mono (hC2.out _ (by (repeat (first | with_reducible exact Below.refl _ _ | with_reducible apply bl_alloc | with_reducible apply bl_drew | with_reducible apply bl_after | (with_reducible refine bl_call ?_ (by assumption)))))) ?_); rintro e w11 ⟨⟨A10, c10, rfl, hN10⟩, hbr9⟩; refine hK _ _ ?_; clear hK K; (have hb11 := hd0.trans (hbr9.mono hd0.size)); clear hbr9 hd0; refine wpAnyC_take (i := 5) (v := ?v5v) rfl (by kernel_rfl) (by kernel_rfl) (by kernel_rfl) ?q5v rfl ?y5v ?r5v; (case q5v => exact fun _ _ _ h => h); (case y5v => ((rintro _ ⟨z, rfl⟩); (go_simp); (try with_reducible rfl))); simp only [Act.put, List.getElem_toArray, List.getElem_cons_succ, List.getElem_cons_zero, List.setIfInBounds_toArray, List.set_cons_succ, List.set_cons_zero]; refine wpAnyC_take (i := 6) (v := ?v6v) rfl (by kernel_rfl) (by kernel_rfl) (by kernel_rfl) ?q6v rfl ?y6v ?r6v; (case q6v => exact fun _ _ _ h => h); (case y6v => ((rintro _ ⟨z, rfl⟩); (go_simp); (try with_reducible rfl))); simp only [Act.put, List.getElem_toArray, List.getElem_cons_succ, List.getElem_cons_zero, List.setIfInBounds_toArray, List.set_cons_succ, List.set_cons_zero]; refine wpAnyC_take (i := 7) (v := ?v7v) rfl (by kernel_rfl) (by kernel_rfl) (by kernel_rfl) ?q7v rfl ?y7v ?r7v; (case q7v => exact fun _ _ _ h => h); (case y7v => ((rintro _ ⟨z, rfl⟩); (go_simp); (try with_reducible rfl))); simp only [Act.put, List.getElem_toArray, List.getElem_cons_succ, List.getElem_cons_zero, List.setIfInBounds_toArray, List.set_cons_succ, List.set_cons_zero]; refine wpAnyC_take (i := 8) (v := ?v8v) rfl (by kernel_rfl) (by kernel_rfl) (by kernel_rfl) ?q8v rfl ?y8v ?r8v; (case q8v => exact fun _ _ _ h => h); (case y8v => ((rintro _ ⟨z, rfl⟩); (go_simp); (try with_reducible rfl))); simp only [Act.put, List.getElem_toArray, List.getElem_cons_succ, List.getElem_cons_zero, List.setIfInBounds_toArray, List.set_cons_succ, List.set_cons_zero]; refine wpAnyC_take (i := 9) (v := ?v9v) rfl (by kernel_rfl) (by kernel_rfl) (by kernel_rfl) ?q9v rfl ?y9v ?r9v; (case q9v => exact fun _ _ _ h => h); (case y9v => ((rintro _ ⟨z, rfl⟩); (go_simp); (try with_reducible rfl))); simp only [Act.put, List.getElem_toArray, List.getElem_cons_succ, List.getElem_cons_zero, List.setIfInBounds_toArray, List.set_cons_succ, List.set_cons_zero]; refine wpAnyC_done (by kernel_rfl) ⟨⟨_, hb11⟩, rfl⟩ ?_ _; first | ((with_reducible apply kp_in_step (hb := hb11)); (with_reducible assumption); rintro ⟨hk, hc, hf, hzc, hzf⟩) | ((with_reducible refine kp_in_first hb11 ?_); rintro ⟨hk, hc, hf, hzc, hzf⟩)
            go_wp2_with (first | ((go_at_call 22); (with_reducible refine Calls.mono (hS2.out _ _ _ _ _ (hN8.below (by (repeat (first | with_reducible exact Below.refl _ _ | with_reducible apply bl_alloc | with_reducible apply bl_drew | with_reducible apply bl_after | (with_reducible refine bl_call ?_ (by assumption)))))) (hN10.below (by (repeat (first | with_reducible exact Below.refl _ _ | with_reducible apply bl_alloc | with_reducible apply bl_drew | with_reducible apply bl_after | (with_reducible refine bl_call ?_ (by assumption))))))) ?_); rintro e w12 ⟨rfl, hb12⟩; first | ((with_reducible apply kp_in_step (hb := hb12)); (with_reducible assumption); rintro ⟨hk, hc, hf, hzc, hzf⟩) | ((with_reducible refine kp_in_first hb12 ?_); rintro ⟨hk, hc, hf, hzc, hzf⟩)) | ((go_at_call 14); (with_reducible refine Calls.mono (works_any _) ?_); rintro e wn ⟨rfl, hbn⟩; first | ((with_reducible apply kp_in_step (hb := hbn)); (with_reducible assumption); rintro ⟨hk, hc, hf, hzc, hzf⟩) | ((with_reducible refine kp_in_first hbn ?_); rintro ⟨hk, hc, hf, hzc, hzf⟩)))
            go_ret
            exact ⟨rfl, bl_call hbX (by (repeat (first | with_reducible exact Below.refl _ _ | with_reducible apply bl_alloc | with_reducible apply bl_drew | with_reducible apply bl_after | (with_reducible refine bl_call ?_ (by assumption)))))⟩
end Go.Proofs.Ytfgplmgkejeoiaa
namespace Go.Proofs.Ytfgplmgkejeoiaa
open Go.ChangeShapes Go.WideShapes Go.RowKit
attribute [local go_sem] After.cell After.frozen

set_option maxRecDepth 100000 in
set_option maxHeartbeats 2000000 in
theorem mov_off (A B : Option Addr) (ca cb : Nat) (T : Trk) (m : List Pt) (d : Pt) (w : World) (ha : Pts w A T.pts) (hla : T.pts.length ≤ 9223372036854775807) (hb : Pts w B m) (hlb : m.length ≤ 9223372036854775807)
    (hbad : rdyB T m = false ∨ isPt d = false) :
    Calls Try.prog 9 #[(Value.agg #[.slice A T.pts.length ca, (Value.int .i64 (T.closed)), (Value.int .i64 (T.lo)), (Value.int .i64 (T.hi))]), .slice B m.length cb, (Value.agg #[.int .i64 d.1, .int .i64 d.2])] w fun e w' => e = .returned (.bool true) ∧ Below w.heap.size w w' := by
  have hR := fun (W : World) (h : Below w.heap.size w W) => ready_any A B ca cb T m W (ha.below h) hla (hb.below h) hlb
  have hI := r5IsPoint_any d
  have e3 : Blk ((w.alloc (.cells #[.slice A T.pts.length ca, (Value.int .i64 (T.closed)), (Value.int .i64 (T.lo)), (Value.int .i64 (T.hi))] 36)).alloc (.cells #[(Value.int .i64 (d.1)), (Value.int .i64 (d.2))] 31)) w.heap.size 36 #[.slice A T.pts.length ca, (Value.int .i64 (T.closed)), (Value.int .i64 (T.lo)), (Value.int .i64 (T.hi))] := (Blk.new _ _ _).alloc _
  have e5 : Blk ((w.alloc (.cells #[.slice A T.pts.length ca, (Value.int .i64 (T.closed)), (Value.int .i64 (T.lo)), (Value.int .i64 (T.hi))] 36)).alloc (.cells #[(Value.int .i64 (d.1)), (Value.int .i64 (d.2))] 31)) (w.heap.size + 1) 31 #[(Value.int .i64 (d.1)), (Value.int .i64 (d.2))] := Blk.new_at (by simp)
  (have la := e3.lt); (have ya0 := e3.cell 0); (have ya1 := e3.cell 1); (have ya2 := e3.cell 2); (have ya3 := e3.cell 3); simp only [List.getElem?_toArray, List.getElem?_cons_zero, List.getElem?_cons_succ] at ya0 ya1 ya2 ya3
  have l5 := e5.lt
  have y50 := e5.cell 0
  have y51 := e5.cell 1
  simp only [List.getElem?_toArray, List.getElem?_cons_zero, List.getElem?_cons_succ] at y50 y51
  clear ha hb
  cases hr : rdyB T m with
  | false =>
    rw [hr] at hR
    replace hR := Lib.hid hR
    clear hr hbad hI
    go_enter Try.func9, Try.ntmps9
    go_wp2_with (first | ((go_at_call 42); (with_reducible refine Calls.mono (hR.out _ (by (repeat (first | with_reducible exact Below.refl _ _ | with_reducible apply bl_alloc | with_reducible apply bl_drew | with_reducible apply bl_after | (with_reducible refine bl_call ?_ (by assumption)))))) ?_); rintro e wn ⟨rfl, hbn⟩; first | ((with_reducible apply kp_in_step (hb := hbn)); (with_reducible assumption); rintro ⟨hk, hc, hf, hzc, hzf⟩) | ((with_reducible refine kp_in_first hbn ?_); rintro ⟨hk, hc, hf, hzc, hzf⟩)) | ((go_at_call 14); (with_reducible refine Calls.mono (works_any _) ?_); rintro e wn ⟨rfl, hbn⟩; first | ((with_reducible apply kp_in_step (hb := hbn)); (with_reducible assumption); rintro ⟨hk, hc, hf, hzc, hzf⟩) | ((with_reducible refine kp_in_first hbn ?_); rintro ⟨hk, hc, hf, hzc, hzf⟩)))
    go_ret
    exact ⟨rfl, by (repeat (first | with_reducible exact Below.refl _ _ | with_reducible apply bl_alloc | with_reducible apply bl_drew | with_reducible apply bl_after | (with_reducible refine bl_call ?_ (by assumption))))⟩
  | true =>
    rw [hr] at hR
    replace hR := Lib.hid hR
    have hd : isPt d = false := by
      rcases hbad with h | h
      · rw [hr] at h; cases h
      · exact h
    rw [hd] at hI
    replace hI := Lib.hid hI
    clear hr hbad hd
    go_enter Try.func9, Try.ntmps9
    go_wp2_with (first | ((go_at_call 42); (with_reducible refine Calls.mono (hR.out _ (by (repeat (first | with_reducible exact Below.refl _ _ | with_reducible apply bl_alloc | with_reducible apply bl_drew | with_reducible apply bl_after | (with_reducible refine bl_call ?_ (by assumption)))))) ?_); rintro e wn ⟨rfl, hbn⟩; first | ((with_reducible apply kp_in_step (hb := hbn)); (with_reducible assumption); rintro ⟨hk, hc, hf, hzc, hzf⟩) | ((with_reducible refine kp_in_first hbn ?_); rintro ⟨hk, hc, hf, hzc, hzf⟩)) | ((go_at_call 45); (with_reducible refine Calls.mono (hI.out _) ?_); rintro e wn ⟨rfl, hbn⟩; first | ((with_reducible apply kp_in_step (hb := hbn)); (with_reducible assumption); rintro ⟨hk, hc, hf, hzc, hzf⟩) | ((with_reducible refine kp_in_first hbn ?_); rintro ⟨hk, hc, hf, hzc, hzf⟩)) | ((go_at_call 14); (with_reducible refine Calls.mono (works_any _) ?_); rintro e wn ⟨rfl, hbn⟩; first | ((with_reducible apply kp_in_step (hb := hbn)); (with_reducible assumption); rintro ⟨hk, hc, hf, hzc, hzf⟩) | ((with_reducible refine kp_in_first hbn ?_); rintro ⟨hk, hc, hf, hzc, hzf⟩)))
    go_ret
    exact ⟨rfl, by (repeat (first | with_reducible exact Below.refl _ _ | with_reducible apply bl_alloc | with_reducible apply bl_drew | with_reducible apply bl_after | (with_reducible refine bl_call ?_ (by assumption))))⟩
theorem lawMoved_any (A B : Option Addr) (ca cb : Nat) (T : Trk) (m : List Pt) (d : Pt) (w : World) (ha : Pts w A T.pts) (hla : T.pts.length ≤ 9223372036854775807) (hb : Pts w B m) (hlb : m.length ≤ 9223372036854775807) :
    Calls Try.prog 9 #[(Value.agg #[.slice A T.pts.length ca, (Value.int .i64 (T.closed)), (Value.int .i64 (T.lo)), (Value.int .i64 (T.hi))]), .slice B m.length cb, (Value.agg #[.int .i64 d.1, .int .i64 d.2])] w fun e w' => e = .returned (.bool true) ∧ Below w.heap.size w w' := by
  by_cases hbad : rdyB T m = false ∨ isPt d = false
  · exact mov_off A B ca cb T m d w ha hla hb hlb hbad
  · rw [not_or, Bool.not_eq_false, Bool.not_eq_false] at hbad
    obtain ⟨hT, hm, _⟩ := rdy_parts hbad.1
    obtain ⟨b, o, rfl, hp⟩ := ha.at_ (k := 0) (by have := (trkB_bd hT).1; omega)
    obtain ⟨bm, om, rfl, hq⟩ := hb.at_ (k := 0) (by have := walkB_bd hm; omega)
    exact mov_in b o ca bm om cb T m d w hp hq hbad.1 hbad.2
section
open Go.ChangeAt
set_option maxRecDepth 100000 in
theorem walksMoved_lifted (os : Os) (started : os.Started) (H : Type) (enc : TypeId × Value → H) :
    ReturnsInHanded {} Try.checked os 9 .any (Rows.walksMovedSpec.pre6 enc Try.prog Try.f9 Rows.walksMovedRow.domain false) (Rows.walksMovedSpec.post enc Try.prog Try.f9 false true false false) := by
  refine returnsInHanded_of_change (C := Try.checked) own_knob started (by kernel_rfl) Try.func9
    (ChangeSpec.witness6 (enc := enc) (C := Try.checked) false ⟨#[], #[.agg #[.slice none 0 0, .int .i64 0, .int .i64 0, .int .i64 0], .slice none 0 0, .agg #[.int .i64 0, .int .i64 0]], []⟩ 8 (by kernel_rfl) (by kernel_rfl) (by kernel_rfl) (by kernel_rfl)) ?_
  intro W base args ds gs before hval0 hW hcnd _
  have hval : ∀ (j : Nat) t v, Try.f9.params[j]? = some t → args[j]? = some v → Value.okWide Try.prog W .any base t v := hval0
  have hW2 := hW
  obtain ⟨p, q, hA0, hV, rfl, hfz, hnd⟩ := hW
  have hA : DataW.TrodAll enc Try.prog W 0 (fun _ => true) true Try.f9.params.toList args.toList ds p := hA0
  rw [Try.params9] at hA hval
  obtain ⟨v0, v1, v2, d0, d1, d2, p0, p1, p2, rfl, rfl, rfl, h0, h1, h2⟩ := trodAll_three hA; obtain ⟨A, ca, T, rfl, hP0, hl0, hT1, hT2, hT3⟩ := open_track (hval 0 _ _ rfl rfl) h0; obtain ⟨B, cb, m, rfl, hP1, hl1⟩ := open_points (okWide_slice undPts (hval 1 _ _ rfl rfl)) h1; obtain ⟨pt, rfl, hq1, hq2⟩ := open_point (hval 2 _ _ rfl rfl) h2
  obtain ⟨rfl, rfl⟩ := trodVars_none hV
  clear hA0 hval0
  simp only [List.append_nil, List.nil_append] at hW2
  (try simp only [List.append_nil, List.nil_append] at hA)
  refine (lawMoved_any A B ca cb T m pt W hP0 hl0 hP1 hl1).mono fun e W2 ⟨he, hb⟩ => ?_
  subst he
  refine ⟨_, rfl, post_of_below (pa := _) (pv := []) hW2 (fun _ _ _ => trodAll_mk1 (shut_bool und_bool _)) (fun sp hs => args_stay hb (by rw [Try.params9]; intro t ht; simp at ht; (try rcases ht with rfl | rfl | rfl) <;> (try rcases ht with rfl | rfl) <;> (try subst ht) <;> exact ⟨by kernel_rfl, by decide +kernel⟩) (by rw [Try.params9]; exact hA) hs) (fun _ _ => rfl) (by simp) hb (ok_one (by kernel_rfl) rfl (okWide_bool_mk und_bool _))⟩

theorem walksMoved_holds : Rows.WalksMovedSaid :=
  OpenClaim.holds_of_wide 9 Try.f9 rfl rfl rfl rfl rfl rfl rfl ⟨rfl, rfl, rfl, rfl, rfl⟩ rfl rfl rfl rfl rfl (by kernel_rfl) Try.func9 (by kernel_rfl)
    (of_decide_eq_true (by kernel_rfl)) (by unfold Func.isWrapper; first | (rw [if_pos (by decide +kernel)]; kernel_rfl) | (rw [if_neg (by decide +kernel)]; exact ⟨rfl, rfl⟩))
    (fun os started H enc _ => walksMoved_lifted os started H enc)
end
end Go.Proofs.Ytfgplmgkejeoiaa
