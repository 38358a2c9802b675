/- The law WalksBack answers true for a valid track and walk of at most five places and points. -/
import Derived.Test.YtfgplmgkejeoiaaFewIn
import Derived.Test.YtfgplmgkejeoiaaRRol
import Derived.Test.YtfgplmgkejeoiaaQc
namespace Go.Proofs.Ytfgplmgkejeoiaa
open Go.RowKit
attribute [local go_sem] After.cell After.frozen

theorem walkB_rev {m : List Pt} (h : walkB m = true) : walkB m.reverse = true := by
  unfold walkB arePts at *
  rw [List.all_reverse, List.length_reverse]
  exact h
theorem trn_len (b : Int) (l : List Pt) : (trnP b l).length = l.length := by simp [trnP]
theorem walkB_trn {m : List Pt} (b : Int) (h : walkB m = true) : walkB (trnP b m) = true := by
  have h1 := walkB_bd h
  unfold walkB arePts at *
  rw [Bool.and_eq_true] at h ⊢
  refine ⟨?_, by rw [trn_len]; exact h.2⟩
  rw [List.all_eq_true]
  intro x hx
  simp only [trnP, List.mem_map, List.mem_range] at hx
  obtain ⟨i, hi, rfl⟩ := hx
  exact h1.2 _ (Nat.mod_lt _ (by omega))
theorem rol_rev {T : Trk} {m m' : List Pt} (h : ∀ x, x ∈ rolS T m' ↔ -x ∈ rolS T m) : rolS T m' = ((rolS T m).map fun x => -x).reverse := by
  unfold rolS at *
  rw [← srt_neg]
  refine srt_ext fun x => ?_
  have h1 := h x
  rw [mem_srt, mem_srt] at h1
  rw [h1, List.mem_map]
  exact ⟨fun h2 => ⟨-x, h2, by omega⟩, fun ⟨y, h2, h3⟩ => by rw [← h3, Int.neg_neg]; exact h2⟩
/-- What the functions tell of a walk, of it backwards, and of it from another point on. -/
structure Bk (T : Trk) (m : List Pt) (b : Int) : Prop where
  h1 : walkB m.reverse = true
  h2 : walkB (trnP b m) = true
  c1 : chkT T m.reverse = 0
  c2 : chkT T (trnP b m) = 0
  o1 : opE T m.reverse = opE T m
  o2 : opE T (trnP b m) = opE T m
  m1 : mnV T m.reverse = mnV T m
  m2 : mnV T (trnP b m) = mnV T m
  r1 : rolV T m.reverse = ((rolV T m).map fun x => -x).reverse
  r2 : rolV T (trnP b m) = rolV T m
  l1 : lvV T m.reverse = lvV T m
  l2 : lvV T (trnP b m) = lvV T m
  d1 : dbl m.reverse = -dbl m
  d2 : dbl (trnP b m) = dbl m
theorem bk_of {T : Trk} {m : List Pt} (b : Int) (hT : trkB T = true) (hm : walkB m = true) : Bk T m b := by
  have hm0 : 0 < m.length := by have := walkB_bd hm; omega
  have hc : chkT T m = 0 := chk_zero hT hm
  have hcl : T.closed = 1 → 3 ≤ T.pts.length := fun h => by
    have := (trkB_bd hT).2.2.1
    omega
  have c1 : chkT T m.reverse = 0 := chk_zero hT (walkB_rev hm)
  have c2 : chkT T (trnP b m) = 0 := chk_zero hT (walkB_trn b hm)
  obtain ⟨v1, v2, v3⟩ := rev_all (T := T) hm0 hcl
  obtain ⟨u1, u2, u3⟩ := rot_all (T := T) hm0 b.toNat
  have o1 : opE T m.reverse = opE T m := opE_of c1 hc (nil_of_len v1)
  have o2 : opE T (trnP b m) = opE T m := opE_of c2 hc (nil_of_len u1)
  refine ⟨walkB_rev hm, walkB_trn b hm, c1, c2, o1, o2, ?_, ?_, ?_, rolV_of o2 u2, (lvV_of o1.symm (fun h => (v3 h).symm) hc).symm, (lvV_of o2.symm (fun h => (u3 h).symm) hc).symm, dbl_rev m, dbl_rot b.toNat m⟩
  · rw [mnV, mnV, if_pos c1, if_pos hc, v1]
  · rw [mnV, mnV, if_pos c2, if_pos hc]
    exact congrArg (fun n : Nat => (n : Int)) u1
  · rw [rolV, rolV, o1]
    split
    · exact rol_rev v2
    · rfl
theorem rol_bd {T : Trk} {m : List Pt} (hT : trkB T = true) (hm : walkB m = true) : ∀ x ∈ rolV T m, -9000000000 ≤ x ∧ x ≤ 9000000000 := fun x hx => by
  rw [rolV] at hx
  split at hx
  · obtain ⟨y, hy, rfl⟩ := mem_rolS.1 hx
    have h1 := mem_elbs hy
    have htb := (trkB_bd hT).1
    have hmb := walkB_bd hm
    have h2 := swpTo_bd htb.2 hmb.2 h1.1 h1.2 y.length (Nat.le_refl _)
    unfold swp; omega
  · cases hx
theorem iat_rev {l : List Int} {k : Nat} (h : k < l.length) : iat ((l.map fun x => -x).reverse) (l.length - 1 - k) = -iat l k := by
  have h1 : l.length - 1 - k < ((l.map fun x => -x).reverse).length := by rw [List.length_reverse, List.length_map]; omega
  rw [← iat_eq h1, ← iat_eq h, List.getElem_reverse, List.getElem_map]
  have : (l.map fun x => -x).length - 1 - (l.length - 1 - k) = k := by rw [List.length_map]; omega
  simp only [this]
theorem rev_takeI {l : List Int} {k : Nat} (h : k < l.length) : l.reverse.take (k + 1) = l.reverse.take k ++ [iat l (l.length - 1 - k)] := by
  rw [List.take_add_one, List.getElem?_reverse h, List.getElem?_eq_getElem (by omega), iat_eq (by omega)]
  rfl
/-- What the functions tell of elbows, and of them backwards. -/
theorem bk_elbs {T : Trk} {m : List Pt} {l : List Int} (hT : trkB T = true) (hm : walkB m = true) (h : areB T m l = true) :
    tldE T m l = 0 ∧ tldE T m.reverse l.reverse = 0 ∧ swV T m.reverse l.reverse = -swV T m l ∧ tnV T m.reverse l.reverse = -tnV T m l ∧ swV T m l ∈ rolV T m := by
  have hm0 : 0 < m.length := by have := walkB_bd hm; omega
  have hc : chkT T m = 0 := chk_zero hT hm
  have hcl : T.closed = 1 → 3 ≤ T.pts.length := fun h => by
    have := (trkB_bd hT).2.2.1
    omega
  obtain ⟨x, rfl, hx⟩ := are_elbs hm0 h
  obtain ⟨k1, k2, -, k4⟩ := elbs_rev hm0 hcl hx
  obtain ⟨a1, a2, a3⟩ := sw_elbs hc hm0 hx
  obtain ⟨b1, b2, -⟩ := sw_elbs (chk_zero hT (walkB_rev hm)) (by simpa using hm0) k1
  have er : (ints x).reverse = ints x.reverse := by simp [ints]
  rw [er]
  refine ⟨a1, b1, by rw [b2, a2, k2], ?_, by rw [a2]; exact a3 ((opE_nil hc).2 fun e => by rw [e] at hx; cases hx)⟩
  rw [tnV, tnV, if_pos a1, if_pos b1, nat_ints, nat_ints, k4]
  split
  · rfl
  · exact Int.neg_tdiv _ _

set_option maxRecDepth 100000 in
set_option maxHeartbeats 8000000 in
theorem back_in (b o ca bm om cm : Nat) (E : Option Addr) (ce : Nat) (T : Trk) (m : List Pt) (n : Int) (l : List Int) (w : World) (hp : PtsAt w b o T.pts) (hq : PtsAt w bm om m) (he : Ints w E l) (hle : l.length ≤ 40) (hr : rdyB T m = true) (hn0 : 0 ≤ n) (hn1 : n ≤ 100) :
    Calls Try.prog 12 #[(Value.agg #[.slice (some ⟨b, o, none⟩) T.pts.length ca, (Value.int .i64 (T.closed)), (Value.int .i64 (T.lo)), (Value.int .i64 (T.hi))]), .slice (some ⟨bm, om, none⟩) m.length cm, .agg #[(Value.int .i64 (n)), .slice E l.length ce]] w fun e w' => e = .returned (.bool true) ∧ Below w.heap.size w w' := by
  obtain ⟨hT, hm, hc0, h5T, h5m⟩ := rdy_parts hr
  have hm0 : 0 < m.length := by have := walkB_bd hm; omega
  have d1 : T.pts.length ≤ 1000000 := by omega
  have d2 : m.length ≤ 1000000 := by omega
  have e3 : Blk ((w.alloc (.cells #[.slice (some ⟨b, o, none⟩) T.pts.length ca, (Value.int .i64 (T.closed)), (Value.int .i64 (T.lo)), (Value.int .i64 (T.hi))] 36)).alloc (.cells #[(Value.int .i64 (n)), .slice E l.length ce] 63)) w.heap.size 36 #[.slice (some ⟨b, o, none⟩) T.pts.length ca, (Value.int .i64 (T.closed)), (Value.int .i64 (T.lo)), (Value.int .i64 (T.hi))] := (Blk.new _ _ _).alloc _
  have e5 : Blk ((w.alloc (.cells #[.slice (some ⟨b, o, none⟩) T.pts.length ca, (Value.int .i64 (T.closed)), (Value.int .i64 (T.lo)), (Value.int .i64 (T.hi))] 36)).alloc (.cells #[(Value.int .i64 (n)), .slice E l.length ce] 63)) (w.heap.size + 1) 63 #[(Value.int .i64 (n)), .slice E l.length ce] := Blk.new_at (by simp)
  have hbX : Below w.heap.size w ((w.alloc (.cells #[.slice (some ⟨b, o, none⟩) T.pts.length ca, (Value.int .i64 (T.closed)), (Value.int .i64 (T.lo)), (Value.int .i64 (T.hi))] 36)).alloc (.cells #[(Value.int .i64 (n)), .slice E l.length ce] 63)) := by (repeat (first | with_reducible exact Below.refl _ _ | with_reducible apply bl_alloc | with_reducible apply bl_drew | with_reducible apply bl_after | (with_reducible refine bl_call ?_ (by assumption))))
  have xa : Pts ((w.alloc (.cells #[.slice (some ⟨b, o, none⟩) T.pts.length ca, (Value.int .i64 (T.closed)), (Value.int .i64 (T.lo)), (Value.int .i64 (T.hi))] 36)).alloc (.cells #[(Value.int .i64 (n)), .slice E l.length ce] 63)) (some ⟨b, o, none⟩) T.pts := .inr ⟨b, o, rfl, hp.below hbX⟩
  have xb : Pts ((w.alloc (.cells #[.slice (some ⟨b, o, none⟩) T.pts.length ca, (Value.int .i64 (T.closed)), (Value.int .i64 (T.lo)), (Value.int .i64 (T.hi))] 36)).alloc (.cells #[(Value.int .i64 (n)), .slice E l.length ce] 63)) (some ⟨bm, om, none⟩) m := .inr ⟨bm, om, rfl, hq.below hbX⟩
  have xe := he.below hbX
  have xp := hp.below hbX
  have xq := hq.below hbX
  have hRdy := fun (W : World) (h : Below (((w.alloc (.cells #[.slice (some ⟨b, o, none⟩) T.pts.length ca, (Value.int .i64 (T.closed)), (Value.int .i64 (T.lo)), (Value.int .i64 (T.hi))] 36)).alloc (.cells #[(Value.int .i64 (n)), .slice E l.length ce] 63))).heap.size ((w.alloc (.cells #[.slice (some ⟨b, o, none⟩) T.pts.length ca, (Value.int .i64 (T.closed)), (Value.int .i64 (T.lo)), (Value.int .i64 (T.hi))] 36)).alloc (.cells #[(Value.int .i64 (n)), .slice E l.length ce] 63)) W) => ready_any (some ⟨b, o, none⟩) (some ⟨bm, om, none⟩) ca cm T m W (xa.below h) (by omega) (xb.below h) (by omega)
  rw [hr] at hRdy
  have hBk := fun (W : World) (h : Below (((w.alloc (.cells #[.slice (some ⟨b, o, none⟩) T.pts.length ca, (Value.int .i64 (T.closed)), (Value.int .i64 (T.lo)), (Value.int .i64 (T.hi))] 36)).alloc (.cells #[(Value.int .i64 (n)), .slice E l.length ce] 63))).heap.size ((w.alloc (.cells #[.slice (some ⟨b, o, none⟩) T.pts.length ca, (Value.int .i64 (T.closed)), (Value.int .i64 (T.lo)), (Value.int .i64 (T.hi))] 36)).alloc (.cells #[(Value.int .i64 (n)), .slice E l.length ce] 63)) W) => back_any (some ⟨bm, om, none⟩) cm m W (xb.below h) (by omega)
  have hTu := fun (W : World) (h : Below (((w.alloc (.cells #[.slice (some ⟨b, o, none⟩) T.pts.length ca, (Value.int .i64 (T.closed)), (Value.int .i64 (T.lo)), (Value.int .i64 (T.hi))] 36)).alloc (.cells #[(Value.int .i64 (n)), .slice E l.length ce] 63))).heap.size ((w.alloc (.cells #[.slice (some ⟨b, o, none⟩) T.pts.length ca, (Value.int .i64 (T.closed)), (Value.int .i64 (T.lo)), (Value.int .i64 (T.hi))] 36)).alloc (.cells #[(Value.int .i64 (n)), .slice E l.length ce] 63)) W) => turned_any (some ⟨bm, om, none⟩) cm m n W (xb.below h) (by omega) hn0 (by omega)
  have HB := Lib.hid (bk_of n hT hm)
  have HTM := Lib.hid (And.intro hT hm)
  have HC0 := Lib.hid hc0
  replace hRdy := Lib.hid hRdy
  replace hBk := Lib.hid hBk
  replace hTu := Lib.hid hTu
  have HE := Lib.hid (And.intro e3 e5)
  clear hp hq he hT hm hc0 hr
  (have la := e3.lt); (have ya0 := e3.cell 0); (have ya1 := e3.cell 1); (have ya2 := e3.cell 2); (have ya3 := e3.cell 3); simp only [List.getElem?_toArray, List.getElem?_cons_zero, List.getElem?_cons_succ] at ya0 ya1 ya2 ya3
  have lc := e5.lt
  have yc0 := e5.cell 0
  have yc1 := e5.cell 1
  simp only [List.getElem?_toArray, List.getElem?_cons_zero, List.getElem?_cons_succ] at yc0 yc1
  go_enter Try.func12, Try.ntmps12
  go_wp2_with fail
  generalize ((w.alloc (.cells #[.slice (some ⟨b, o, none⟩) T.pts.length ca, (Value.int .i64 (T.closed)), (Value.int .i64 (T.lo)), (Value.int .i64 (T.hi))] 36)).alloc (.cells #[(Value.int .i64 (n)), .slice E l.length ce] 63)) = X at *
  clear e3 e5
  go_upto_region 3 with (first | ((go_at_call 42); (with_reducible refine Calls.mono (hRdy.out _ (by (repeat (first | with_reducible exact Below.refl _ _ | with_reducible apply bl_alloc | with_reducible apply bl_drew | with_reducible apply bl_after | (with_reducible refine bl_call ?_ (by assumption)))))) ?_); rintro e wn ⟨rfl, hbn⟩; first | ((with_reducible apply kp_in_step (hb := hbn)); (with_reducible assumption); rintro ⟨hk, hc, hf, hzc, hzf⟩) | ((with_reducible refine kp_in_first hbn ?_); rintro ⟨hk, hc, hf, hzc, hzf⟩)))
  refine wp_region_C (fun w' => ∃ z : After wn, w' = z.val) (by kernel_rfl) ?_
  change wpAnyC _ _ _ _ _ _ _ (World.drew wn)
  have hd0 : Below wn.heap.size wn wn.drew := bl_drew (Below.refl _ _)
  refine wpAnyC_take (i := 0) (v := ?v0u) rfl (by kernel_rfl) (by kernel_rfl) (by kernel_rfl) ?q0u rfl ?y0u ?r0u; (case q0u => exact fun _ _ _ h => h); (case y0u => ((rintro _ ⟨z, rfl⟩); (go_simp); (try with_reducible rfl))); simp only [Act.put, List.getElem_toArray, List.getElem_cons_succ, List.getElem_cons_zero, List.setIfInBounds_toArray, List.set_cons_succ, List.set_cons_zero]
  refine wpAnyC_take (i := 2) (v := ?v2u) rfl (by kernel_rfl) (by kernel_rfl) (by kernel_rfl) ?q2u rfl ?y2u ?r2u; (case q2u => exact fun _ _ _ h => h); (case y2u => ((rintro _ ⟨z, rfl⟩); (go_simp); (try with_reducible rfl))); simp only [Act.put, List.getElem_toArray, List.getElem_cons_succ, List.getElem_cons_zero, List.setIfInBounds_toArray, List.set_cons_succ, List.set_cons_zero]
  refine wpAnyC_take (i := 3) (v := ?v3u) rfl (by kernel_rfl) (by kernel_rfl) (by kernel_rfl) ?q3u rfl ?y3u ?r3u; (case q3u => exact fun _ _ _ h => h); (case y3u => ((rintro _ ⟨z, rfl⟩); (go_simp); (try with_reducible rfl))); simp only [Act.put, List.getElem_toArray, List.getElem_cons_succ, List.getElem_cons_zero, List.setIfInBounds_toArray, List.set_cons_succ, List.set_cons_zero]
  refine wpAnyC_take (i := 4) (v := ?v4u) rfl (by kernel_rfl) (by kernel_rfl) (by kernel_rfl) ?q4u rfl ?y4u ?r4u; (case q4u => exact fun _ _ _ h => h); (case y4u => ((rintro _ ⟨z, rfl⟩); (go_simp); (try with_reducible rfl))); simp only [Act.put, List.getElem_toArray, List.getElem_cons_succ, List.getElem_cons_zero, List.setIfInBounds_toArray, List.set_cons_succ, List.set_cons_zero]
  refine wpAnyC_one (i := 1) (by kernel_rfl) rfl ⟨⟨_, hd0⟩, rfl⟩ rfl (fun K hK => ?_)
  go_simp
  go_at_call 47
  (with_reducible refine Calls.mono (hBk.out _ (by (repeat (first | with_reducible exact Below.refl _ _ | with_reducible apply bl_alloc | with_reducible apply bl_drew | with_reducible apply bl_after | (with_reducible refine bl_call ?_ (by assumption)))))) ?_)
  rintro e w1 ⟨⟨A1, c1, rfl, hP1⟩, hb1⟩
  refine hK _ _ ?_
  clear hK K
  have hd1 := hd0.trans (hb1.mono hd0.size)
  refine wpAnyC_one (i := 5) (by kernel_rfl) rfl ⟨⟨_, hd1⟩, rfl⟩ rfl (fun K hK => ?_)
  go_simp
  go_at_call 48
  (with_reducible refine Calls.mono (hTu.out _ (by (repeat (first | with_reducible exact Below.refl _ _ | with_reducible apply bl_alloc | with_reducible apply bl_drew | with_reducible apply bl_after | (with_reducible refine bl_call ?_ (by assumption)))))) ?_)
  rintro e w2 ⟨⟨A2, c2, rfl, hP2⟩, hb2⟩
  refine hK _ _ ?_
  clear hK K
  have hd2 := hd1.trans (hb2.mono hd1.size)
  refine wpAnyC_take (i := 6) (v := ?v6u) rfl (by kernel_rfl) (by kernel_rfl) (by kernel_rfl) ?q6u rfl ?y6u ?r6u; (case q6u => exact fun _ _ _ h => h); (case y6u => ((rintro _ ⟨z, rfl⟩); (go_simp); (try with_reducible rfl))); simp only [Act.put, List.getElem_toArray, List.getElem_cons_succ, List.getElem_cons_zero, List.setIfInBounds_toArray, List.set_cons_succ, List.set_cons_zero]
  refine wpAnyC_take (i := 7) (v := ?v7u) rfl (by kernel_rfl) (by kernel_rfl) (by kernel_rfl) ?q7u rfl ?y7u ?r7u; (case q7u => exact fun _ _ _ h => h); (case y7u => ((rintro _ ⟨z, rfl⟩); (go_simp); (try with_reducible rfl))); simp only [Act.put, List.getElem_toArray, List.getElem_cons_succ, List.getElem_cons_zero, List.setIfInBounds_toArray, List.set_cons_succ, List.set_cons_zero]
  refine wpAnyC_done (by kernel_rfl) ⟨⟨_, hd2⟩, rfl⟩ ?_ _
  have hXY : Below X.heap.size X w2 := bl_call hk.b hd2
  replace hP1 := hP1.below hb2
  have e3y := HE.out.1.below hXY
  have e5y := HE.out.2.below hXY
  have hbY : Below w.heap.size w w2 := bl_call hbX hXY
  have ya := xa.below hXY
  have yb := xb.below hXY
  have ye := xe.below hXY
  have yp := xp.below hXY
  have yq := xq.below hXY
  clear xa xb xe xp xq HE hXY hbX hd2 hd1 hd0 hb2 hb1 hbn hRdy hBk hTu la ya0 ya1 ya2 ya3 lc yc0 yc1
  ((try clear hk hc hf hzc hzf); (try clear hk hc hf hzc hzf); (try clear hk hc hf hzc hzf); (try clear hk hc hf hzc hzf))
  obtain ⟨hT, hm⟩ := HTM.out
  have hB := HB.out
  have hab := dbl_bd (walkB_bd hm).2 (by omega)
  have hrb := rol_bd hT hm
  have hrl := rolV_len5 h5T h5m
  have hrL : (((rolV T m).map fun x => -x).reverse).length = (rolV T m).length := by rw [List.length_reverse, List.length_map]
  have l1 : m.reverse.length = m.length := List.length_reverse
  have l2 : (trnP n m).length = m.length := trn_len n m
  have hA1 := fun (W : World) (h : Below w2.heap.size w2 W) => wArea_any (some ⟨bm, om, none⟩) cm m W (yb.below h) d2
  rw [arV, arE, if_pos hm, if_pos hm] at hA1
  have hA2 := fun (W : World) (h : Below w2.heap.size w2 W) => wArea_any A1 c1 m.reverse W (hP1.below h) (by rw [l1]; exact d2)
  rw [arV, arE, if_pos hB.h1, if_pos hB.h1, hB.d1] at hA2
  have hA3 := fun (W : World) (h : Below w2.heap.size w2 W) => wArea_any A2 c2 (trnP n m) W (hP2.below h) (by rw [l2]; exact d2)
  rw [arV, arE, if_pos hB.h2, if_pos hB.h2, hB.d2] at hA3
  have hM1 := fun (W : World) (h : Below w2.heap.size w2 W) => Many_any (some ⟨b, o, none⟩) (some ⟨bm, om, none⟩) ca cm T m W (ya.below h) d1 (yb.below h) d2
  have hM2 := fun (W : World) (h : Below w2.heap.size w2 W) => Many_any (some ⟨b, o, none⟩) A1 ca c1 T m.reverse W (ya.below h) d1 (hP1.below h) (by rw [l1]; exact d2)
  rw [hB.m1, hB.o1] at hM2
  have hM3 := fun (W : World) (h : Below w2.heap.size w2 W) => Many_any (some ⟨b, o, none⟩) A2 ca c2 T (trnP n m) W (ya.below h) d1 (hP2.below h) (by rw [l2]; exact d2)
  rw [hB.m2, hB.o2] at hM3
  have hR1 := fun (W : World) (h : Below w2.heap.size w2 W) => Rolls_any (some ⟨b, o, none⟩) (some ⟨bm, om, none⟩) ca cm T m W (ya.below h) d1 (yb.below h) d2
  have hR2 := fun (W : World) (h : Below w2.heap.size w2 W) => Rolls_any (some ⟨b, o, none⟩) A1 ca c1 T m.reverse W (ya.below h) d1 (hP1.below h) (by rw [l1]; exact d2)
  rw [hB.r1, hB.o1, hrL] at hR2
  have hR3 := fun (W : World) (h : Below w2.heap.size w2 W) => Rolls_any (some ⟨b, o, none⟩) A2 ca c2 T (trnP n m) W (ya.below h) d1 (hP2.below h) (by rw [l2]; exact d2)
  rw [hB.r2, hB.o2] at hR3
  have hL1 := fun (W : World) (h : Below w2.heap.size w2 W) => Least_any (some ⟨b, o, none⟩) (some ⟨bm, om, none⟩) ca cm T m W (ya.below h) d1 (yb.below h) d2
  have hL2 := fun (W : World) (h : Below w2.heap.size w2 W) => Least_any (some ⟨b, o, none⟩) A1 ca c1 T m.reverse W (ya.below h) d1 (hP1.below h) (by rw [l1]; exact d2)
  rw [hB.l1, hB.o1] at hL2
  have hL3 := fun (W : World) (h : Below w2.heap.size w2 W) => Least_any (some ⟨b, o, none⟩) A2 ca c2 T (trnP n m) W (ya.below h) d1 (hP2.below h) (by rw [l2]; exact d2)
  rw [hB.l2, hB.o2] at hL3
  simp only [l1, l2] at hA2 hA3 hM2 hM3 hR2 hR3 hL2 hL3
  have hK := isKnown_any (opE T m)
  rw [show knownB (opE T m) = true by unfold knownB; rw [decide_eq_true_eq]; exact opE_known HC0.out] at hK
  have hS1 := fun (A5 A6 : Option Addr) (c5 c6 : Nat) (W : World) (h1 : Ints W A5 (rolV T m)) (h2 : Ints W A6 (rolV T m)) => SameInts_any A5 A6 c5 c6 (rolV T m) (rolV T m) W h1 h2 (by omega) (by omega)
  rw [decide_eq_true rfl] at hS1
  have z1 := wrap64_in (x := -dbl m) (by omega) (by omega)
  replace hA1 := Lib.hid hA1
  replace hA2 := Lib.hid hA2
  replace hA3 := Lib.hid hA3
  replace hM1 := Lib.hid hM1
  replace hM2 := Lib.hid hM2
  replace hM3 := Lib.hid hM3
  replace hR1 := Lib.hid hR1
  replace hR2 := Lib.hid hR2
  replace hR3 := Lib.hid hR3
  replace hL1 := Lib.hid hL1
  replace hL2 := Lib.hid hL2
  replace hL3 := Lib.hid hL3
  replace hK := Lib.hid hK
  replace hS1 := Lib.hid hS1
  have HRB := Lib.hid hrb
  have HRL := Lib.hid hrL
  clear hB hT hm hrb hab l1 l2 hrL
  have HAE := Lib.hid fun h => bk_elbs (l := l) HTM.out.1 HTM.out.2 h
  have HTN := Lib.hid fun (h : areB T m l = true) => tn_bd (bk_elbs (l := l) HTM.out.1 HTM.out.2 h).1
  have HAR := Lib.hid fun (W : World) (h : Below w2.heap.size w2 W) => AreElbows_any b o ca bm om cm E ce T m l W (yp.below h) (yq.below h) (ye.below h) (by omega) HTM.out.1 HTM.out.2
  have HIR := Lib.hid fun (A5 : Option Addr) (c5 : Nat) (x : Int) (W : World) (h : Ints W A5 (rolV T m)) => In_any A5 c5 (rolV T m) x W h (by omega)
  generalize rolV T m = ro at *
  generalize opE T m = op at *
  generalize mnV T m = mn at *
  generalize lvV T m = lv at *
  generalize dbl m = ar at *
  have HE := Lib.hid (And.intro e3y e5y)
  (have la := e3y.lt); (have ya0 := e3y.cell 0); (have ya1 := e3y.cell 1); (have ya2 := e3y.cell 2); (have ya3 := e3y.cell 3); simp only [List.getElem?_toArray, List.getElem?_cons_zero, List.getElem?_cons_succ] at ya0 ya1 ya2 ya3
  have lc := e5y.lt
  have yc0 := e5y.cell 0
  have yc1 := e5y.cell 1
  simp only [List.getElem?_toArray, List.getElem?_cons_zero, List.getElem?_cons_succ] at yc0 yc1
  clear e3y e5y
  (try simp only [Act.put, List.getElem_toArray, List.getElem_cons_succ, List.getElem_cons_zero, List.setIfInBounds_toArray, List.set_cons_succ, List.set_cons_zero])
  go_upto_region 20 with (first | ((go_at_call 15); (with_reducible refine Calls.mono (hA1.out _ (by (repeat (first | with_reducible exact Below.refl _ _ | with_reducible apply bl_alloc | with_reducible apply bl_drew | with_reducible apply bl_after | (with_reducible refine bl_call ?_ (by assumption)))))) ?_); rintro e wn ⟨rfl, hbn⟩; first | ((with_reducible apply kp_in_step (hb := hbn)); (with_reducible assumption); rintro ⟨hk, hc, hf, hzc, hzf⟩) | ((with_reducible refine kp_in_first hbn ?_); rintro ⟨hk, hc, hf, hzc, hzf⟩)) | ((go_at_call 15); (with_reducible refine Calls.mono (hA2.out _ (by (repeat (first | with_reducible exact Below.refl _ _ | with_reducible apply bl_alloc | with_reducible apply bl_drew | with_reducible apply bl_after | (with_reducible refine bl_call ?_ (by assumption)))))) ?_); rintro e wn ⟨rfl, hbn⟩; first | ((with_reducible apply kp_in_step (hb := hbn)); (with_reducible assumption); rintro ⟨hk, hc, hf, hzc, hzf⟩) | ((with_reducible refine kp_in_first hbn ?_); rintro ⟨hk, hc, hf, hzc, hzf⟩)) | ((go_at_call 15); (with_reducible refine Calls.mono (hA3.out _ (by (repeat (first | with_reducible exact Below.refl _ _ | with_reducible apply bl_alloc | with_reducible apply bl_drew | with_reducible apply bl_after | (with_reducible refine bl_call ?_ (by assumption)))))) ?_); rintro e wn ⟨rfl, hbn⟩; first | ((with_reducible apply kp_in_step (hb := hbn)); (with_reducible assumption); rintro ⟨hk, hc, hf, hzc, hzf⟩) | ((with_reducible refine kp_in_first hbn ?_); rintro ⟨hk, hc, hf, hzc, hzf⟩)) | ((go_at_call 33); (with_reducible refine Calls.mono (hM1.out _ (by (repeat (first | with_reducible exact Below.refl _ _ | with_reducible apply bl_alloc | with_reducible apply bl_drew | with_reducible apply bl_after | (with_reducible refine bl_call ?_ (by assumption)))))) ?_); rintro e wn ⟨rfl, hbn⟩; first | ((with_reducible apply kp_in_step (hb := hbn)); (with_reducible assumption); rintro ⟨hk, hc, hf, hzc, hzf⟩) | ((with_reducible refine kp_in_first hbn ?_); rintro ⟨hk, hc, hf, hzc, hzf⟩)) | ((go_at_call 33); (with_reducible refine Calls.mono (hM2.out _ (by (repeat (first | with_reducible exact Below.refl _ _ | with_reducible apply bl_alloc | with_reducible apply bl_drew | with_reducible apply bl_after | (with_reducible refine bl_call ?_ (by assumption)))))) ?_); rintro e wn ⟨rfl, hbn⟩; first | ((with_reducible apply kp_in_step (hb := hbn)); (with_reducible assumption); rintro ⟨hk, hc, hf, hzc, hzf⟩) | ((with_reducible refine kp_in_first hbn ?_); rintro ⟨hk, hc, hf, hzc, hzf⟩)) | ((go_at_call 33); (with_reducible refine Calls.mono (hM3.out _ (by (repeat (first | with_reducible exact Below.refl _ _ | with_reducible apply bl_alloc | with_reducible apply bl_drew | with_reducible apply bl_after | (with_reducible refine bl_call ?_ (by assumption)))))) ?_); rintro e wn ⟨rfl, hbn⟩; first | ((with_reducible apply kp_in_step (hb := hbn)); (with_reducible assumption); rintro ⟨hk, hc, hf, hzc, hzf⟩) | ((with_reducible refine kp_in_first hbn ?_); rintro ⟨hk, hc, hf, hzc, hzf⟩)) | ((go_at_call 35); (with_reducible refine Calls.mono (hR1.out _ (by (repeat (first | with_reducible exact Below.refl _ _ | with_reducible apply bl_alloc | with_reducible apply bl_drew | with_reducible apply bl_after | (with_reducible refine bl_call ?_ (by assumption)))))) ?_); rintro e w5 ⟨⟨A5, c5, rfl, N5⟩, hb5⟩; first | ((with_reducible apply kp_in_step (hb := hb5)); (with_reducible assumption); rintro ⟨hk, hc, hf, hzc, hzf⟩) | ((with_reducible refine kp_in_first hb5 ?_); rintro ⟨hk, hc, hf, hzc, hzf⟩)) | ((go_at_call 35); (with_reducible refine Calls.mono (hR2.out _ (by (repeat (first | with_reducible exact Below.refl _ _ | with_reducible apply bl_alloc | with_reducible apply bl_drew | with_reducible apply bl_after | (with_reducible refine bl_call ?_ (by assumption)))))) ?_); rintro e w6 ⟨⟨A6, c6, rfl, N6⟩, hb6⟩; first | ((with_reducible apply kp_in_step (hb := hb6)); (with_reducible assumption); rintro ⟨hk, hc, hf, hzc, hzf⟩) | ((with_reducible refine kp_in_first hb6 ?_); rintro ⟨hk, hc, hf, hzc, hzf⟩)) | ((go_at_call 35); (with_reducible refine Calls.mono (hR3.out _ (by (repeat (first | with_reducible exact Below.refl _ _ | with_reducible apply bl_alloc | with_reducible apply bl_drew | with_reducible apply bl_after | (with_reducible refine bl_call ?_ (by assumption)))))) ?_); rintro e w7 ⟨⟨A7, c7, rfl, N7⟩, hb7⟩; first | ((with_reducible apply kp_in_step (hb := hb7)); (with_reducible assumption); rintro ⟨hk, hc, hf, hzc, hzf⟩) | ((with_reducible refine kp_in_first hb7 ?_); rintro ⟨hk, hc, hf, hzc, hzf⟩)) | ((go_at_call 37); (with_reducible refine Calls.mono (hL1.out _ (by (repeat (first | with_reducible exact Below.refl _ _ | with_reducible apply bl_alloc | with_reducible apply bl_drew | with_reducible apply bl_after | (with_reducible refine bl_call ?_ (by assumption)))))) ?_); rintro e wn ⟨rfl, hbn⟩; first | ((with_reducible apply kp_in_step (hb := hbn)); (with_reducible assumption); rintro ⟨hk, hc, hf, hzc, hzf⟩) | ((with_reducible refine kp_in_first hbn ?_); rintro ⟨hk, hc, hf, hzc, hzf⟩)) | ((go_at_call 37); (with_reducible refine Calls.mono (hL2.out _ (by (repeat (first | with_reducible exact Below.refl _ _ | with_reducible apply bl_alloc | with_reducible apply bl_drew | with_reducible apply bl_after | (with_reducible refine bl_call ?_ (by assumption)))))) ?_); rintro e wn ⟨rfl, hbn⟩; first | ((with_reducible apply kp_in_step (hb := hbn)); (with_reducible assumption); rintro ⟨hk, hc, hf, hzc, hzf⟩) | ((with_reducible refine kp_in_first hbn ?_); rintro ⟨hk, hc, hf, hzc, hzf⟩)) | ((go_at_call 37); (with_reducible refine Calls.mono (hL3.out _ (by (repeat (first | with_reducible exact Below.refl _ _ | with_reducible apply bl_alloc | with_reducible apply bl_drew | with_reducible apply bl_after | (with_reducible refine bl_call ?_ (by assumption)))))) ?_); rintro e wn ⟨rfl, hbn⟩; first | ((with_reducible apply kp_in_step (hb := hbn)); (with_reducible assumption); rintro ⟨hk, hc, hf, hzc, hzf⟩) | ((with_reducible refine kp_in_first hbn ?_); rintro ⟨hk, hc, hf, hzc, hzf⟩)) | ((go_at_call 43); (with_reducible refine Calls.mono (hK.out _) ?_); rintro e wn ⟨rfl, hbn⟩; first | ((with_reducible apply kp_in_step (hb := hbn)); (with_reducible assumption); rintro ⟨hk, hc, hf, hzc, hzf⟩) | ((with_reducible refine kp_in_first hbn ?_); rintro ⟨hk, hc, hf, hzc, hzf⟩)) | ((go_at_call 22); (with_reducible refine Calls.mono (hS1.out _ _ _ _ _ (N5.ints.below (by (repeat (first | with_reducible exact Below.refl _ _ | with_reducible apply bl_alloc | with_reducible apply bl_drew | with_reducible apply bl_after | (with_reducible refine bl_call ?_ (by assumption)))))) (N7.ints.below (by (repeat (first | with_reducible exact Below.refl _ _ | with_reducible apply bl_alloc | with_reducible apply bl_drew | with_reducible apply bl_after | (with_reducible refine bl_call ?_ (by assumption))))))) ?_); rintro e w8 ⟨rfl, hb8⟩; first | ((with_reducible apply kp_in_step (hb := hb8)); (with_reducible assumption); rintro ⟨hk, hc, hf, hzc, hzf⟩) | ((with_reducible refine kp_in_first hb8 ?_); rintro ⟨hk, hc, hf, hzc, hzf⟩)))
  have I5 := N5.ints.below (show Below w5.heap.size w5 w8 by (repeat (first | with_reducible exact Below.refl _ _ | with_reducible apply bl_alloc | with_reducible apply bl_drew | with_reducible apply bl_after | (with_reducible refine bl_call ?_ (by assumption)))))
  have I6 := N6.ints.below (show Below w6.heap.size w6 w8 by (repeat (first | with_reducible exact Below.refl _ _ | with_reducible apply bl_alloc | with_reducible apply bl_drew | with_reducible apply bl_after | (with_reducible refine bl_call ?_ (by assumption)))))
  have hb28 : Below w2.heap.size w2 w8 := hk.b
  ((try clear hk hc hf hzc hzf); (try clear hk hc hf hzc hzf); (try clear hk hc hf hzc hzf); (try clear hk hc hf hzc hzf))
  ((try clear hk hc hf hzc hzf); (try clear hk hc hf hzc hzf); (try clear hk hc hf hzc hzf); (try clear hk hc hf hzc hzf))
  ((try clear hk hc hf hzc hzf); (try clear hk hc hf hzc hzf); (try clear hk hc hf hzc hzf); (try clear hk hc hf hzc hzf))
  clear N5 N6 N7 hb5 hb6 hb7 hb8 hbn hA1 hA2 hA3 hM1 hM2 hM3 hR1 hR2 hR3 hL1 hL2 hL3 hK hS1
  go_wp2
  go_loopw [27] (fun i wr => ∃ k : Nat, k ≤ ro.length ∧ i = (Value.int .i64 ((k : Int))) ∧ Below w8.heap.size w8 wr) (fun i _ => ro.length - (intOf i).toNat)
  case atStart => exact ⟨0, Nat.zero_le _, rfl, Below.refl _ _⟩
  case round =>
    obtain ⟨k, kn, rfl, hbr⟩ := hrel
    by_cases hlt : k < ro.length
    · obtain ⟨b5, o5, rfl, p5⟩ := (I5.below hbr).at_ hlt
      obtain ⟨b6, o6, rfl, p6⟩ := (I6.below hbr).at_ (k := ro.length - 1 - k) (by rw [List.length_reverse, List.length_map]; omega)
      have x5 := p5.xi hlt
      have x6 := p6.xi (i := ro.length - 1 - k) (by rw [List.length_reverse, List.length_map]; omega)
      have lb5 := p5.lt
      have lb6 := p6.lt
      rw [iat_rev hlt] at x6
      have hq := HRB.out (iat ro k) (by rw [← iat_eq hlt]; exact List.getElem_mem hlt)
      have z2 := wrap64_in (x := -iat ro k) (by omega) (by omega)
      have i0 : (0 : Int) ≤ (k : Int) := by omega
      have i1 : (k : Int) < (ro.length : Int) := by omega
      have j0 : (0 : Int) ≤ (ro.length : Int) - 1 - (k : Int) := by omega
      have j1 : (ro.length : Int) - 1 - (k : Int) < (ro.length : Int) := by omega
      have j2 : ((ro.length : Int) - 1 - (k : Int)).toNat = ro.length - 1 - k := by omega
      clear p5 p6 hq
      generalize iat ro k = q at *
      go_wp2
      refine wp_region_after (by kernel_rfl) (by kernel_rfl) ?_; (repeat (go_big_quiet_step ((fail)))); refine wpQuiet_nil ?_; rintro _ ⟨z, rfl⟩; (first | ((with_reducible apply kp_in_after (z := z)); (with_reducible assumption); rintro ⟨hk, hc, hf, hzc, hzf⟩) | ((with_reducible refine kp_in_after0 z ?_); rintro ⟨hk, hc, hf, hzc, hzf⟩))
      go_wp2
      go_roundw
      case rel => exact ⟨k + 1, by omega, by go_num, bl_after z hbr⟩
      case measure => simp [intOf]; omega
    · have hbQ : Below w2.heap.size w2 wr := bl_call hb28 hbr
      have I5r := I5.below hbr
      clear I5 I6 hbr hb28 hrl
      first | ((with_reducible apply kp_in_step (hb := hbQ)); (with_reducible assumption); rintro ⟨hk, hc, hf, hzc, hzf⟩) | ((with_reducible refine kp_in_first hbQ ?_); rintro ⟨hk, hc, hf, hzc, hzf⟩)
      cases har : areB T m l with
      | false =>
        have hAR := HAR.out
        rw [har] at hAR
        replace hAR := Lib.hid hAR
        clear har HAE HTN
        go_wp2_with (first | ((go_at_call 40); (with_reducible refine Calls.mono (hAR.out _ (by (repeat (first | with_reducible exact Below.refl _ _ | with_reducible apply bl_alloc | with_reducible apply bl_drew | with_reducible apply bl_after | (with_reducible refine bl_call ?_ (by assumption)))))) ?_); rintro e wn ⟨rfl, hbn⟩; first | ((with_reducible apply kp_in_step (hb := hbn)); (with_reducible assumption); rintro ⟨hk, hc, hf, hzc, hzf⟩) | ((with_reducible refine kp_in_first hbn ?_); rintro ⟨hk, hc, hf, hzc, hzf⟩)) | ((go_at_call 14); (with_reducible refine Calls.mono (works_any _) ?_); rintro e wn ⟨rfl, hbn⟩; first | ((with_reducible apply kp_in_step (hb := hbn)); (with_reducible assumption); rintro ⟨hk, hc, hf, hzc, hzf⟩) | ((with_reducible refine kp_in_first hbn ?_); rintro ⟨hk, hc, hf, hzc, hzf⟩)))
        go_ret
        exact ⟨rfl, bl_call hbY (by (repeat (first | with_reducible assumption | with_reducible exact Below.refl _ _ | with_reducible apply bl_alloc | with_reducible apply bl_drew | with_reducible apply bl_after | (with_reducible refine bl_call ?_ (by assumption)) | (with_reducible refine bl_setc ?_ (by omega)))))⟩
      | true =>
        have hAR := HAR.out
        rw [har] at hAR
        replace hAR := Lib.hid hAR
        obtain ⟨t1, t2, s1, s2, s3⟩ := HAE.out har
        have hTN := HTN.out har
        have hq := HRB.out _ s3
        have HQ := Lib.hid (And.intro t1 (And.intro t2 (And.intro s1 (And.intro s2 s3))))
        have hml := (walkB_bd HTM.out.2)
        have z3 := wrap64_in (x := -swV T m l) (by omega) (by omega)
        have z4 := wrap64_in (x := -tnV T m l) (by omega) (by omega)
        clear har HAE HTN t1 t2 s1 s2 s3 hq hTN hml HRB HAR
        obtain ⟨i0, hi, hz0, hz1, hz2⟩ := info_parts infoInt
        go_wp2_with (first | ((go_at_call 40); (with_reducible refine Calls.mono (hAR.out _ (by (repeat (first | with_reducible exact Below.refl _ _ | with_reducible apply bl_alloc | with_reducible apply bl_drew | with_reducible apply bl_after | (with_reducible refine bl_call ?_ (by assumption)))))) ?_); rintro e wn ⟨rfl, hbn⟩; first | ((with_reducible apply kp_in_step (hb := hbn)); (with_reducible assumption); rintro ⟨hk, hc, hf, hzc, hzf⟩) | ((with_reducible refine kp_in_first hbn ?_); rintro ⟨hk, hc, hf, hzc, hzf⟩)))
        go_loopw [28, 29] (fun v i wr => ∃ k : Nat, k ≤ l.length ∧ i = (Value.int .i64 ((l.length : Int) - 1 - (k : Int))) ∧ Hid (RowI wr wn.heap.size v (l.reverse.take k)) ∧ Below wn.heap.size wn wr) (fun _ i _ => (intOf i + 1).toNat)
        case atStart => exact ⟨0, Nat.zero_le _, by go_num, Lib.hid (rowI_nil _ _), Below.refl _ _⟩
        case round =>
          obtain ⟨k, kn, rfl, hO, hbr0⟩ := hrel
          have hbt : Below w2.heap.size w2 wr := (bl_call hbQ hbn).trans (hbr0.mono (bl_call hbQ hbn).size)
          first | ((with_reducible apply kp_in_step (hb := hbt)); (with_reducible assumption); rintro ⟨hk, hc, hf, hzc, hzf⟩) | ((with_reducible refine kp_in_first hbt ?_); rintro ⟨hk, hc, hf, hzc, hzf⟩)
          by_cases hlt : k < l.length
          · obtain ⟨be, oe, rfl, pe⟩ := (ye.below hbt).at_ (k := l.length - 1 - k) (by omega)
            have x1 := pe.xi (i := l.length - 1 - k) (by omega)
            have le := pe.lt
            have e0 : ((l.length : Int) - 1 - (k : Int)) = ((l.length - 1 - k : Nat) : Int) := by omega
            have hS := Lib.hid (rev_takeI hlt)
            have hk9 : l.length - 1 - k < l.length := by omega
            rw [e0]
            have hlen : (l.reverse.take k).length = k := by rw [List.length_take, List.length_reverse]; omega
            have hlk : k ≤ 40 := by omega
            have hqq : k + (l.length - 1 - k) + 1 = l.length := by omega
            have HQQ := Lib.hid hqq
            clear pe e0 hqq
            generalize l.length - 1 - k = q at *
            have i0' : (0 : Int) ≤ (q : Int) := by omega
            have i1' : (q : Int) < (l.length : Int) := by omega
            have hone : ∀ u ∈ [(Value.int .i64 (iat l q))], u.oneCell' = true := fun u hu => by rw [List.mem_singleton.1 hu]; rfl
            go_wp2_with (at_builtin; refine wpList_append_own _ rfl (.tmp 248) (.tmp 254) 37 rfl wn.heap.size 3 i0 _ 1 8 undInts hi hz0 hz1 hz2 rfl (by decide) _ _ _ rfl (World.ownsRow.alloc hO.out _) ⟨wr.heap.size, 0, none⟩ 1 1 [(Value.int .i64 (iat l q))] rfl rfl (cell_one_new _ _ _) hone (by unfold maxLen; omega) (by omega) (by have := hbr0.size; simp; omega) ?_)
            intro v' w9 hown hgrow _
            have hb9 : Below wn.heap.size wn w9 := bl_grown (bl_alloc hbr0) (World.ownsRow.alloc hO.out _) hgrow
            have HV := Lib.hid (RowI.snoc hown hlen.symm)
            clear hown hgrow
            go_wp2
            go_roundw
            case rel => exact ⟨k + 1, by have := HQQ.out; omega, by have := HQQ.out; go_num, Lib.hid (by rw [hS.out]; exact HV.out), hb9⟩
            case measure => simp [intOf]; try omega
          · obtain rfl : k = l.length := by omega
            have hO1 := hO.out
            rw [List.take_of_length_le (by simp)] at hO1
            obtain ⟨-, A9, c9, rfl, I9, -⟩ := own_ints hO1
            rw [List.length_reverse]
            clear hO hO1
            obtain ⟨t1, t2, s1, s2, s3⟩ := HQ.out
            obtain ⟨hT, hm⟩ := HTM.out
            have zr : l.reverse.length = l.length := List.length_reverse
            have l1 : m.reverse.length = m.length := List.length_reverse
            have hW1 := fun (W : World) (h : Below wr.heap.size wr W) => Sweep_any (some ⟨b, o, none⟩) (some ⟨bm, om, none⟩) E ca cm ce T m l W ((ya.below hbt).below h) d1 ((yb.below hbt).below h) d2 ((ye.below hbt).below h) (by omega)
            have hW2 := fun (W : World) (h : Below wr.heap.size wr W) => Sweep_any (some ⟨b, o, none⟩) A1 A9 ca c1 c9 T m.reverse l.reverse W ((ya.below hbt).below h) d1 ((hP1.below hbt).below h) (by rw [l1]; exact d2) (I9.below h) (by omega)
            have hW3 := fun (W : World) (h : Below wr.heap.size wr W) => Turns_any (some ⟨b, o, none⟩) (some ⟨bm, om, none⟩) E ca cm ce T m l W ((ya.below hbt).below h) d1 ((yb.below hbt).below h) d2 ((ye.below hbt).below h) (by omega)
            have hW4 := fun (W : World) (h : Below wr.heap.size wr W) => Turns_any (some ⟨b, o, none⟩) A1 A9 ca c1 c9 T m.reverse l.reverse W ((ya.below hbt).below h) d1 ((hP1.below hbt).below h) (by rw [l1]; exact d2) (I9.below h) (by omega)
            have hW5 := fun (W : World) (h : Below wr.heap.size wr W) => HIR.out A5 c5 (swV T m l) W ((I5r.below ((Below.trans hbn (hbr0.mono hbn.size)))).below h)
            rw [t1] at hW1 hW3
            rw [t2, s1] at hW2
            rw [t2, s2] at hW4
            rw [decide_eq_true s3] at hW5
            simp only [zr, l1] at hW2 hW4
            replace hW1 := Lib.hid hW1
            replace hW2 := Lib.hid hW2
            replace hW3 := Lib.hid hW3
            replace hW4 := Lib.hid hW4
            replace hW5 := Lib.hid hW5
            have hbZ : Below w.heap.size w wr := bl_call hbY hbt
            clear t1 t2 s1 s2 s3 hT hm zr l1 HQ hbr0 hbQ hbn HIR I5r
            generalize swV T m l = sv at *
            generalize tnV T m l = tv at *
            go_wp2_with (first | ((go_at_call 17); (with_reducible refine Calls.mono (hW1.out _ (by (repeat (first | with_reducible exact Below.refl _ _ | with_reducible apply bl_alloc | with_reducible apply bl_drew | with_reducible apply bl_after | (with_reducible refine bl_call ?_ (by assumption)))))) ?_); rintro e wn ⟨rfl, hbn⟩; first | ((with_reducible apply kp_in_step (hb := hbn)); (with_reducible assumption); rintro ⟨hk, hc, hf, hzc, hzf⟩) | ((with_reducible refine kp_in_first hbn ?_); rintro ⟨hk, hc, hf, hzc, hzf⟩)) | ((go_at_call 17); (with_reducible refine Calls.mono (hW2.out _ (by (repeat (first | with_reducible exact Below.refl _ _ | with_reducible apply bl_alloc | with_reducible apply bl_drew | with_reducible apply bl_after | (with_reducible refine bl_call ?_ (by assumption)))))) ?_); rintro e wn ⟨rfl, hbn⟩; first | ((with_reducible apply kp_in_step (hb := hbn)); (with_reducible assumption); rintro ⟨hk, hc, hf, hzc, hzf⟩) | ((with_reducible refine kp_in_first hbn ?_); rintro ⟨hk, hc, hf, hzc, hzf⟩)) | ((go_at_call 19); (with_reducible refine Calls.mono (hW3.out _ (by (repeat (first | with_reducible exact Below.refl _ _ | with_reducible apply bl_alloc | with_reducible apply bl_drew | with_reducible apply bl_after | (with_reducible refine bl_call ?_ (by assumption)))))) ?_); rintro e wn ⟨rfl, hbn⟩; first | ((with_reducible apply kp_in_step (hb := hbn)); (with_reducible assumption); rintro ⟨hk, hc, hf, hzc, hzf⟩) | ((with_reducible refine kp_in_first hbn ?_); rintro ⟨hk, hc, hf, hzc, hzf⟩)) | ((go_at_call 19); (with_reducible refine Calls.mono (hW4.out _ (by (repeat (first | with_reducible exact Below.refl _ _ | with_reducible apply bl_alloc | with_reducible apply bl_drew | with_reducible apply bl_after | (with_reducible refine bl_call ?_ (by assumption)))))) ?_); rintro e wn ⟨rfl, hbn⟩; first | ((with_reducible apply kp_in_step (hb := hbn)); (with_reducible assumption); rintro ⟨hk, hc, hf, hzc, hzf⟩) | ((with_reducible refine kp_in_first hbn ?_); rintro ⟨hk, hc, hf, hzc, hzf⟩)) | ((go_at_call 44); (with_reducible refine Calls.mono (hW5.out _ (by (repeat (first | with_reducible exact Below.refl _ _ | with_reducible apply bl_alloc | with_reducible apply bl_drew | with_reducible apply bl_after | (with_reducible refine bl_call ?_ (by assumption)))))) ?_); rintro e wn ⟨rfl, hbn⟩; first | ((with_reducible apply kp_in_step (hb := hbn)); (with_reducible assumption); rintro ⟨hk, hc, hf, hzc, hzf⟩) | ((with_reducible refine kp_in_first hbn ?_); rintro ⟨hk, hc, hf, hzc, hzf⟩)) | ((go_at_call 14); (with_reducible refine Calls.mono (works_any _) ?_); rintro e wn ⟨rfl, hbn⟩; first | ((with_reducible apply kp_in_step (hb := hbn)); (with_reducible assumption); rintro ⟨hk, hc, hf, hzc, hzf⟩) | ((with_reducible refine kp_in_first hbn ?_); rintro ⟨hk, hc, hf, hzc, hzf⟩)))
            go_ret
            exact ⟨rfl, bl_call hbZ (by (repeat (first | with_reducible exact Below.refl _ _ | with_reducible apply bl_alloc | with_reducible apply bl_drew | with_reducible apply bl_after | (with_reducible refine bl_call ?_ (by assumption)))))⟩
end Go.Proofs.Ytfgplmgkejeoiaa
