/- The law WalksMore answers true for a valid track and walk of at most five places and points. -/
import Derived.Test.YtfgplmgkejeoiaaMore
import Derived.Test.YtfgplmgkejeoiaaRowS
import Derived.Test.YtfgplmgkejeoiaaCop
import Derived.Test.YtfgplmgkejeoiaaStuck
import Derived.Test.YtfgplmgkejeoiaaQc
namespace Go.Proofs.Ytfgplmgkejeoiaa
open Go.RowKit
attribute [local go_sem] After.cell After.frozen

/-- The two copies. -/
structure TwoC (g3 : Nat) (A : Option Addr) (ca : Nat) (T : Trk) (s11 s12 : Value) (w wx : World) : Prop where
  ex : ∃ gw gl g1 c1 g2 c2 : Nat, s11 = .pointer (some ⟨gw, 0, none⟩) ∧ s12 = .pointer (some ⟨gl, 0, none⟩) ∧ Blk wx gw 36 #[.slice (some ⟨g1, 0, none⟩) T.pts.length c1, (Value.int .i64 (T.closed)), (Value.int .i64 (T.lo)), (Value.int .i64 (T.hi))] ∧ Blk wx gl 36 #[.slice (some ⟨g2, 0, none⟩) T.pts.length c2, (Value.int .i64 (T.closed)), (Value.int .i64 (T.lo)), (Value.int .i64 (T.hi))] ∧
    RowP wx w.heap.size (.slice (some ⟨g1, 0, none⟩) T.pts.length c1) T.pts ∧ RowP wx w.heap.size (.slice (some ⟨g2, 0, none⟩) T.pts.length c2) T.pts ∧ (w.heap.size ≤ gw ∧ w.heap.size ≤ gl) ∧ gw ≠ gl ∧ g1 ≠ gw ∧ g1 ≠ gl ∧ g1 ≠ g2 ∧ g2 ≠ gw ∧ g2 ≠ gl
  bl : Below w.heap.size w wx
section
variable {w : World} {g gs cs : Nat} {T : Trk}
theorem st4 {us : Array Value} (h : Blk w g 36 us) : Blk (w.setRow g #[.slice (some ⟨gs, 0, none⟩) T.pts.length cs, (Value.int .i64 (T.closed)), (Value.int .i64 (T.lo)), (Value.int .i64 (T.hi))]) g 36 #[.slice (some ⟨gs, 0, none⟩) T.pts.length cs, (Value.int .i64 (T.closed)), (Value.int .i64 (T.lo)), (Value.int .i64 (T.hi))] := setRow_heap w g _ _ _ _ h
theorem st4_far {k : Nat} {t : TypeId} {us : Array Value} (h : Blk w k t us) (hne : k ≠ g) : Blk (w.setRow g #[.slice (some ⟨gs, 0, none⟩) T.pts.length cs, (Value.int .i64 (T.closed)), (Value.int .i64 (T.lo)), (Value.int .i64 (T.hi))]) k t us := (setRow_other w g k _ hne).trans h
theorem st4_row {B k n c : Nat} {l : List Pt} (h : RowP w B (.slice (some ⟨k, 0, none⟩) n c) l) (hne : k ≠ g) : RowP (w.setRow g #[.slice (some ⟨gs, 0, none⟩) T.pts.length cs, (Value.int .i64 (T.closed)), (Value.int .i64 (T.lo)), (Value.int .i64 (T.hi))]) B (.slice (some ⟨k, 0, none⟩) n c) l :=
  World.ownsRow.kept h ⟨rfl, rfl, rfl, by simp, fun j _ hj => setRow_other w g j _ fun e => hj (by rw [e])⟩ (.inr (by simp [Value.ownBlock]; exact hne))
theorem st4_bl {w4 : World} (h : Below w4.heap.size w4 w) (hg : w4.heap.size ≤ g) : Below w4.heap.size w4 (w.setRow g #[.slice (some ⟨gs, 0, none⟩) T.pts.length cs, (Value.int .i64 (T.closed)), (Value.int .i64 (T.lo)), (Value.int .i64 (T.hi))]) := h.trans ⟨rfl, rfl, rfl, by simp [World.setRow], fun k hk => setRow_other w g k _ (by omega)⟩
end
theorem two_done {g3 : Nat} {A : Option Addr} {ca : Nat} {T : Trk} {w wx : World} {gx gy g1 c1 g2 c2 : Nat} (HM : Hid (gx ≠ gy ∧ g1 ≠ gx ∧ g2 ≠ gx ∧ g1 ≠ gy ∧ g2 ≠ gy ∧ g1 ≠ g2 ∧ w.heap.size ≤ gx ∧ w.heap.size ≤ gy))
    (HC : Hid (Blk wx gx 36 #[.slice (some ⟨g1, 0, none⟩) T.pts.length c1, (Value.int .i64 (T.closed)), (Value.int .i64 (T.lo)), (Value.int .i64 (T.hi))] ∧ Blk wx gy 36 #[.slice (some ⟨g2, 0, none⟩) T.pts.length c2, (Value.int .i64 (T.closed)), (Value.int .i64 (T.lo)), (Value.int .i64 (T.hi))] ∧ RowP wx w.heap.size (.slice (some ⟨g1, 0, none⟩) T.pts.length c1) T.pts ∧ RowP wx w.heap.size (.slice (some ⟨g2, 0, none⟩) T.pts.length c2) T.pts)) (hB : Below w.heap.size w wx) :
    TwoC g3 A ca T (.pointer (some ⟨gx, 0, none⟩)) (.pointer (some ⟨gy, 0, none⟩)) w wx := by
  obtain ⟨n1, n2, n3, n4, n5, n6, n7, n8⟩ := HM.out
  obtain ⟨a1, a2, a3, a4⟩ := HC.out
  exact ⟨⟨gx, gy, g1, c1, g2, c2, rfl, rfl, a1, a2, a3, a4, ⟨n7, n8⟩, n1, n2, n4, n6, n3, n5⟩, hB⟩
theorem RowP.le {w : World} {B C : Nat} {v : Value} {l : List Pt} (h : RowP w C v l) (hB : B ≤ C) : RowP w B v l := Joins.ownsRow_le h hB
theorem RowP.alloc_ {w : World} {B : Nat} {v : Value} {l : List Pt} (h : RowP w B v l) (o : Obj) : RowP (w.alloc o) B v l := World.ownsRow.alloc h o
theorem RowP.grown_ {w w' : World} {B r : Nat} {v : Value} {l : List Pt} (h : RowP w B v l) (hg : w.grownBy w' (some r)) (hr : v.ownBlock ≠ some r) : RowP w' B v l := World.ownsRow.kept h hg (.inr hr)
theorem wpAnyC_three {P : Program} {ops : Array Oper} {Q : Exit → Act → World → Prop} {C : World → Prop} {i j k : Nat} {oi oj ok : Oper} {fuel : Nat} {listed : Array Bool} {a : Act} {w : World} (hr : Region.ready .any ops listed = [i, j, k]) (hi : ops[i]? = some oi) (hj : ops[j]? = some oj) (hk : ops[k]? = some ok) (hC : C w) (hw : Region.wanted oi (yielded ops a.tmps) = true) (hw2 : Region.wanted oj (yielded ops a.tmps) = true) (hw3 : Region.wanted ok (yielded ops a.tmps) = true)
    (h : ∀ K : Act → World → Prop, (∀ a' w', wpAnyC P ops Q C fuel (listed.setIfInBounds i true) a' w' → K a' w') → oi.wp P a w K Q)
    (h2 : ∀ K : Act → World → Prop, (∀ a' w', wpAnyC P ops Q C fuel (listed.setIfInBounds j true) a' w' → K a' w') → oj.wp P a w K Q)
    (h3 : ∀ K : Act → World → Prop, (∀ a' w', wpAnyC P ops Q C fuel (listed.setIfInBounds k true) a' w' → K a' w') → ok.wp P a w K Q) : wpAnyC P ops Q C (fuel + 1) listed a w := by
  refine ⟨hC, fun e => (by rw [hr] at e; cases e), fun n hn => ?_⟩
  rw [hr] at hn
  simp only [List.mem_cons, List.not_mem_nil, or_false] at hn
  rcases hn with rfl | rfl | rfl
  · unfold Go.wpOp
    simp only [hi, hw, if_true]
    exact .inl (h _ fun _ _ h => h)
  · unfold Go.wpOp
    simp only [hj, hw2, if_true]
    exact .inl (h2 _ fun _ _ h => h)
  · unfold Go.wpOp
    simp only [hk, hw3, if_true]
    exact .inl (h3 _ fun _ _ h => h)

set_option maxRecDepth 100000 in
set_option maxHeartbeats 8000000 in
theorem more_in (b o ca bm om cm : Nat) (T : Trk) (m : List Pt) (xl xh : Int) (d : Pt) (w : World) (hp : PtsAt w b o T.pts) (hq : PtsAt w bm om m) (hr : rdyB T m = true) (hxl : 0 ≤ xl ∧ xl ≤ 320000) (hxh : 0 ≤ xh ∧ xh ≤ 320000) :
    Calls Try.prog 10 #[(Value.agg #[.slice (some ⟨b, o, none⟩) T.pts.length ca, (Value.int .i64 (T.closed)), (Value.int .i64 (T.lo)), (Value.int .i64 (T.hi))]), .slice (some ⟨bm, om, none⟩) m.length cm, .agg #[(Value.int .i64 (xl)), (Value.int .i64 (xh)), (Value.int .i64 (d.1)), (Value.int .i64 (d.2))]] w fun e w' => e = .returned (.bool true) ∧ Below w.heap.size w w' := by
  obtain ⟨hT, hm, hc0, h5T, h5m⟩ := rdy_parts hr
  have hm0 : 0 < m.length := by have := walkB_bd hm; omega
  have hT0 : 0 < T.pts.length := by have := trkB_bd hT; omega
  have d1 : T.pts.length ≤ 1000000 := by omega
  have d2 : m.length ≤ 1000000 := by omega
  have e3 : Blk ((w.alloc (.cells #[.slice (some ⟨b, o, none⟩) T.pts.length ca, (Value.int .i64 (T.closed)), (Value.int .i64 (T.lo)), (Value.int .i64 (T.hi))] 36)).alloc (.cells #[(Value.int .i64 (xl)), (Value.int .i64 (xh)), (Value.int .i64 (d.1)), (Value.int .i64 (d.2))] 56)) w.heap.size 36 #[.slice (some ⟨b, o, none⟩) T.pts.length ca, (Value.int .i64 (T.closed)), (Value.int .i64 (T.lo)), (Value.int .i64 (T.hi))] := (Blk.new _ _ _).alloc _
  have e5 : Blk ((w.alloc (.cells #[.slice (some ⟨b, o, none⟩) T.pts.length ca, (Value.int .i64 (T.closed)), (Value.int .i64 (T.lo)), (Value.int .i64 (T.hi))] 36)).alloc (.cells #[(Value.int .i64 (xl)), (Value.int .i64 (xh)), (Value.int .i64 (d.1)), (Value.int .i64 (d.2))] 56)) (w.heap.size + 1) 56 #[(Value.int .i64 (xl)), (Value.int .i64 (xh)), (Value.int .i64 (d.1)), (Value.int .i64 (d.2))] := Blk.new_at (by simp)
  have hbX : Below w.heap.size w ((w.alloc (.cells #[.slice (some ⟨b, o, none⟩) T.pts.length ca, (Value.int .i64 (T.closed)), (Value.int .i64 (T.lo)), (Value.int .i64 (T.hi))] 36)).alloc (.cells #[(Value.int .i64 (xl)), (Value.int .i64 (xh)), (Value.int .i64 (d.1)), (Value.int .i64 (d.2))] 56)) := by (repeat (first | with_reducible exact Below.refl _ _ | with_reducible apply bl_alloc | with_reducible apply bl_drew | with_reducible apply bl_after | (with_reducible refine bl_call ?_ (by assumption))))
  have xp := hp.below hbX
  have xq := hq.below hbX
  have xa : Pts ((w.alloc (.cells #[.slice (some ⟨b, o, none⟩) T.pts.length ca, (Value.int .i64 (T.closed)), (Value.int .i64 (T.lo)), (Value.int .i64 (T.hi))] 36)).alloc (.cells #[(Value.int .i64 (xl)), (Value.int .i64 (xh)), (Value.int .i64 (d.1)), (Value.int .i64 (d.2))] 56)) (some ⟨b, o, none⟩) T.pts := .inr ⟨b, o, rfl, xp⟩
  have xb : Pts ((w.alloc (.cells #[.slice (some ⟨b, o, none⟩) T.pts.length ca, (Value.int .i64 (T.closed)), (Value.int .i64 (T.lo)), (Value.int .i64 (T.hi))] 36)).alloc (.cells #[(Value.int .i64 (xl)), (Value.int .i64 (xh)), (Value.int .i64 (d.1)), (Value.int .i64 (d.2))] 56)) (some ⟨bm, om, none⟩) m := .inr ⟨bm, om, rfl, xq⟩
  have hRdy := fun (W : World) (h : Below (((w.alloc (.cells #[.slice (some ⟨b, o, none⟩) T.pts.length ca, (Value.int .i64 (T.closed)), (Value.int .i64 (T.lo)), (Value.int .i64 (T.hi))] 36)).alloc (.cells #[(Value.int .i64 (xl)), (Value.int .i64 (xh)), (Value.int .i64 (d.1)), (Value.int .i64 (d.2))] 56))).heap.size ((w.alloc (.cells #[.slice (some ⟨b, o, none⟩) T.pts.length ca, (Value.int .i64 (T.closed)), (Value.int .i64 (T.lo)), (Value.int .i64 (T.hi))] 36)).alloc (.cells #[(Value.int .i64 (xl)), (Value.int .i64 (xh)), (Value.int .i64 (d.1)), (Value.int .i64 (d.2))] 56)) W) => ready_any (some ⟨b, o, none⟩) (some ⟨bm, om, none⟩) ca cm T m W (xa.below h) (by omega) (xb.below h) (by omega)
  rw [hr] at hRdy
  have hMa := fun (W : World) (h : Below (((w.alloc (.cells #[.slice (some ⟨b, o, none⟩) T.pts.length ca, (Value.int .i64 (T.closed)), (Value.int .i64 (T.lo)), (Value.int .i64 (T.hi))] 36)).alloc (.cells #[(Value.int .i64 (xl)), (Value.int .i64 (xh)), (Value.int .i64 (d.1)), (Value.int .i64 (d.2))] 56))).heap.size ((w.alloc (.cells #[.slice (some ⟨b, o, none⟩) T.pts.length ca, (Value.int .i64 (T.closed)), (Value.int .i64 (T.lo)), (Value.int .i64 (T.hi))] 36)).alloc (.cells #[(Value.int .i64 (xl)), (Value.int .i64 (xh)), (Value.int .i64 (d.1)), (Value.int .i64 (d.2))] 56)) W) => Many_any (some ⟨b, o, none⟩) (some ⟨bm, om, none⟩) ca cm T m W (xa.below h) d1 (xb.below h) d2
  have hSt := fun (W : World) (h : Below (((w.alloc (.cells #[.slice (some ⟨b, o, none⟩) T.pts.length ca, (Value.int .i64 (T.closed)), (Value.int .i64 (T.lo)), (Value.int .i64 (T.hi))] 36)).alloc (.cells #[(Value.int .i64 (xl)), (Value.int .i64 (xh)), (Value.int .i64 (d.1)), (Value.int .i64 (d.2))] 56))).heap.size ((w.alloc (.cells #[.slice (some ⟨b, o, none⟩) T.pts.length ca, (Value.int .i64 (T.closed)), (Value.int .i64 (T.lo)), (Value.int .i64 (T.hi))] 36)).alloc (.cells #[(Value.int .i64 (xl)), (Value.int .i64 (xh)), (Value.int .i64 (d.1)), (Value.int .i64 (d.2))] 56)) W) => Stuck_any (some ⟨b, o, none⟩) (some ⟨bm, om, none⟩) ca cm T m W (xa.below h) d1 (xb.below h) d2
  rw [hc0] at hSt
  have hsl : (stkV T m).length ≤ m.length := by
    rw [stkV, if_pos hc0]
    exact stk_len T m m.length
  have hCp := fun (W : World) (h : Below (((w.alloc (.cells #[.slice (some ⟨b, o, none⟩) T.pts.length ca, (Value.int .i64 (T.closed)), (Value.int .i64 (T.lo)), (Value.int .i64 (T.hi))] 36)).alloc (.cells #[(Value.int .i64 (xl)), (Value.int .i64 (xh)), (Value.int .i64 (d.1)), (Value.int .i64 (d.2))] 56))).heap.size ((w.alloc (.cells #[.slice (some ⟨b, o, none⟩) T.pts.length ca, (Value.int .i64 (T.closed)), (Value.int .i64 (T.lo)), (Value.int .i64 (T.hi))] 36)).alloc (.cells #[(Value.int .i64 (xl)), (Value.int .i64 (xh)), (Value.int .i64 (d.1)), (Value.int .i64 (d.2))] 56)) W) => Copy_own ⟨b, o, none⟩ ca T W (xa.below h) (by omega)
  have hK := isKnown_any (opE T m)
  rw [show knownB (opE T m) = true by unfold knownB; rw [decide_eq_true_eq]; exact opE_known hc0] at hK
  have hoc := opE_known hc0
  have hes : opE T m = 0 → stkV T m = [] := fun h0 => by
    rw [stkV, if_pos hc0]
    cases h : stkTo T m m.length with
    | nil => rfl
    | cons a t => exact absurd (stuck_none hm0 (by rw [h]; simp)) ((opE_nil hc0).1 h0)
  replace hRdy := Lib.hid hRdy
  replace hMa := Lib.hid hMa
  replace hSt := Lib.hid hSt
  replace hCp := Lib.hid hCp
  replace hK := Lib.hid hK
  have HC0 := Lib.hid hc0
  have HTM := Lib.hid (And.intro hT hm)
  clear hp hq hT hm hc0 hr
  (have la := e3.lt); (have ya0 := e3.cell 0); (have ya1 := e3.cell 1); (have ya2 := e3.cell 2); (have ya3 := e3.cell 3); simp only [List.getElem?_toArray, List.getElem?_cons_zero, List.getElem?_cons_succ] at ya0 ya1 ya2 ya3
  (have lc := e5.lt); (have yc0 := e5.cell 0); (have yc1 := e5.cell 1); (have yc2 := e5.cell 2); (have yc3 := e5.cell 3); simp only [List.getElem?_toArray, List.getElem?_cons_zero, List.getElem?_cons_succ] at yc0 yc1 yc2 yc3
  go_enter Try.func10, Try.ntmps10
  go_wp2_with fail
  have HE := Lib.hid (And.intro e3 e5)
  generalize ((w.alloc (.cells #[.slice (some ⟨b, o, none⟩) T.pts.length ca, (Value.int .i64 (T.closed)), (Value.int .i64 (T.lo)), (Value.int .i64 (T.hi))] 36)).alloc (.cells #[(Value.int .i64 (xl)), (Value.int .i64 (xh)), (Value.int .i64 (d.1)), (Value.int .i64 (d.2))] 56)) = X at *
  clear e3 e5
  have hgX : w.heap.size ≤ X.heap.size := hbX.size
  have hmn : opE T m = 3 → mnV T m = 0 := fun h => by
    rw [mnV, if_pos HC0.out]
    have : elbs T m = [] := by
      cases he : elbs T m with
      | nil => rfl
      | cons a t => exact absurd ((opE_nil HC0.out).2 (by rw [he]; simp)) (by rw [h]; decide)
    rw [this]; rfl
  have HMR := Lib.hid (show ∀ T2 : Trk, Wid T T2 → chkT T2 m = 0 → opE T m = 0 → Mor T T2 m from fun T2 hw h2 h0 => more_of hw HC0.out h2 hm0 h0)
  have hop0 := Lib.hid (rfl : opE T m = opE T m)
  generalize hop : opE T m = op at hMa hK hoc hes hmn
  have HOP := Lib.hid hop
  clear hop hop0
  have hesl : op = 0 → (stkV T m).length = 0 := fun h => by rw [hes h]; rfl
  clear hes
  generalize (stkV T m).length = sl at *
  go_upto_region 5 with (first | ((go_at_call 42); (with_reducible refine Calls.mono (hRdy.out _ (by (repeat (first | with_reducible exact Below.refl _ _ | with_reducible apply bl_alloc | with_reducible apply bl_drew | with_reducible apply bl_after | (with_reducible refine bl_call ?_ (by assumption)))))) ?_); rintro e wn ⟨rfl, hbn⟩; first | ((with_reducible apply kp_in_step (hb := hbn)); (with_reducible assumption); rintro ⟨hk, hc, hf, hzc, hzf⟩) | ((with_reducible refine kp_in_first hbn ?_); rintro ⟨hk, hc, hf, hzc, hzf⟩)) | ((go_at_call 33); (with_reducible refine Calls.mono (hMa.out _ (by (repeat (first | with_reducible exact Below.refl _ _ | with_reducible apply bl_alloc | with_reducible apply bl_drew | with_reducible apply bl_after | (with_reducible refine bl_call ?_ (by assumption)))))) ?_); rintro e wn ⟨rfl, hbn⟩; first | ((with_reducible apply kp_in_step (hb := hbn)); (with_reducible assumption); rintro ⟨hk, hc, hf, hzc, hzf⟩) | ((with_reducible refine kp_in_first hbn ?_); rintro ⟨hk, hc, hf, hzc, hzf⟩)) | ((go_at_call 28); (with_reducible refine Calls.mono (hSt.out _ (by (repeat (first | with_reducible exact Below.refl _ _ | with_reducible apply bl_alloc | with_reducible apply bl_drew | with_reducible apply bl_after | (with_reducible refine bl_call ?_ (by assumption)))))) ?_); rintro e w5 ⟨⟨A5, c5, rfl, hN5⟩, hb5⟩; first | ((with_reducible apply kp_in_step (hb := hb5)); (with_reducible assumption); rintro ⟨hk, hc, hf, hzc, hzf⟩) | ((with_reducible refine kp_in_first hb5 ?_); rintro ⟨hk, hc, hf, hzc, hzf⟩)))
  have hbQ : Below X.heap.size X w5 := hk.b
  clear hN5 hb5 hSt
  ((try clear hk hc hf hzc hzf); (try clear hk hc hf hzc hzf); (try clear hk hc hf hzc hzf); (try clear hk hc hf hzc hzf))
  go_cut [8, 9, 72] (fun s8 s9 s72 wx => s8 = (Value.int .i64 (op)) ∧ s9 = .slice A5 sl c5 ∧ s72 = .bool false ∧ Below X.heap.size X wx)
  case first =>
    clear hmn
    rcases hoc with rfl | rfl
    · have hs0 := hesl rfl
      subst hs0
      go_wp2_with ((go_at_call 43); (with_reducible refine Calls.mono (hK.out _) ?_); rintro e w6 ⟨rfl, hb6⟩)
      go_meet
      exact ⟨rfl, rfl, (by first | rfl | exact congrArg Value.bool (decide_eq_false (by omega))), bl_call hbQ hb6⟩
    · by_cases hs0 : 0 < sl
      · go_wp2_with ((go_at_call 43); (with_reducible refine Calls.mono (hK.out _) ?_); rintro e w6 ⟨rfl, hb6⟩)
        go_meet
        exact ⟨rfl, rfl, (by first | rfl | exact congrArg Value.bool (decide_eq_false (by omega))), bl_call hbQ hb6⟩
      · obtain rfl : sl = 0 := by omega
        go_wp2_with ((go_at_call 43); (with_reducible refine Calls.mono (hK.out _) ?_); rintro e w6 ⟨rfl, hb6⟩)
        go_meet
        exact ⟨rfl, rfl, (by first | rfl | exact congrArg Value.bool (decide_eq_false (by omega))), bl_call hbQ hb6⟩
  case rest =>
    obtain ⟨rfl, rfl, rfl, hb4X⟩ := hcut
    rename World => w4
    clear hesl hbQ hK
    go_upto_region 7 with fail
    first | ((with_reducible apply kp_in_step (hb := hb4X)); (with_reducible assumption); rintro ⟨hk, hc, hf, hzc, hzf⟩) | ((with_reducible refine kp_in_first hb4X ?_); rintro ⟨hk, hc, hf, hzc, hzf⟩)
    go_cut [11, 12] (fun s11 s12 wx => TwoC w.heap.size (some ⟨b, o, none⟩) ca T s11 s12 w4 wx)
    case first =>
      as_aux_lemma =>
        refine wp_region_C (fun w' => ∃ z : After w4, w' = z.val) (by kernel_rfl) ?_
        change wpAnyC _ _ _ _ _ _ _ (World.drew w4)
        refine wpAnyC_take (i := 0) (v := ?v0u) rfl (by kernel_rfl) (by kernel_rfl) (by kernel_rfl) ?q0u rfl ?y0u ?r0u; (case q0u => exact fun _ _ _ h => h); (case y0u => ((rintro _ ⟨z, rfl⟩); (go_simp); (try with_reducible rfl))); simp only [Act.put, List.getElem_toArray, List.getElem_cons_succ, List.getElem_cons_zero, List.setIfInBounds_toArray, List.set_cons_succ, List.set_cons_zero]
        refine wpAnyC_take (i := 2) (v := ?v2u) rfl (by kernel_rfl) (by kernel_rfl) (by kernel_rfl) ?q2u rfl ?y2u ?r2u; (case q2u => exact fun _ _ _ h => h); (case y2u => ((rintro _ ⟨z, rfl⟩); (go_simp); (try with_reducible rfl))); simp only [Act.put, List.getElem_toArray, List.getElem_cons_succ, List.getElem_cons_zero, List.setIfInBounds_toArray, List.set_cons_succ, List.set_cons_zero]
        have hB : Below w4.heap.size w4 w4.drew := bl_drew (Below.refl _ _)
        have hB0 := hB
        generalize w4.drew = y0 at *
        -- TREE
        refine wpAnyC_three (i := 1) (j := 4) (k := 5) (by kernel_rfl) rfl rfl rfl ⟨⟨_, hB⟩, rfl⟩ rfl rfl rfl (fun K hK => ?_) (fun K hK => ?_) (fun K hK => ?_)
        · skip
          (go_simp; go_at_call 16; (with_reducible refine Calls.mono (hCp.out _ (hb4X.trans (hB.mono hb4X.size))) ?_); rintro e y1 ⟨⟨A0, c1, rfl, hC1⟩, hbn⟩; obtain ⟨g1, _, e1, hR1, hg⟩ := RowP.head hC1 hT0; simp only [Value.slice.injEq] at e1; obtain ⟨rfl, -, rfl⟩ := e1; replace hR1 := RowP.le hR1 hB.size; (replace hB := hB.trans (hbn.mono hB.size)); clear hC1 hB0; (have hB0 := hB); refine hK _ _ ?_; clear hK K)
          clear hbn hg
          have z1 := hR1.base.2
          refine wpAnyC_three (i := 3) (j := 4) (k := 5) (by kernel_rfl) rfl rfl rfl ⟨⟨_, hB⟩, rfl⟩ rfl rfl rfl (fun K hK => ?_) (fun K hK => ?_) (fun K hK => ?_)
          · skip
            (go_simp; go_at_call 16; (with_reducible refine Calls.mono (hCp.out _ (hb4X.trans (hB.mono hb4X.size))) ?_); rintro e y2 ⟨⟨A0, c2, rfl, hC1⟩, hbn⟩; obtain ⟨g2, _, e1, hR2, hg⟩ := RowP.head hC1 hT0; simp only [Value.slice.injEq] at e1; obtain ⟨rfl, -, rfl⟩ := e1; replace hR2 := RowP.le hR2 hB.size; (replace hB := hB.trans (hbn.mono hB.size)); clear hC1 hB0; (have hB0 := hB); refine hK _ _ ?_; clear hK K)
            replace hR1 := hR1.below hbn
            have n12 : g1 < g2 := Nat.lt_of_lt_of_le z1 hg
            clear hbn hg
            have z1 := hR1.base.2
            have z2 := hR2.base.2
            refine wpAnyC_two (i := 4) (j := 5) (by kernel_rfl) rfl rfl ⟨⟨_, hB⟩, rfl⟩ rfl rfl (fun K hK => ?_) (fun K hK => ?_)
            · skip
              (go_simp; refine hK _ _ ?_; clear hK K)
              have hX := Blk.new y2 36 #[.slice none 0 0, (Value.int .i64 (0)), (Value.int .i64 (0)), (Value.int .i64 (0))]
              have hbn := bl_alloc (o := .cells #[.slice none 0 0, (Value.int .i64 (0)), (Value.int .i64 (0)), (Value.int .i64 (0))] 36) (Below.refl y2.heap.size y2)
              replace hR1 := hR1.below hbn
              replace hR2 := hR2.below hbn
              replace hB := hB.trans (hbn.mono hB.size)
              have hsz := hB0.size
              clear hbn
              generalize y2.alloc (.cells #[.slice none 0 0, (Value.int .i64 (0)), (Value.int .i64 (0)), (Value.int .i64 (0))] 36) = y3 at *
              generalize y2.heap.size = gx at *
              have n1x := z1
              have n2x := z2
              have ex : w4.heap.size ≤ gx := hsz
              clear hsz hB0 z1 z2
              have hB0 := hB
              have z1 := hR1.base.2
              have z2 := hR2.base.2
              have zx := hX.lt
              refine wpAnyC_one (i := 5) (by kernel_rfl) rfl ⟨⟨_, hB⟩, rfl⟩ rfl (fun K hK => ?_)
              (go_simp; refine hK _ _ ?_; clear hK K)
              have hY := Blk.new y3 36 #[.slice none 0 0, (Value.int .i64 (0)), (Value.int .i64 (0)), (Value.int .i64 (0))]
              have hbn := bl_alloc (o := .cells #[.slice none 0 0, (Value.int .i64 (0)), (Value.int .i64 (0)), (Value.int .i64 (0))] 36) (Below.refl y3.heap.size y3)
              replace hR1 := hR1.below hbn
              replace hR2 := hR2.below hbn
              replace hX := hX.below hbn
              replace hB := hB.trans (hbn.mono hB.size)
              have hsz := hB0.size
              clear hbn
              generalize y3.alloc (.cells #[.slice none 0 0, (Value.int .i64 (0)), (Value.int .i64 (0)), (Value.int .i64 (0))] 36) = y4 at *
              generalize y3.heap.size = gy at *
              have n1y := z1
              have n2y := z2
              have nxy := zx
              have ey : w4.heap.size ≤ gy := hsz
              clear hsz hB0 z1 z2 zx
              have hB0 := hB
              have z1 := hR1.base.2
              have z2 := hR2.base.2
              have zx := hX.lt
              have zy := hY.lt
              ((have nxy' : gx ≠ gy := by omega); (have m1x : g1 ≠ gx := by omega); (have m2x : g2 ≠ gx := by omega); (have m1y : g1 ≠ gy := by omega); (have m2y : g2 ≠ gy := by omega); (have m12 : g1 ≠ g2 := by omega); clear n12; ((try clear n1x); (try clear n1y); (try clear n2x); (try clear n2y); (try clear nx1); (try clear nx2); (try clear ny1); (try clear ny2); (try clear nxy); (try clear nyx); (try clear z1); (try clear z2); (try clear zx); (try clear zy); (try clear z1); (try clear z2); (try clear zx); (try clear zy)); (have HM := Lib.hid (And.intro nxy' (And.intro m1x (And.intro m2x (And.intro m1y (And.intro m2y (And.intro m12 (And.intro ex ey)))))))); (have HA := Lib.hid (And.intro hX (And.intro hY (And.intro hR1 hR2)))); clear nxy' m1x m2x m1y m2y m12 ex ey hX hY hR1 hR2 hB0; ((try clear hk hc hf hzc hzf); (try clear hk hc hf hzc hzf); (try clear hk hc hf hzc hzf); (try clear hk hc hf hzc hzf)); refine wpAnyC_one (i := 6) (by kernel_rfl) rfl ⟨⟨_, hB⟩, rfl⟩ rfl (fun K hK => ?_); refine wp_store_row 36 _ _ rfl gx #[.slice (some ⟨g1, 0, none⟩) T.pts.length c1, (Value.int .i64 (T.closed)), (Value.int .i64 (T.lo)), (Value.int .i64 (T.hi))] rfl rfl 36 _ HA.out.1 (by kernel_rfl) rfl (by simp [Value.oneCell']) (hK _ _ ?_); clear hK K; (have HB := Lib.hid (And.intro (st4 (gs := g1) (cs := c1) (T := T) HA.out.1) (And.intro (st4_far (gs := g1) (cs := c1) (T := T) HA.out.2.1 HM.out.1.symm) (And.intro (st4_row (gs := g1) (cs := c1) (T := T) HA.out.2.2.1 HM.out.2.1) (st4_row (gs := g1) (cs := c1) (T := T) HA.out.2.2.2 HM.out.2.2.1))))); replace hB := st4_bl (gs := g1) (cs := c1) (T := T) hB HM.out.2.2.2.2.2.2.1; clear HA; generalize (y4.setRow gx #[.slice (some ⟨g1, 0, none⟩) T.pts.length c1, (Value.int .i64 (T.closed)), (Value.int .i64 (T.lo)), (Value.int .i64 (T.hi))]) = yf at *; refine wpAnyC_one (i := 7) (by kernel_rfl) rfl ⟨⟨_, hB⟩, rfl⟩ rfl (fun K hK => ?_); refine wp_store_row 36 _ _ rfl gy #[.slice (some ⟨g2, 0, none⟩) T.pts.length c2, (Value.int .i64 (T.closed)), (Value.int .i64 (T.lo)), (Value.int .i64 (T.hi))] rfl rfl 36 _ HB.out.2.1 (by kernel_rfl) rfl (by simp [Value.oneCell']) (hK _ _ ?_); clear hK K; (have HC := Lib.hid (And.intro (st4_far (gs := g2) (cs := c2) (T := T) HB.out.1 HM.out.1) (And.intro (st4 (gs := g2) (cs := c2) (T := T) HB.out.2.1) (And.intro (st4_row (gs := g2) (cs := c2) (T := T) HB.out.2.2.1 HM.out.2.2.2.1) (st4_row (gs := g2) (cs := c2) (T := T) HB.out.2.2.2 HM.out.2.2.2.2.1))))); replace hB := st4_bl (gs := g2) (cs := c2) (T := T) hB HM.out.2.2.2.2.2.2.2; clear HB; generalize (yf.setRow gy #[.slice (some ⟨g2, 0, none⟩) T.pts.length c2, (Value.int .i64 (T.closed)), (Value.int .i64 (T.lo)), (Value.int .i64 (T.hi))]) = yg at *; refine wpAnyC_done (by kernel_rfl) ⟨⟨_, hB⟩, rfl⟩ ?_ _; simp only [Act.put, List.getElem_toArray, List.getElem_cons_succ, List.getElem_cons_zero, List.setIfInBounds_toArray, List.set_cons_succ, List.set_cons_zero]; go_wp2_with fail; go_meet; exact two_done HM HC hB)
            · skip
              (go_simp; refine hK _ _ ?_; clear hK K)
              have hY := Blk.new y2 36 #[.slice none 0 0, (Value.int .i64 (0)), (Value.int .i64 (0)), (Value.int .i64 (0))]
              have hbn := bl_alloc (o := .cells #[.slice none 0 0, (Value.int .i64 (0)), (Value.int .i64 (0)), (Value.int .i64 (0))] 36) (Below.refl y2.heap.size y2)
              replace hR1 := hR1.below hbn
              replace hR2 := hR2.below hbn
              replace hB := hB.trans (hbn.mono hB.size)
              have hsz := hB0.size
              clear hbn
              generalize y2.alloc (.cells #[.slice none 0 0, (Value.int .i64 (0)), (Value.int .i64 (0)), (Value.int .i64 (0))] 36) = y5 at *
              generalize y2.heap.size = gy at *
              have n1y := z1
              have n2y := z2
              have ey : w4.heap.size ≤ gy := hsz
              clear hsz hB0 z1 z2
              have hB0 := hB
              have z1 := hR1.base.2
              have z2 := hR2.base.2
              have zy := hY.lt
              refine wpAnyC_one (i := 4) (by kernel_rfl) rfl ⟨⟨_, hB⟩, rfl⟩ rfl (fun K hK => ?_)
              (go_simp; refine hK _ _ ?_; clear hK K)
              have hX := Blk.new y5 36 #[.slice none 0 0, (Value.int .i64 (0)), (Value.int .i64 (0)), (Value.int .i64 (0))]
              have hbn := bl_alloc (o := .cells #[.slice none 0 0, (Value.int .i64 (0)), (Value.int .i64 (0)), (Value.int .i64 (0))] 36) (Below.refl y5.heap.size y5)
              replace hR1 := hR1.below hbn
              replace hR2 := hR2.below hbn
              replace hY := hY.below hbn
              replace hB := hB.trans (hbn.mono hB.size)
              have hsz := hB0.size
              clear hbn
              generalize y5.alloc (.cells #[.slice none 0 0, (Value.int .i64 (0)), (Value.int .i64 (0)), (Value.int .i64 (0))] 36) = y6 at *
              generalize y5.heap.size = gx at *
              have n1x := z1
              have n2x := z2
              have nyx := zy
              have ex : w4.heap.size ≤ gx := hsz
              clear hsz hB0 z1 z2 zy
              have hB0 := hB
              have z1 := hR1.base.2
              have z2 := hR2.base.2
              have zx := hX.lt
              have zy := hY.lt
              ((have nxy' : gx ≠ gy := by omega); (have m1x : g1 ≠ gx := by omega); (have m2x : g2 ≠ gx := by omega); (have m1y : g1 ≠ gy := by omega); (have m2y : g2 ≠ gy := by omega); (have m12 : g1 ≠ g2 := by omega); clear n12; ((try clear n1x); (try clear n1y); (try clear n2x); (try clear n2y); (try clear nx1); (try clear nx2); (try clear ny1); (try clear ny2); (try clear nxy); (try clear nyx); (try clear z1); (try clear z2); (try clear zx); (try clear zy); (try clear z1); (try clear z2); (try clear zx); (try clear zy)); (have HM := Lib.hid (And.intro nxy' (And.intro m1x (And.intro m2x (And.intro m1y (And.intro m2y (And.intro m12 (And.intro ex ey)))))))); (have HA := Lib.hid (And.intro hX (And.intro hY (And.intro hR1 hR2)))); clear nxy' m1x m2x m1y m2y m12 ex ey hX hY hR1 hR2 hB0; ((try clear hk hc hf hzc hzf); (try clear hk hc hf hzc hzf); (try clear hk hc hf hzc hzf); (try clear hk hc hf hzc hzf)); refine wpAnyC_one (i := 6) (by kernel_rfl) rfl ⟨⟨_, hB⟩, rfl⟩ rfl (fun K hK => ?_); refine wp_store_row 36 _ _ rfl gx #[.slice (some ⟨g1, 0, none⟩) T.pts.length c1, (Value.int .i64 (T.closed)), (Value.int .i64 (T.lo)), (Value.int .i64 (T.hi))] rfl rfl 36 _ HA.out.1 (by kernel_rfl) rfl (by simp [Value.oneCell']) (hK _ _ ?_); clear hK K; (have HB := Lib.hid (And.intro (st4 (gs := g1) (cs := c1) (T := T) HA.out.1) (And.intro (st4_far (gs := g1) (cs := c1) (T := T) HA.out.2.1 HM.out.1.symm) (And.intro (st4_row (gs := g1) (cs := c1) (T := T) HA.out.2.2.1 HM.out.2.1) (st4_row (gs := g1) (cs := c1) (T := T) HA.out.2.2.2 HM.out.2.2.1))))); replace hB := st4_bl (gs := g1) (cs := c1) (T := T) hB HM.out.2.2.2.2.2.2.1; clear HA; generalize (y6.setRow gx #[.slice (some ⟨g1, 0, none⟩) T.pts.length c1, (Value.int .i64 (T.closed)), (Value.int .i64 (T.lo)), (Value.int .i64 (T.hi))]) = yf at *; refine wpAnyC_one (i := 7) (by kernel_rfl) rfl ⟨⟨_, hB⟩, rfl⟩ rfl (fun K hK => ?_); refine wp_store_row 36 _ _ rfl gy #[.slice (some ⟨g2, 0, none⟩) T.pts.length c2, (Value.int .i64 (T.closed)), (Value.int .i64 (T.lo)), (Value.int .i64 (T.hi))] rfl rfl 36 _ HB.out.2.1 (by kernel_rfl) rfl (by simp [Value.oneCell']) (hK _ _ ?_); clear hK K; (have HC := Lib.hid (And.intro (st4_far (gs := g2) (cs := c2) (T := T) HB.out.1 HM.out.1) (And.intro (st4 (gs := g2) (cs := c2) (T := T) HB.out.2.1) (And.intro (st4_row (gs := g2) (cs := c2) (T := T) HB.out.2.2.1 HM.out.2.2.2.1) (st4_row (gs := g2) (cs := c2) (T := T) HB.out.2.2.2 HM.out.2.2.2.2.1))))); replace hB := st4_bl (gs := g2) (cs := c2) (T := T) hB HM.out.2.2.2.2.2.2.2; clear HB; generalize (yf.setRow gy #[.slice (some ⟨g2, 0, none⟩) T.pts.length c2, (Value.int .i64 (T.closed)), (Value.int .i64 (T.lo)), (Value.int .i64 (T.hi))]) = yg at *; refine wpAnyC_done (by kernel_rfl) ⟨⟨_, hB⟩, rfl⟩ ?_ _; simp only [Act.put, List.getElem_toArray, List.getElem_cons_succ, List.getElem_cons_zero, List.setIfInBounds_toArray, List.set_cons_succ, List.set_cons_zero]; go_wp2_with fail; go_meet; exact two_done HM HC hB)
          · skip
            (go_simp; refine hK _ _ ?_; clear hK K)
            have hX := Blk.new y1 36 #[.slice none 0 0, (Value.int .i64 (0)), (Value.int .i64 (0)), (Value.int .i64 (0))]
            have hbn := bl_alloc (o := .cells #[.slice none 0 0, (Value.int .i64 (0)), (Value.int .i64 (0)), (Value.int .i64 (0))] 36) (Below.refl y1.heap.size y1)
            replace hR1 := hR1.below hbn
            replace hB := hB.trans (hbn.mono hB.size)
            have hsz := hB0.size
            clear hbn
            generalize y1.alloc (.cells #[.slice none 0 0, (Value.int .i64 (0)), (Value.int .i64 (0)), (Value.int .i64 (0))] 36) = y7 at *
            generalize y1.heap.size = gx at *
            have n1x := z1
            have ex : w4.heap.size ≤ gx := hsz
            clear hsz hB0 z1
            have hB0 := hB
            have z1 := hR1.base.2
            have zx := hX.lt
            refine wpAnyC_two (i := 3) (j := 5) (by kernel_rfl) rfl rfl ⟨⟨_, hB⟩, rfl⟩ rfl rfl (fun K hK => ?_) (fun K hK => ?_)
            · skip
              (go_simp; go_at_call 16; (with_reducible refine Calls.mono (hCp.out _ (hb4X.trans (hB.mono hb4X.size))) ?_); rintro e y8 ⟨⟨A0, c2, rfl, hC1⟩, hbn⟩; obtain ⟨g2, _, e1, hR2, hg⟩ := RowP.head hC1 hT0; simp only [Value.slice.injEq] at e1; obtain ⟨rfl, -, rfl⟩ := e1; replace hR2 := RowP.le hR2 hB.size; (replace hB := hB.trans (hbn.mono hB.size)); clear hC1 hB0; (have hB0 := hB); refine hK _ _ ?_; clear hK K)
              replace hR1 := hR1.below hbn
              replace hX := hX.below hbn
              have n12 : g1 < g2 := Nat.lt_of_lt_of_le z1 hg
              have nx2 : gx < g2 := Nat.lt_of_lt_of_le zx hg
              clear hbn hg
              have z1 := hR1.base.2
              have z2 := hR2.base.2
              have zx := hX.lt
              refine wpAnyC_one (i := 5) (by kernel_rfl) rfl ⟨⟨_, hB⟩, rfl⟩ rfl (fun K hK => ?_)
              (go_simp; refine hK _ _ ?_; clear hK K)
              have hY := Blk.new y8 36 #[.slice none 0 0, (Value.int .i64 (0)), (Value.int .i64 (0)), (Value.int .i64 (0))]
              have hbn := bl_alloc (o := .cells #[.slice none 0 0, (Value.int .i64 (0)), (Value.int .i64 (0)), (Value.int .i64 (0))] 36) (Below.refl y8.heap.size y8)
              replace hR1 := hR1.below hbn
              replace hR2 := hR2.below hbn
              replace hX := hX.below hbn
              replace hB := hB.trans (hbn.mono hB.size)
              have hsz := hB0.size
              clear hbn
              generalize y8.alloc (.cells #[.slice none 0 0, (Value.int .i64 (0)), (Value.int .i64 (0)), (Value.int .i64 (0))] 36) = y9 at *
              generalize y8.heap.size = gy at *
              have n1y := z1
              have n2y := z2
              have nxy := zx
              have ey : w4.heap.size ≤ gy := hsz
              clear hsz hB0 z1 z2 zx
              have hB0 := hB
              have z1 := hR1.base.2
              have z2 := hR2.base.2
              have zx := hX.lt
              have zy := hY.lt
              ((have nxy' : gx ≠ gy := by omega); (have m1x : g1 ≠ gx := by omega); (have m2x : g2 ≠ gx := by omega); (have m1y : g1 ≠ gy := by omega); (have m2y : g2 ≠ gy := by omega); (have m12 : g1 ≠ g2 := by omega); clear n12; ((try clear n1x); (try clear n1y); (try clear n2x); (try clear n2y); (try clear nx1); (try clear nx2); (try clear ny1); (try clear ny2); (try clear nxy); (try clear nyx); (try clear z1); (try clear z2); (try clear zx); (try clear zy); (try clear z1); (try clear z2); (try clear zx); (try clear zy)); (have HM := Lib.hid (And.intro nxy' (And.intro m1x (And.intro m2x (And.intro m1y (And.intro m2y (And.intro m12 (And.intro ex ey)))))))); (have HA := Lib.hid (And.intro hX (And.intro hY (And.intro hR1 hR2)))); clear nxy' m1x m2x m1y m2y m12 ex ey hX hY hR1 hR2 hB0; ((try clear hk hc hf hzc hzf); (try clear hk hc hf hzc hzf); (try clear hk hc hf hzc hzf); (try clear hk hc hf hzc hzf)); refine wpAnyC_one (i := 6) (by kernel_rfl) rfl ⟨⟨_, hB⟩, rfl⟩ rfl (fun K hK => ?_); refine wp_store_row 36 _ _ rfl gx #[.slice (some ⟨g1, 0, none⟩) T.pts.length c1, (Value.int .i64 (T.closed)), (Value.int .i64 (T.lo)), (Value.int .i64 (T.hi))] rfl rfl 36 _ HA.out.1 (by kernel_rfl) rfl (by simp [Value.oneCell']) (hK _ _ ?_); clear hK K; (have HB := Lib.hid (And.intro (st4 (gs := g1) (cs := c1) (T := T) HA.out.1) (And.intro (st4_far (gs := g1) (cs := c1) (T := T) HA.out.2.1 HM.out.1.symm) (And.intro (st4_row (gs := g1) (cs := c1) (T := T) HA.out.2.2.1 HM.out.2.1) (st4_row (gs := g1) (cs := c1) (T := T) HA.out.2.2.2 HM.out.2.2.1))))); replace hB := st4_bl (gs := g1) (cs := c1) (T := T) hB HM.out.2.2.2.2.2.2.1; clear HA; generalize (y9.setRow gx #[.slice (some ⟨g1, 0, none⟩) T.pts.length c1, (Value.int .i64 (T.closed)), (Value.int .i64 (T.lo)), (Value.int .i64 (T.hi))]) = yf at *; refine wpAnyC_one (i := 7) (by kernel_rfl) rfl ⟨⟨_, hB⟩, rfl⟩ rfl (fun K hK => ?_); refine wp_store_row 36 _ _ rfl gy #[.slice (some ⟨g2, 0, none⟩) T.pts.length c2, (Value.int .i64 (T.closed)), (Value.int .i64 (T.lo)), (Value.int .i64 (T.hi))] rfl rfl 36 _ HB.out.2.1 (by kernel_rfl) rfl (by simp [Value.oneCell']) (hK _ _ ?_); clear hK K; (have HC := Lib.hid (And.intro (st4_far (gs := g2) (cs := c2) (T := T) HB.out.1 HM.out.1) (And.intro (st4 (gs := g2) (cs := c2) (T := T) HB.out.2.1) (And.intro (st4_row (gs := g2) (cs := c2) (T := T) HB.out.2.2.1 HM.out.2.2.2.1) (st4_row (gs := g2) (cs := c2) (T := T) HB.out.2.2.2 HM.out.2.2.2.2.1))))); replace hB := st4_bl (gs := g2) (cs := c2) (T := T) hB HM.out.2.2.2.2.2.2.2; clear HB; generalize (yf.setRow gy #[.slice (some ⟨g2, 0, none⟩) T.pts.length c2, (Value.int .i64 (T.closed)), (Value.int .i64 (T.lo)), (Value.int .i64 (T.hi))]) = yg at *; refine wpAnyC_done (by kernel_rfl) ⟨⟨_, hB⟩, rfl⟩ ?_ _; simp only [Act.put, List.getElem_toArray, List.getElem_cons_succ, List.getElem_cons_zero, List.setIfInBounds_toArray, List.set_cons_succ, List.set_cons_zero]; go_wp2_with fail; go_meet; exact two_done HM HC hB)
            · skip
              (go_simp; refine hK _ _ ?_; clear hK K)
              have hY := Blk.new y7 36 #[.slice none 0 0, (Value.int .i64 (0)), (Value.int .i64 (0)), (Value.int .i64 (0))]
              have hbn := bl_alloc (o := .cells #[.slice none 0 0, (Value.int .i64 (0)), (Value.int .i64 (0)), (Value.int .i64 (0))] 36) (Below.refl y7.heap.size y7)
              replace hR1 := hR1.below hbn
              replace hX := hX.below hbn
              replace hB := hB.trans (hbn.mono hB.size)
              have hsz := hB0.size
              clear hbn
              generalize y7.alloc (.cells #[.slice none 0 0, (Value.int .i64 (0)), (Value.int .i64 (0)), (Value.int .i64 (0))] 36) = y10 at *
              generalize y7.heap.size = gy at *
              have n1y := z1
              have nxy := zx
              have ey : w4.heap.size ≤ gy := hsz
              clear hsz hB0 z1 zx
              have hB0 := hB
              have z1 := hR1.base.2
              have zx := hX.lt
              have zy := hY.lt
              refine wpAnyC_one (i := 3) (by kernel_rfl) rfl ⟨⟨_, hB⟩, rfl⟩ rfl (fun K hK => ?_)
              (go_simp; go_at_call 16; (with_reducible refine Calls.mono (hCp.out _ (hb4X.trans (hB.mono hb4X.size))) ?_); rintro e y11 ⟨⟨A0, c2, rfl, hC1⟩, hbn⟩; obtain ⟨g2, _, e1, hR2, hg⟩ := RowP.head hC1 hT0; simp only [Value.slice.injEq] at e1; obtain ⟨rfl, -, rfl⟩ := e1; replace hR2 := RowP.le hR2 hB.size; (replace hB := hB.trans (hbn.mono hB.size)); clear hC1 hB0; (have hB0 := hB); refine hK _ _ ?_; clear hK K)
              replace hR1 := hR1.below hbn
              replace hX := hX.below hbn
              replace hY := hY.below hbn
              have n12 : g1 < g2 := Nat.lt_of_lt_of_le z1 hg
              have nx2 : gx < g2 := Nat.lt_of_lt_of_le zx hg
              have ny2 : gy < g2 := Nat.lt_of_lt_of_le zy hg
              clear hbn hg
              have z1 := hR1.base.2
              have z2 := hR2.base.2
              have zx := hX.lt
              have zy := hY.lt
              ((have nxy' : gx ≠ gy := by omega); (have m1x : g1 ≠ gx := by omega); (have m2x : g2 ≠ gx := by omega); (have m1y : g1 ≠ gy := by omega); (have m2y : g2 ≠ gy := by omega); (have m12 : g1 ≠ g2 := by omega); clear n12; ((try clear n1x); (try clear n1y); (try clear n2x); (try clear n2y); (try clear nx1); (try clear nx2); (try clear ny1); (try clear ny2); (try clear nxy); (try clear nyx); (try clear z1); (try clear z2); (try clear zx); (try clear zy); (try clear z1); (try clear z2); (try clear zx); (try clear zy)); (have HM := Lib.hid (And.intro nxy' (And.intro m1x (And.intro m2x (And.intro m1y (And.intro m2y (And.intro m12 (And.intro ex ey)))))))); (have HA := Lib.hid (And.intro hX (And.intro hY (And.intro hR1 hR2)))); clear nxy' m1x m2x m1y m2y m12 ex ey hX hY hR1 hR2 hB0; ((try clear hk hc hf hzc hzf); (try clear hk hc hf hzc hzf); (try clear hk hc hf hzc hzf); (try clear hk hc hf hzc hzf)); refine wpAnyC_one (i := 6) (by kernel_rfl) rfl ⟨⟨_, hB⟩, rfl⟩ rfl (fun K hK => ?_); refine wp_store_row 36 _ _ rfl gx #[.slice (some ⟨g1, 0, none⟩) T.pts.length c1, (Value.int .i64 (T.closed)), (Value.int .i64 (T.lo)), (Value.int .i64 (T.hi))] rfl rfl 36 _ HA.out.1 (by kernel_rfl) rfl (by simp [Value.oneCell']) (hK _ _ ?_); clear hK K; (have HB := Lib.hid (And.intro (st4 (gs := g1) (cs := c1) (T := T) HA.out.1) (And.intro (st4_far (gs := g1) (cs := c1) (T := T) HA.out.2.1 HM.out.1.symm) (And.intro (st4_row (gs := g1) (cs := c1) (T := T) HA.out.2.2.1 HM.out.2.1) (st4_row (gs := g1) (cs := c1) (T := T) HA.out.2.2.2 HM.out.2.2.1))))); replace hB := st4_bl (gs := g1) (cs := c1) (T := T) hB HM.out.2.2.2.2.2.2.1; clear HA; generalize (y11.setRow gx #[.slice (some ⟨g1, 0, none⟩) T.pts.length c1, (Value.int .i64 (T.closed)), (Value.int .i64 (T.lo)), (Value.int .i64 (T.hi))]) = yf at *; refine wpAnyC_one (i := 7) (by kernel_rfl) rfl ⟨⟨_, hB⟩, rfl⟩ rfl (fun K hK => ?_); refine wp_store_row 36 _ _ rfl gy #[.slice (some ⟨g2, 0, none⟩) T.pts.length c2, (Value.int .i64 (T.closed)), (Value.int .i64 (T.lo)), (Value.int .i64 (T.hi))] rfl rfl 36 _ HB.out.2.1 (by kernel_rfl) rfl (by simp [Value.oneCell']) (hK _ _ ?_); clear hK K; (have HC := Lib.hid (And.intro (st4_far (gs := g2) (cs := c2) (T := T) HB.out.1 HM.out.1) (And.intro (st4 (gs := g2) (cs := c2) (T := T) HB.out.2.1) (And.intro (st4_row (gs := g2) (cs := c2) (T := T) HB.out.2.2.1 HM.out.2.2.2.1) (st4_row (gs := g2) (cs := c2) (T := T) HB.out.2.2.2 HM.out.2.2.2.2.1))))); replace hB := st4_bl (gs := g2) (cs := c2) (T := T) hB HM.out.2.2.2.2.2.2.2; clear HB; generalize (yf.setRow gy #[.slice (some ⟨g2, 0, none⟩) T.pts.length c2, (Value.int .i64 (T.closed)), (Value.int .i64 (T.lo)), (Value.int .i64 (T.hi))]) = yg at *; refine wpAnyC_done (by kernel_rfl) ⟨⟨_, hB⟩, rfl⟩ ?_ _; simp only [Act.put, List.getElem_toArray, List.getElem_cons_succ, List.getElem_cons_zero, List.setIfInBounds_toArray, List.set_cons_succ, List.set_cons_zero]; go_wp2_with fail; go_meet; exact two_done HM HC hB)
          · skip
            (go_simp; refine hK _ _ ?_; clear hK K)
            have hY := Blk.new y1 36 #[.slice none 0 0, (Value.int .i64 (0)), (Value.int .i64 (0)), (Value.int .i64 (0))]
            have hbn := bl_alloc (o := .cells #[.slice none 0 0, (Value.int .i64 (0)), (Value.int .i64 (0)), (Value.int .i64 (0))] 36) (Below.refl y1.heap.size y1)
            replace hR1 := hR1.below hbn
            replace hB := hB.trans (hbn.mono hB.size)
            have hsz := hB0.size
            clear hbn
            generalize y1.alloc (.cells #[.slice none 0 0, (Value.int .i64 (0)), (Value.int .i64 (0)), (Value.int .i64 (0))] 36) = y12 at *
            generalize y1.heap.size = gy at *
            have n1y := z1
            have ey : w4.heap.size ≤ gy := hsz
            clear hsz hB0 z1
            have hB0 := hB
            have z1 := hR1.base.2
            have zy := hY.lt
            refine wpAnyC_two (i := 3) (j := 4) (by kernel_rfl) rfl rfl ⟨⟨_, hB⟩, rfl⟩ rfl rfl (fun K hK => ?_) (fun K hK => ?_)
            · skip
              (go_simp; go_at_call 16; (with_reducible refine Calls.mono (hCp.out _ (hb4X.trans (hB.mono hb4X.size))) ?_); rintro e y13 ⟨⟨A0, c2, rfl, hC1⟩, hbn⟩; obtain ⟨g2, _, e1, hR2, hg⟩ := RowP.head hC1 hT0; simp only [Value.slice.injEq] at e1; obtain ⟨rfl, -, rfl⟩ := e1; replace hR2 := RowP.le hR2 hB.size; (replace hB := hB.trans (hbn.mono hB.size)); clear hC1 hB0; (have hB0 := hB); refine hK _ _ ?_; clear hK K)
              replace hR1 := hR1.below hbn
              replace hY := hY.below hbn
              have n12 : g1 < g2 := Nat.lt_of_lt_of_le z1 hg
              have ny2 : gy < g2 := Nat.lt_of_lt_of_le zy hg
              clear hbn hg
              have z1 := hR1.base.2
              have z2 := hR2.base.2
              have zy := hY.lt
              refine wpAnyC_one (i := 4) (by kernel_rfl) rfl ⟨⟨_, hB⟩, rfl⟩ rfl (fun K hK => ?_)
              (go_simp; refine hK _ _ ?_; clear hK K)
              have hX := Blk.new y13 36 #[.slice none 0 0, (Value.int .i64 (0)), (Value.int .i64 (0)), (Value.int .i64 (0))]
              have hbn := bl_alloc (o := .cells #[.slice none 0 0, (Value.int .i64 (0)), (Value.int .i64 (0)), (Value.int .i64 (0))] 36) (Below.refl y13.heap.size y13)
              replace hR1 := hR1.below hbn
              replace hR2 := hR2.below hbn
              replace hY := hY.below hbn
              replace hB := hB.trans (hbn.mono hB.size)
              have hsz := hB0.size
              clear hbn
              generalize y13.alloc (.cells #[.slice none 0 0, (Value.int .i64 (0)), (Value.int .i64 (0)), (Value.int .i64 (0))] 36) = y14 at *
              generalize y13.heap.size = gx at *
              have n1x := z1
              have n2x := z2
              have nyx := zy
              have ex : w4.heap.size ≤ gx := hsz
              clear hsz hB0 z1 z2 zy
              have hB0 := hB
              have z1 := hR1.base.2
              have z2 := hR2.base.2
              have zx := hX.lt
              have zy := hY.lt
              ((have nxy' : gx ≠ gy := by omega); (have m1x : g1 ≠ gx := by omega); (have m2x : g2 ≠ gx := by omega); (have m1y : g1 ≠ gy := by omega); (have m2y : g2 ≠ gy := by omega); (have m12 : g1 ≠ g2 := by omega); clear n12; ((try clear n1x); (try clear n1y); (try clear n2x); (try clear n2y); (try clear nx1); (try clear nx2); (try clear ny1); (try clear ny2); (try clear nxy); (try clear nyx); (try clear z1); (try clear z2); (try clear zx); (try clear zy); (try clear z1); (try clear z2); (try clear zx); (try clear zy)); (have HM := Lib.hid (And.intro nxy' (And.intro m1x (And.intro m2x (And.intro m1y (And.intro m2y (And.intro m12 (And.intro ex ey)))))))); (have HA := Lib.hid (And.intro hX (And.intro hY (And.intro hR1 hR2)))); clear nxy' m1x m2x m1y m2y m12 ex ey hX hY hR1 hR2 hB0; ((try clear hk hc hf hzc hzf); (try clear hk hc hf hzc hzf); (try clear hk hc hf hzc hzf); (try clear hk hc hf hzc hzf)); refine wpAnyC_one (i := 6) (by kernel_rfl) rfl ⟨⟨_, hB⟩, rfl⟩ rfl (fun K hK => ?_); refine wp_store_row 36 _ _ rfl gx #[.slice (some ⟨g1, 0, none⟩) T.pts.length c1, (Value.int .i64 (T.closed)), (Value.int .i64 (T.lo)), (Value.int .i64 (T.hi))] rfl rfl 36 _ HA.out.1 (by kernel_rfl) rfl (by simp [Value.oneCell']) (hK _ _ ?_); clear hK K; (have HB := Lib.hid (And.intro (st4 (gs := g1) (cs := c1) (T := T) HA.out.1) (And.intro (st4_far (gs := g1) (cs := c1) (T := T) HA.out.2.1 HM.out.1.symm) (And.intro (st4_row (gs := g1) (cs := c1) (T := T) HA.out.2.2.1 HM.out.2.1) (st4_row (gs := g1) (cs := c1) (T := T) HA.out.2.2.2 HM.out.2.2.1))))); replace hB := st4_bl (gs := g1) (cs := c1) (T := T) hB HM.out.2.2.2.2.2.2.1; clear HA; generalize (y14.setRow gx #[.slice (some ⟨g1, 0, none⟩) T.pts.length c1, (Value.int .i64 (T.closed)), (Value.int .i64 (T.lo)), (Value.int .i64 (T.hi))]) = yf at *; refine wpAnyC_one (i := 7) (by kernel_rfl) rfl ⟨⟨_, hB⟩, rfl⟩ rfl (fun K hK => ?_); refine wp_store_row 36 _ _ rfl gy #[.slice (some ⟨g2, 0, none⟩) T.pts.length c2, (Value.int .i64 (T.closed)), (Value.int .i64 (T.lo)), (Value.int .i64 (T.hi))] rfl rfl 36 _ HB.out.2.1 (by kernel_rfl) rfl (by simp [Value.oneCell']) (hK _ _ ?_); clear hK K; (have HC := Lib.hid (And.intro (st4_far (gs := g2) (cs := c2) (T := T) HB.out.1 HM.out.1) (And.intro (st4 (gs := g2) (cs := c2) (T := T) HB.out.2.1) (And.intro (st4_row (gs := g2) (cs := c2) (T := T) HB.out.2.2.1 HM.out.2.2.2.1) (st4_row (gs := g2) (cs := c2) (T := T) HB.out.2.2.2 HM.out.2.2.2.2.1))))); replace hB := st4_bl (gs := g2) (cs := c2) (T := T) hB HM.out.2.2.2.2.2.2.2; clear HB; generalize (yf.setRow gy #[.slice (some ⟨g2, 0, none⟩) T.pts.length c2, (Value.int .i64 (T.closed)), (Value.int .i64 (T.lo)), (Value.int .i64 (T.hi))]) = yg at *; refine wpAnyC_done (by kernel_rfl) ⟨⟨_, hB⟩, rfl⟩ ?_ _; simp only [Act.put, List.getElem_toArray, List.getElem_cons_succ, List.getElem_cons_zero, List.setIfInBounds_toArray, List.set_cons_succ, List.set_cons_zero]; go_wp2_with fail; go_meet; exact two_done HM HC hB)
            · skip
              (go_simp; refine hK _ _ ?_; clear hK K)
              have hX := Blk.new y12 36 #[.slice none 0 0, (Value.int .i64 (0)), (Value.int .i64 (0)), (Value.int .i64 (0))]
              have hbn := bl_alloc (o := .cells #[.slice none 0 0, (Value.int .i64 (0)), (Value.int .i64 (0)), (Value.int .i64 (0))] 36) (Below.refl y12.heap.size y12)
              replace hR1 := hR1.below hbn
              replace hY := hY.below hbn
              replace hB := hB.trans (hbn.mono hB.size)
              have hsz := hB0.size
              clear hbn
              generalize y12.alloc (.cells #[.slice none 0 0, (Value.int .i64 (0)), (Value.int .i64 (0)), (Value.int .i64 (0))] 36) = y15 at *
              generalize y12.heap.size = gx at *
              have n1x := z1
              have nyx := zy
              have ex : w4.heap.size ≤ gx := hsz
              clear hsz hB0 z1 zy
              have hB0 := hB
              have z1 := hR1.base.2
              have zx := hX.lt
              have zy := hY.lt
              refine wpAnyC_one (i := 3) (by kernel_rfl) rfl ⟨⟨_, hB⟩, rfl⟩ rfl (fun K hK => ?_)
              (go_simp; go_at_call 16; (with_reducible refine Calls.mono (hCp.out _ (hb4X.trans (hB.mono hb4X.size))) ?_); rintro e y16 ⟨⟨A0, c2, rfl, hC1⟩, hbn⟩; obtain ⟨g2, _, e1, hR2, hg⟩ := RowP.head hC1 hT0; simp only [Value.slice.injEq] at e1; obtain ⟨rfl, -, rfl⟩ := e1; replace hR2 := RowP.le hR2 hB.size; (replace hB := hB.trans (hbn.mono hB.size)); clear hC1 hB0; (have hB0 := hB); refine hK _ _ ?_; clear hK K)
              replace hR1 := hR1.below hbn
              replace hX := hX.below hbn
              replace hY := hY.below hbn
              have n12 : g1 < g2 := Nat.lt_of_lt_of_le z1 hg
              have nx2 : gx < g2 := Nat.lt_of_lt_of_le zx hg
              have ny2 : gy < g2 := Nat.lt_of_lt_of_le zy hg
              clear hbn hg
              have z1 := hR1.base.2
              have z2 := hR2.base.2
              have zx := hX.lt
              have zy := hY.lt
              ((have nxy' : gx ≠ gy := by omega); (have m1x : g1 ≠ gx := by omega); (have m2x : g2 ≠ gx := by omega); (have m1y : g1 ≠ gy := by omega); (have m2y : g2 ≠ gy := by omega); (have m12 : g1 ≠ g2 := by omega); clear n12; ((try clear n1x); (try clear n1y); (try clear n2x); (try clear n2y); (try clear nx1); (try clear nx2); (try clear ny1); (try clear ny2); (try clear nxy); (try clear nyx); (try clear z1); (try clear z2); (try clear zx); (try clear zy); (try clear z1); (try clear z2); (try clear zx); (try clear zy)); (have HM := Lib.hid (And.intro nxy' (And.intro m1x (And.intro m2x (And.intro m1y (And.intro m2y (And.intro m12 (And.intro ex ey)))))))); (have HA := Lib.hid (And.intro hX (And.intro hY (And.intro hR1 hR2)))); clear nxy' m1x m2x m1y m2y m12 ex ey hX hY hR1 hR2 hB0; ((try clear hk hc hf hzc hzf); (try clear hk hc hf hzc hzf); (try clear hk hc hf hzc hzf); (try clear hk hc hf hzc hzf)); refine wpAnyC_one (i := 6) (by kernel_rfl) rfl ⟨⟨_, hB⟩, rfl⟩ rfl (fun K hK => ?_); refine wp_store_row 36 _ _ rfl gx #[.slice (some ⟨g1, 0, none⟩) T.pts.length c1, (Value.int .i64 (T.closed)), (Value.int .i64 (T.lo)), (Value.int .i64 (T.hi))] rfl rfl 36 _ HA.out.1 (by kernel_rfl) rfl (by simp [Value.oneCell']) (hK _ _ ?_); clear hK K; (have HB := Lib.hid (And.intro (st4 (gs := g1) (cs := c1) (T := T) HA.out.1) (And.intro (st4_far (gs := g1) (cs := c1) (T := T) HA.out.2.1 HM.out.1.symm) (And.intro (st4_row (gs := g1) (cs := c1) (T := T) HA.out.2.2.1 HM.out.2.1) (st4_row (gs := g1) (cs := c1) (T := T) HA.out.2.2.2 HM.out.2.2.1))))); replace hB := st4_bl (gs := g1) (cs := c1) (T := T) hB HM.out.2.2.2.2.2.2.1; clear HA; generalize (y16.setRow gx #[.slice (some ⟨g1, 0, none⟩) T.pts.length c1, (Value.int .i64 (T.closed)), (Value.int .i64 (T.lo)), (Value.int .i64 (T.hi))]) = yf at *; refine wpAnyC_one (i := 7) (by kernel_rfl) rfl ⟨⟨_, hB⟩, rfl⟩ rfl (fun K hK => ?_); refine wp_store_row 36 _ _ rfl gy #[.slice (some ⟨g2, 0, none⟩) T.pts.length c2, (Value.int .i64 (T.closed)), (Value.int .i64 (T.lo)), (Value.int .i64 (T.hi))] rfl rfl 36 _ HB.out.2.1 (by kernel_rfl) rfl (by simp [Value.oneCell']) (hK _ _ ?_); clear hK K; (have HC := Lib.hid (And.intro (st4_far (gs := g2) (cs := c2) (T := T) HB.out.1 HM.out.1) (And.intro (st4 (gs := g2) (cs := c2) (T := T) HB.out.2.1) (And.intro (st4_row (gs := g2) (cs := c2) (T := T) HB.out.2.2.1 HM.out.2.2.2.1) (st4_row (gs := g2) (cs := c2) (T := T) HB.out.2.2.2 HM.out.2.2.2.2.1))))); replace hB := st4_bl (gs := g2) (cs := c2) (T := T) hB HM.out.2.2.2.2.2.2.2; clear HB; generalize (yf.setRow gy #[.slice (some ⟨g2, 0, none⟩) T.pts.length c2, (Value.int .i64 (T.closed)), (Value.int .i64 (T.lo)), (Value.int .i64 (T.hi))]) = yg at *; refine wpAnyC_done (by kernel_rfl) ⟨⟨_, hB⟩, rfl⟩ ?_ _; simp only [Act.put, List.getElem_toArray, List.getElem_cons_succ, List.getElem_cons_zero, List.setIfInBounds_toArray, List.set_cons_succ, List.set_cons_zero]; go_wp2_with fail; go_meet; exact two_done HM HC hB)
        · skip
          (go_simp; refine hK _ _ ?_; clear hK K)
          have hX := Blk.new y0 36 #[.slice none 0 0, (Value.int .i64 (0)), (Value.int .i64 (0)), (Value.int .i64 (0))]
          have hbn := bl_alloc (o := .cells #[.slice none 0 0, (Value.int .i64 (0)), (Value.int .i64 (0)), (Value.int .i64 (0))] 36) (Below.refl y0.heap.size y0)
          replace hB := hB.trans (hbn.mono hB.size)
          have hsz := hB0.size
          clear hbn
          generalize y0.alloc (.cells #[.slice none 0 0, (Value.int .i64 (0)), (Value.int .i64 (0)), (Value.int .i64 (0))] 36) = y17 at *
          generalize y0.heap.size = gx at *
          have ex : w4.heap.size ≤ gx := hsz
          clear hsz hB0 
          have hB0 := hB
          have zx := hX.lt
          refine wpAnyC_two (i := 1) (j := 5) (by kernel_rfl) rfl rfl ⟨⟨_, hB⟩, rfl⟩ rfl rfl (fun K hK => ?_) (fun K hK => ?_)
          · skip
            (go_simp; go_at_call 16; (with_reducible refine Calls.mono (hCp.out _ (hb4X.trans (hB.mono hb4X.size))) ?_); rintro e y18 ⟨⟨A0, c1, rfl, hC1⟩, hbn⟩; obtain ⟨g1, _, e1, hR1, hg⟩ := RowP.head hC1 hT0; simp only [Value.slice.injEq] at e1; obtain ⟨rfl, -, rfl⟩ := e1; replace hR1 := RowP.le hR1 hB.size; (replace hB := hB.trans (hbn.mono hB.size)); clear hC1 hB0; (have hB0 := hB); refine hK _ _ ?_; clear hK K)
            replace hX := hX.below hbn
            have nx1 : gx < g1 := Nat.lt_of_lt_of_le zx hg
            clear hbn hg
            have z1 := hR1.base.2
            have zx := hX.lt
            refine wpAnyC_two (i := 3) (j := 5) (by kernel_rfl) rfl rfl ⟨⟨_, hB⟩, rfl⟩ rfl rfl (fun K hK => ?_) (fun K hK => ?_)
            · skip
              (go_simp; go_at_call 16; (with_reducible refine Calls.mono (hCp.out _ (hb4X.trans (hB.mono hb4X.size))) ?_); rintro e y19 ⟨⟨A0, c2, rfl, hC1⟩, hbn⟩; obtain ⟨g2, _, e1, hR2, hg⟩ := RowP.head hC1 hT0; simp only [Value.slice.injEq] at e1; obtain ⟨rfl, -, rfl⟩ := e1; replace hR2 := RowP.le hR2 hB.size; (replace hB := hB.trans (hbn.mono hB.size)); clear hC1 hB0; (have hB0 := hB); refine hK _ _ ?_; clear hK K)
              replace hR1 := hR1.below hbn
              replace hX := hX.below hbn
              have n12 : g1 < g2 := Nat.lt_of_lt_of_le z1 hg
              have nx2 : gx < g2 := Nat.lt_of_lt_of_le zx hg
              clear hbn hg
              have z1 := hR1.base.2
              have z2 := hR2.base.2
              have zx := hX.lt
              refine wpAnyC_one (i := 5) (by kernel_rfl) rfl ⟨⟨_, hB⟩, rfl⟩ rfl (fun K hK => ?_)
              (go_simp; refine hK _ _ ?_; clear hK K)
              have hY := Blk.new y19 36 #[.slice none 0 0, (Value.int .i64 (0)), (Value.int .i64 (0)), (Value.int .i64 (0))]
              have hbn := bl_alloc (o := .cells #[.slice none 0 0, (Value.int .i64 (0)), (Value.int .i64 (0)), (Value.int .i64 (0))] 36) (Below.refl y19.heap.size y19)
              replace hR1 := hR1.below hbn
              replace hR2 := hR2.below hbn
              replace hX := hX.below hbn
              replace hB := hB.trans (hbn.mono hB.size)
              have hsz := hB0.size
              clear hbn
              generalize y19.alloc (.cells #[.slice none 0 0, (Value.int .i64 (0)), (Value.int .i64 (0)), (Value.int .i64 (0))] 36) = y20 at *
              generalize y19.heap.size = gy at *
              have n1y := z1
              have n2y := z2
              have nxy := zx
              have ey : w4.heap.size ≤ gy := hsz
              clear hsz hB0 z1 z2 zx
              have hB0 := hB
              have z1 := hR1.base.2
              have z2 := hR2.base.2
              have zx := hX.lt
              have zy := hY.lt
              ((have nxy' : gx ≠ gy := by omega); (have m1x : g1 ≠ gx := by omega); (have m2x : g2 ≠ gx := by omega); (have m1y : g1 ≠ gy := by omega); (have m2y : g2 ≠ gy := by omega); (have m12 : g1 ≠ g2 := by omega); clear n12; ((try clear n1x); (try clear n1y); (try clear n2x); (try clear n2y); (try clear nx1); (try clear nx2); (try clear ny1); (try clear ny2); (try clear nxy); (try clear nyx); (try clear z1); (try clear z2); (try clear zx); (try clear zy); (try clear z1); (try clear z2); (try clear zx); (try clear zy)); (have HM := Lib.hid (And.intro nxy' (And.intro m1x (And.intro m2x (And.intro m1y (And.intro m2y (And.intro m12 (And.intro ex ey)))))))); (have HA := Lib.hid (And.intro hX (And.intro hY (And.intro hR1 hR2)))); clear nxy' m1x m2x m1y m2y m12 ex ey hX hY hR1 hR2 hB0; ((try clear hk hc hf hzc hzf); (try clear hk hc hf hzc hzf); (try clear hk hc hf hzc hzf); (try clear hk hc hf hzc hzf)); refine wpAnyC_one (i := 6) (by kernel_rfl) rfl ⟨⟨_, hB⟩, rfl⟩ rfl (fun K hK => ?_); refine wp_store_row 36 _ _ rfl gx #[.slice (some ⟨g1, 0, none⟩) T.pts.length c1, (Value.int .i64 (T.closed)), (Value.int .i64 (T.lo)), (Value.int .i64 (T.hi))] rfl rfl 36 _ HA.out.1 (by kernel_rfl) rfl (by simp [Value.oneCell']) (hK _ _ ?_); clear hK K; (have HB := Lib.hid (And.intro (st4 (gs := g1) (cs := c1) (T := T) HA.out.1) (And.intro (st4_far (gs := g1) (cs := c1) (T := T) HA.out.2.1 HM.out.1.symm) (And.intro (st4_row (gs := g1) (cs := c1) (T := T) HA.out.2.2.1 HM.out.2.1) (st4_row (gs := g1) (cs := c1) (T := T) HA.out.2.2.2 HM.out.2.2.1))))); replace hB := st4_bl (gs := g1) (cs := c1) (T := T) hB HM.out.2.2.2.2.2.2.1; clear HA; generalize (y20.setRow gx #[.slice (some ⟨g1, 0, none⟩) T.pts.length c1, (Value.int .i64 (T.closed)), (Value.int .i64 (T.lo)), (Value.int .i64 (T.hi))]) = yf at *; refine wpAnyC_one (i := 7) (by kernel_rfl) rfl ⟨⟨_, hB⟩, rfl⟩ rfl (fun K hK => ?_); refine wp_store_row 36 _ _ rfl gy #[.slice (some ⟨g2, 0, none⟩) T.pts.length c2, (Value.int .i64 (T.closed)), (Value.int .i64 (T.lo)), (Value.int .i64 (T.hi))] rfl rfl 36 _ HB.out.2.1 (by kernel_rfl) rfl (by simp [Value.oneCell']) (hK _ _ ?_); clear hK K; (have HC := Lib.hid (And.intro (st4_far (gs := g2) (cs := c2) (T := T) HB.out.1 HM.out.1) (And.intro (st4 (gs := g2) (cs := c2) (T := T) HB.out.2.1) (And.intro (st4_row (gs := g2) (cs := c2) (T := T) HB.out.2.2.1 HM.out.2.2.2.1) (st4_row (gs := g2) (cs := c2) (T := T) HB.out.2.2.2 HM.out.2.2.2.2.1))))); replace hB := st4_bl (gs := g2) (cs := c2) (T := T) hB HM.out.2.2.2.2.2.2.2; clear HB; generalize (yf.setRow gy #[.slice (some ⟨g2, 0, none⟩) T.pts.length c2, (Value.int .i64 (T.closed)), (Value.int .i64 (T.lo)), (Value.int .i64 (T.hi))]) = yg at *; refine wpAnyC_done (by kernel_rfl) ⟨⟨_, hB⟩, rfl⟩ ?_ _; simp only [Act.put, List.getElem_toArray, List.getElem_cons_succ, List.getElem_cons_zero, List.setIfInBounds_toArray, List.set_cons_succ, List.set_cons_zero]; go_wp2_with fail; go_meet; exact two_done HM HC hB)
            · skip
              (go_simp; refine hK _ _ ?_; clear hK K)
              have hY := Blk.new y18 36 #[.slice none 0 0, (Value.int .i64 (0)), (Value.int .i64 (0)), (Value.int .i64 (0))]
              have hbn := bl_alloc (o := .cells #[.slice none 0 0, (Value.int .i64 (0)), (Value.int .i64 (0)), (Value.int .i64 (0))] 36) (Below.refl y18.heap.size y18)
              replace hR1 := hR1.below hbn
              replace hX := hX.below hbn
              replace hB := hB.trans (hbn.mono hB.size)
              have hsz := hB0.size
              clear hbn
              generalize y18.alloc (.cells #[.slice none 0 0, (Value.int .i64 (0)), (Value.int .i64 (0)), (Value.int .i64 (0))] 36) = y21 at *
              generalize y18.heap.size = gy at *
              have n1y := z1
              have nxy := zx
              have ey : w4.heap.size ≤ gy := hsz
              clear hsz hB0 z1 zx
              have hB0 := hB
              have z1 := hR1.base.2
              have zx := hX.lt
              have zy := hY.lt
              refine wpAnyC_one (i := 3) (by kernel_rfl) rfl ⟨⟨_, hB⟩, rfl⟩ rfl (fun K hK => ?_)
              (go_simp; go_at_call 16; (with_reducible refine Calls.mono (hCp.out _ (hb4X.trans (hB.mono hb4X.size))) ?_); rintro e y22 ⟨⟨A0, c2, rfl, hC1⟩, hbn⟩; obtain ⟨g2, _, e1, hR2, hg⟩ := RowP.head hC1 hT0; simp only [Value.slice.injEq] at e1; obtain ⟨rfl, -, rfl⟩ := e1; replace hR2 := RowP.le hR2 hB.size; (replace hB := hB.trans (hbn.mono hB.size)); clear hC1 hB0; (have hB0 := hB); refine hK _ _ ?_; clear hK K)
              replace hR1 := hR1.below hbn
              replace hX := hX.below hbn
              replace hY := hY.below hbn
              have n12 : g1 < g2 := Nat.lt_of_lt_of_le z1 hg
              have nx2 : gx < g2 := Nat.lt_of_lt_of_le zx hg
              have ny2 : gy < g2 := Nat.lt_of_lt_of_le zy hg
              clear hbn hg
              have z1 := hR1.base.2
              have z2 := hR2.base.2
              have zx := hX.lt
              have zy := hY.lt
              ((have nxy' : gx ≠ gy := by omega); (have m1x : g1 ≠ gx := by omega); (have m2x : g2 ≠ gx := by omega); (have m1y : g1 ≠ gy := by omega); (have m2y : g2 ≠ gy := by omega); (have m12 : g1 ≠ g2 := by omega); clear n12; ((try clear n1x); (try clear n1y); (try clear n2x); (try clear n2y); (try clear nx1); (try clear nx2); (try clear ny1); (try clear ny2); (try clear nxy); (try clear nyx); (try clear z1); (try clear z2); (try clear zx); (try clear zy); (try clear z1); (try clear z2); (try clear zx); (try clear zy)); (have HM := Lib.hid (And.intro nxy' (And.intro m1x (And.intro m2x (And.intro m1y (And.intro m2y (And.intro m12 (And.intro ex ey)))))))); (have HA := Lib.hid (And.intro hX (And.intro hY (And.intro hR1 hR2)))); clear nxy' m1x m2x m1y m2y m12 ex ey hX hY hR1 hR2 hB0; ((try clear hk hc hf hzc hzf); (try clear hk hc hf hzc hzf); (try clear hk hc hf hzc hzf); (try clear hk hc hf hzc hzf)); refine wpAnyC_one (i := 6) (by kernel_rfl) rfl ⟨⟨_, hB⟩, rfl⟩ rfl (fun K hK => ?_); refine wp_store_row 36 _ _ rfl gx #[.slice (some ⟨g1, 0, none⟩) T.pts.length c1, (Value.int .i64 (T.closed)), (Value.int .i64 (T.lo)), (Value.int .i64 (T.hi))] rfl rfl 36 _ HA.out.1 (by kernel_rfl) rfl (by simp [Value.oneCell']) (hK _ _ ?_); clear hK K; (have HB := Lib.hid (And.intro (st4 (gs := g1) (cs := c1) (T := T) HA.out.1) (And.intro (st4_far (gs := g1) (cs := c1) (T := T) HA.out.2.1 HM.out.1.symm) (And.intro (st4_row (gs := g1) (cs := c1) (T := T) HA.out.2.2.1 HM.out.2.1) (st4_row (gs := g1) (cs := c1) (T := T) HA.out.2.2.2 HM.out.2.2.1))))); replace hB := st4_bl (gs := g1) (cs := c1) (T := T) hB HM.out.2.2.2.2.2.2.1; clear HA; generalize (y22.setRow gx #[.slice (some ⟨g1, 0, none⟩) T.pts.length c1, (Value.int .i64 (T.closed)), (Value.int .i64 (T.lo)), (Value.int .i64 (T.hi))]) = yf at *; refine wpAnyC_one (i := 7) (by kernel_rfl) rfl ⟨⟨_, hB⟩, rfl⟩ rfl (fun K hK => ?_); refine wp_store_row 36 _ _ rfl gy #[.slice (some ⟨g2, 0, none⟩) T.pts.length c2, (Value.int .i64 (T.closed)), (Value.int .i64 (T.lo)), (Value.int .i64 (T.hi))] rfl rfl 36 _ HB.out.2.1 (by kernel_rfl) rfl (by simp [Value.oneCell']) (hK _ _ ?_); clear hK K; (have HC := Lib.hid (And.intro (st4_far (gs := g2) (cs := c2) (T := T) HB.out.1 HM.out.1) (And.intro (st4 (gs := g2) (cs := c2) (T := T) HB.out.2.1) (And.intro (st4_row (gs := g2) (cs := c2) (T := T) HB.out.2.2.1 HM.out.2.2.2.1) (st4_row (gs := g2) (cs := c2) (T := T) HB.out.2.2.2 HM.out.2.2.2.2.1))))); replace hB := st4_bl (gs := g2) (cs := c2) (T := T) hB HM.out.2.2.2.2.2.2.2; clear HB; generalize (yf.setRow gy #[.slice (some ⟨g2, 0, none⟩) T.pts.length c2, (Value.int .i64 (T.closed)), (Value.int .i64 (T.lo)), (Value.int .i64 (T.hi))]) = yg at *; refine wpAnyC_done (by kernel_rfl) ⟨⟨_, hB⟩, rfl⟩ ?_ _; simp only [Act.put, List.getElem_toArray, List.getElem_cons_succ, List.getElem_cons_zero, List.setIfInBounds_toArray, List.set_cons_succ, List.set_cons_zero]; go_wp2_with fail; go_meet; exact two_done HM HC hB)
          · skip
            (go_simp; refine hK _ _ ?_; clear hK K)
            have hY := Blk.new y17 36 #[.slice none 0 0, (Value.int .i64 (0)), (Value.int .i64 (0)), (Value.int .i64 (0))]
            have hbn := bl_alloc (o := .cells #[.slice none 0 0, (Value.int .i64 (0)), (Value.int .i64 (0)), (Value.int .i64 (0))] 36) (Below.refl y17.heap.size y17)
            replace hX := hX.below hbn
            replace hB := hB.trans (hbn.mono hB.size)
            have hsz := hB0.size
            clear hbn
            generalize y17.alloc (.cells #[.slice none 0 0, (Value.int .i64 (0)), (Value.int .i64 (0)), (Value.int .i64 (0))] 36) = y23 at *
            generalize y17.heap.size = gy at *
            have nxy := zx
            have ey : w4.heap.size ≤ gy := hsz
            clear hsz hB0 zx
            have hB0 := hB
            have zx := hX.lt
            have zy := hY.lt
            refine wpAnyC_one (i := 1) (by kernel_rfl) rfl ⟨⟨_, hB⟩, rfl⟩ rfl (fun K hK => ?_)
            (go_simp; go_at_call 16; (with_reducible refine Calls.mono (hCp.out _ (hb4X.trans (hB.mono hb4X.size))) ?_); rintro e y24 ⟨⟨A0, c1, rfl, hC1⟩, hbn⟩; obtain ⟨g1, _, e1, hR1, hg⟩ := RowP.head hC1 hT0; simp only [Value.slice.injEq] at e1; obtain ⟨rfl, -, rfl⟩ := e1; replace hR1 := RowP.le hR1 hB.size; (replace hB := hB.trans (hbn.mono hB.size)); clear hC1 hB0; (have hB0 := hB); refine hK _ _ ?_; clear hK K)
            replace hX := hX.below hbn
            replace hY := hY.below hbn
            have nx1 : gx < g1 := Nat.lt_of_lt_of_le zx hg
            have ny1 : gy < g1 := Nat.lt_of_lt_of_le zy hg
            clear hbn hg
            have z1 := hR1.base.2
            have zx := hX.lt
            have zy := hY.lt
            refine wpAnyC_one (i := 3) (by kernel_rfl) rfl ⟨⟨_, hB⟩, rfl⟩ rfl (fun K hK => ?_)
            (go_simp; go_at_call 16; (with_reducible refine Calls.mono (hCp.out _ (hb4X.trans (hB.mono hb4X.size))) ?_); rintro e y25 ⟨⟨A0, c2, rfl, hC1⟩, hbn⟩; obtain ⟨g2, _, e1, hR2, hg⟩ := RowP.head hC1 hT0; simp only [Value.slice.injEq] at e1; obtain ⟨rfl, -, rfl⟩ := e1; replace hR2 := RowP.le hR2 hB.size; (replace hB := hB.trans (hbn.mono hB.size)); clear hC1 hB0; (have hB0 := hB); refine hK _ _ ?_; clear hK K)
            replace hR1 := hR1.below hbn
            replace hX := hX.below hbn
            replace hY := hY.below hbn
            have n12 : g1 < g2 := Nat.lt_of_lt_of_le z1 hg
            have nx2 : gx < g2 := Nat.lt_of_lt_of_le zx hg
            have ny2 : gy < g2 := Nat.lt_of_lt_of_le zy hg
            clear hbn hg
            have z1 := hR1.base.2
            have z2 := hR2.base.2
            have zx := hX.lt
            have zy := hY.lt
            ((have nxy' : gx ≠ gy := by omega); (have m1x : g1 ≠ gx := by omega); (have m2x : g2 ≠ gx := by omega); (have m1y : g1 ≠ gy := by omega); (have m2y : g2 ≠ gy := by omega); (have m12 : g1 ≠ g2 := by omega); clear n12; ((try clear n1x); (try clear n1y); (try clear n2x); (try clear n2y); (try clear nx1); (try clear nx2); (try clear ny1); (try clear ny2); (try clear nxy); (try clear nyx); (try clear z1); (try clear z2); (try clear zx); (try clear zy); (try clear z1); (try clear z2); (try clear zx); (try clear zy)); (have HM := Lib.hid (And.intro nxy' (And.intro m1x (And.intro m2x (And.intro m1y (And.intro m2y (And.intro m12 (And.intro ex ey)))))))); (have HA := Lib.hid (And.intro hX (And.intro hY (And.intro hR1 hR2)))); clear nxy' m1x m2x m1y m2y m12 ex ey hX hY hR1 hR2 hB0; ((try clear hk hc hf hzc hzf); (try clear hk hc hf hzc hzf); (try clear hk hc hf hzc hzf); (try clear hk hc hf hzc hzf)); refine wpAnyC_one (i := 6) (by kernel_rfl) rfl ⟨⟨_, hB⟩, rfl⟩ rfl (fun K hK => ?_); refine wp_store_row 36 _ _ rfl gx #[.slice (some ⟨g1, 0, none⟩) T.pts.length c1, (Value.int .i64 (T.closed)), (Value.int .i64 (T.lo)), (Value.int .i64 (T.hi))] rfl rfl 36 _ HA.out.1 (by kernel_rfl) rfl (by simp [Value.oneCell']) (hK _ _ ?_); clear hK K; (have HB := Lib.hid (And.intro (st4 (gs := g1) (cs := c1) (T := T) HA.out.1) (And.intro (st4_far (gs := g1) (cs := c1) (T := T) HA.out.2.1 HM.out.1.symm) (And.intro (st4_row (gs := g1) (cs := c1) (T := T) HA.out.2.2.1 HM.out.2.1) (st4_row (gs := g1) (cs := c1) (T := T) HA.out.2.2.2 HM.out.2.2.1))))); replace hB := st4_bl (gs := g1) (cs := c1) (T := T) hB HM.out.2.2.2.2.2.2.1; clear HA; generalize (y25.setRow gx #[.slice (some ⟨g1, 0, none⟩) T.pts.length c1, (Value.int .i64 (T.closed)), (Value.int .i64 (T.lo)), (Value.int .i64 (T.hi))]) = yf at *; refine wpAnyC_one (i := 7) (by kernel_rfl) rfl ⟨⟨_, hB⟩, rfl⟩ rfl (fun K hK => ?_); refine wp_store_row 36 _ _ rfl gy #[.slice (some ⟨g2, 0, none⟩) T.pts.length c2, (Value.int .i64 (T.closed)), (Value.int .i64 (T.lo)), (Value.int .i64 (T.hi))] rfl rfl 36 _ HB.out.2.1 (by kernel_rfl) rfl (by simp [Value.oneCell']) (hK _ _ ?_); clear hK K; (have HC := Lib.hid (And.intro (st4_far (gs := g2) (cs := c2) (T := T) HB.out.1 HM.out.1) (And.intro (st4 (gs := g2) (cs := c2) (T := T) HB.out.2.1) (And.intro (st4_row (gs := g2) (cs := c2) (T := T) HB.out.2.2.1 HM.out.2.2.2.1) (st4_row (gs := g2) (cs := c2) (T := T) HB.out.2.2.2 HM.out.2.2.2.2.1))))); replace hB := st4_bl (gs := g2) (cs := c2) (T := T) hB HM.out.2.2.2.2.2.2.2; clear HB; generalize (yf.setRow gy #[.slice (some ⟨g2, 0, none⟩) T.pts.length c2, (Value.int .i64 (T.closed)), (Value.int .i64 (T.lo)), (Value.int .i64 (T.hi))]) = yg at *; refine wpAnyC_done (by kernel_rfl) ⟨⟨_, hB⟩, rfl⟩ ?_ _; simp only [Act.put, List.getElem_toArray, List.getElem_cons_succ, List.getElem_cons_zero, List.setIfInBounds_toArray, List.set_cons_succ, List.set_cons_zero]; go_wp2_with fail; go_meet; exact two_done HM HC hB)
        · skip
          (go_simp; refine hK _ _ ?_; clear hK K)
          have hY := Blk.new y0 36 #[.slice none 0 0, (Value.int .i64 (0)), (Value.int .i64 (0)), (Value.int .i64 (0))]
          have hbn := bl_alloc (o := .cells #[.slice none 0 0, (Value.int .i64 (0)), (Value.int .i64 (0)), (Value.int .i64 (0))] 36) (Below.refl y0.heap.size y0)
          replace hB := hB.trans (hbn.mono hB.size)
          have hsz := hB0.size
          clear hbn
          generalize y0.alloc (.cells #[.slice none 0 0, (Value.int .i64 (0)), (Value.int .i64 (0)), (Value.int .i64 (0))] 36) = y26 at *
          generalize y0.heap.size = gy at *
          have ey : w4.heap.size ≤ gy := hsz
          clear hsz hB0 
          have hB0 := hB
          have zy := hY.lt
          refine wpAnyC_two (i := 1) (j := 4) (by kernel_rfl) rfl rfl ⟨⟨_, hB⟩, rfl⟩ rfl rfl (fun K hK => ?_) (fun K hK => ?_)
          · skip
            (go_simp; go_at_call 16; (with_reducible refine Calls.mono (hCp.out _ (hb4X.trans (hB.mono hb4X.size))) ?_); rintro e y27 ⟨⟨A0, c1, rfl, hC1⟩, hbn⟩; obtain ⟨g1, _, e1, hR1, hg⟩ := RowP.head hC1 hT0; simp only [Value.slice.injEq] at e1; obtain ⟨rfl, -, rfl⟩ := e1; replace hR1 := RowP.le hR1 hB.size; (replace hB := hB.trans (hbn.mono hB.size)); clear hC1 hB0; (have hB0 := hB); refine hK _ _ ?_; clear hK K)
            replace hY := hY.below hbn
            have ny1 : gy < g1 := Nat.lt_of_lt_of_le zy hg
            clear hbn hg
            have z1 := hR1.base.2
            have zy := hY.lt
            refine wpAnyC_two (i := 3) (j := 4) (by kernel_rfl) rfl rfl ⟨⟨_, hB⟩, rfl⟩ rfl rfl (fun K hK => ?_) (fun K hK => ?_)
            · skip
              (go_simp; go_at_call 16; (with_reducible refine Calls.mono (hCp.out _ (hb4X.trans (hB.mono hb4X.size))) ?_); rintro e y28 ⟨⟨A0, c2, rfl, hC1⟩, hbn⟩; obtain ⟨g2, _, e1, hR2, hg⟩ := RowP.head hC1 hT0; simp only [Value.slice.injEq] at e1; obtain ⟨rfl, -, rfl⟩ := e1; replace hR2 := RowP.le hR2 hB.size; (replace hB := hB.trans (hbn.mono hB.size)); clear hC1 hB0; (have hB0 := hB); refine hK _ _ ?_; clear hK K)
              replace hR1 := hR1.below hbn
              replace hY := hY.below hbn
              have n12 : g1 < g2 := Nat.lt_of_lt_of_le z1 hg
              have ny2 : gy < g2 := Nat.lt_of_lt_of_le zy hg
              clear hbn hg
              have z1 := hR1.base.2
              have z2 := hR2.base.2
              have zy := hY.lt
              refine wpAnyC_one (i := 4) (by kernel_rfl) rfl ⟨⟨_, hB⟩, rfl⟩ rfl (fun K hK => ?_)
              (go_simp; refine hK _ _ ?_; clear hK K)
              have hX := Blk.new y28 36 #[.slice none 0 0, (Value.int .i64 (0)), (Value.int .i64 (0)), (Value.int .i64 (0))]
              have hbn := bl_alloc (o := .cells #[.slice none 0 0, (Value.int .i64 (0)), (Value.int .i64 (0)), (Value.int .i64 (0))] 36) (Below.refl y28.heap.size y28)
              replace hR1 := hR1.below hbn
              replace hR2 := hR2.below hbn
              replace hY := hY.below hbn
              replace hB := hB.trans (hbn.mono hB.size)
              have hsz := hB0.size
              clear hbn
              generalize y28.alloc (.cells #[.slice none 0 0, (Value.int .i64 (0)), (Value.int .i64 (0)), (Value.int .i64 (0))] 36) = y29 at *
              generalize y28.heap.size = gx at *
              have n1x := z1
              have n2x := z2
              have nyx := zy
              have ex : w4.heap.size ≤ gx := hsz
              clear hsz hB0 z1 z2 zy
              have hB0 := hB
              have z1 := hR1.base.2
              have z2 := hR2.base.2
              have zx := hX.lt
              have zy := hY.lt
              ((have nxy' : gx ≠ gy := by omega); (have m1x : g1 ≠ gx := by omega); (have m2x : g2 ≠ gx := by omega); (have m1y : g1 ≠ gy := by omega); (have m2y : g2 ≠ gy := by omega); (have m12 : g1 ≠ g2 := by omega); clear n12; ((try clear n1x); (try clear n1y); (try clear n2x); (try clear n2y); (try clear nx1); (try clear nx2); (try clear ny1); (try clear ny2); (try clear nxy); (try clear nyx); (try clear z1); (try clear z2); (try clear zx); (try clear zy); (try clear z1); (try clear z2); (try clear zx); (try clear zy)); (have HM := Lib.hid (And.intro nxy' (And.intro m1x (And.intro m2x (And.intro m1y (And.intro m2y (And.intro m12 (And.intro ex ey)))))))); (have HA := Lib.hid (And.intro hX (And.intro hY (And.intro hR1 hR2)))); clear nxy' m1x m2x m1y m2y m12 ex ey hX hY hR1 hR2 hB0; ((try clear hk hc hf hzc hzf); (try clear hk hc hf hzc hzf); (try clear hk hc hf hzc hzf); (try clear hk hc hf hzc hzf)); refine wpAnyC_one (i := 6) (by kernel_rfl) rfl ⟨⟨_, hB⟩, rfl⟩ rfl (fun K hK => ?_); refine wp_store_row 36 _ _ rfl gx #[.slice (some ⟨g1, 0, none⟩) T.pts.length c1, (Value.int .i64 (T.closed)), (Value.int .i64 (T.lo)), (Value.int .i64 (T.hi))] rfl rfl 36 _ HA.out.1 (by kernel_rfl) rfl (by simp [Value.oneCell']) (hK _ _ ?_); clear hK K; (have HB := Lib.hid (And.intro (st4 (gs := g1) (cs := c1) (T := T) HA.out.1) (And.intro (st4_far (gs := g1) (cs := c1) (T := T) HA.out.2.1 HM.out.1.symm) (And.intro (st4_row (gs := g1) (cs := c1) (T := T) HA.out.2.2.1 HM.out.2.1) (st4_row (gs := g1) (cs := c1) (T := T) HA.out.2.2.2 HM.out.2.2.1))))); replace hB := st4_bl (gs := g1) (cs := c1) (T := T) hB HM.out.2.2.2.2.2.2.1; clear HA; generalize (y29.setRow gx #[.slice (some ⟨g1, 0, none⟩) T.pts.length c1, (Value.int .i64 (T.closed)), (Value.int .i64 (T.lo)), (Value.int .i64 (T.hi))]) = yf at *; refine wpAnyC_one (i := 7) (by kernel_rfl) rfl ⟨⟨_, hB⟩, rfl⟩ rfl (fun K hK => ?_); refine wp_store_row 36 _ _ rfl gy #[.slice (some ⟨g2, 0, none⟩) T.pts.length c2, (Value.int .i64 (T.closed)), (Value.int .i64 (T.lo)), (Value.int .i64 (T.hi))] rfl rfl 36 _ HB.out.2.1 (by kernel_rfl) rfl (by simp [Value.oneCell']) (hK _ _ ?_); clear hK K; (have HC := Lib.hid (And.intro (st4_far (gs := g2) (cs := c2) (T := T) HB.out.1 HM.out.1) (And.intro (st4 (gs := g2) (cs := c2) (T := T) HB.out.2.1) (And.intro (st4_row (gs := g2) (cs := c2) (T := T) HB.out.2.2.1 HM.out.2.2.2.1) (st4_row (gs := g2) (cs := c2) (T := T) HB.out.2.2.2 HM.out.2.2.2.2.1))))); replace hB := st4_bl (gs := g2) (cs := c2) (T := T) hB HM.out.2.2.2.2.2.2.2; clear HB; generalize (yf.setRow gy #[.slice (some ⟨g2, 0, none⟩) T.pts.length c2, (Value.int .i64 (T.closed)), (Value.int .i64 (T.lo)), (Value.int .i64 (T.hi))]) = yg at *; refine wpAnyC_done (by kernel_rfl) ⟨⟨_, hB⟩, rfl⟩ ?_ _; simp only [Act.put, List.getElem_toArray, List.getElem_cons_succ, List.getElem_cons_zero, List.setIfInBounds_toArray, List.set_cons_succ, List.set_cons_zero]; go_wp2_with fail; go_meet; exact two_done HM HC hB)
            · skip
              (go_simp; refine hK _ _ ?_; clear hK K)
              have hX := Blk.new y27 36 #[.slice none 0 0, (Value.int .i64 (0)), (Value.int .i64 (0)), (Value.int .i64 (0))]
              have hbn := bl_alloc (o := .cells #[.slice none 0 0, (Value.int .i64 (0)), (Value.int .i64 (0)), (Value.int .i64 (0))] 36) (Below.refl y27.heap.size y27)
              replace hR1 := hR1.below hbn
              replace hY := hY.below hbn
              replace hB := hB.trans (hbn.mono hB.size)
              have hsz := hB0.size
              clear hbn
              generalize y27.alloc (.cells #[.slice none 0 0, (Value.int .i64 (0)), (Value.int .i64 (0)), (Value.int .i64 (0))] 36) = y30 at *
              generalize y27.heap.size = gx at *
              have n1x := z1
              have nyx := zy
              have ex : w4.heap.size ≤ gx := hsz
              clear hsz hB0 z1 zy
              have hB0 := hB
              have z1 := hR1.base.2
              have zx := hX.lt
              have zy := hY.lt
              refine wpAnyC_one (i := 3) (by kernel_rfl) rfl ⟨⟨_, hB⟩, rfl⟩ rfl (fun K hK => ?_)
              (go_simp; go_at_call 16; (with_reducible refine Calls.mono (hCp.out _ (hb4X.trans (hB.mono hb4X.size))) ?_); rintro e y31 ⟨⟨A0, c2, rfl, hC1⟩, hbn⟩; obtain ⟨g2, _, e1, hR2, hg⟩ := RowP.head hC1 hT0; simp only [Value.slice.injEq] at e1; obtain ⟨rfl, -, rfl⟩ := e1; replace hR2 := RowP.le hR2 hB.size; (replace hB := hB.trans (hbn.mono hB.size)); clear hC1 hB0; (have hB0 := hB); refine hK _ _ ?_; clear hK K)
              replace hR1 := hR1.below hbn
              replace hX := hX.below hbn
              replace hY := hY.below hbn
              have n12 : g1 < g2 := Nat.lt_of_lt_of_le z1 hg
              have nx2 : gx < g2 := Nat.lt_of_lt_of_le zx hg
              have ny2 : gy < g2 := Nat.lt_of_lt_of_le zy hg
              clear hbn hg
              have z1 := hR1.base.2
              have z2 := hR2.base.2
              have zx := hX.lt
              have zy := hY.lt
              ((have nxy' : gx ≠ gy := by omega); (have m1x : g1 ≠ gx := by omega); (have m2x : g2 ≠ gx := by omega); (have m1y : g1 ≠ gy := by omega); (have m2y : g2 ≠ gy := by omega); (have m12 : g1 ≠ g2 := by omega); clear n12; ((try clear n1x); (try clear n1y); (try clear n2x); (try clear n2y); (try clear nx1); (try clear nx2); (try clear ny1); (try clear ny2); (try clear nxy); (try clear nyx); (try clear z1); (try clear z2); (try clear zx); (try clear zy); (try clear z1); (try clear z2); (try clear zx); (try clear zy)); (have HM := Lib.hid (And.intro nxy' (And.intro m1x (And.intro m2x (And.intro m1y (And.intro m2y (And.intro m12 (And.intro ex ey)))))))); (have HA := Lib.hid (And.intro hX (And.intro hY (And.intro hR1 hR2)))); clear nxy' m1x m2x m1y m2y m12 ex ey hX hY hR1 hR2 hB0; ((try clear hk hc hf hzc hzf); (try clear hk hc hf hzc hzf); (try clear hk hc hf hzc hzf); (try clear hk hc hf hzc hzf)); refine wpAnyC_one (i := 6) (by kernel_rfl) rfl ⟨⟨_, hB⟩, rfl⟩ rfl (fun K hK => ?_); refine wp_store_row 36 _ _ rfl gx #[.slice (some ⟨g1, 0, none⟩) T.pts.length c1, (Value.int .i64 (T.closed)), (Value.int .i64 (T.lo)), (Value.int .i64 (T.hi))] rfl rfl 36 _ HA.out.1 (by kernel_rfl) rfl (by simp [Value.oneCell']) (hK _ _ ?_); clear hK K; (have HB := Lib.hid (And.intro (st4 (gs := g1) (cs := c1) (T := T) HA.out.1) (And.intro (st4_far (gs := g1) (cs := c1) (T := T) HA.out.2.1 HM.out.1.symm) (And.intro (st4_row (gs := g1) (cs := c1) (T := T) HA.out.2.2.1 HM.out.2.1) (st4_row (gs := g1) (cs := c1) (T := T) HA.out.2.2.2 HM.out.2.2.1))))); replace hB := st4_bl (gs := g1) (cs := c1) (T := T) hB HM.out.2.2.2.2.2.2.1; clear HA; generalize (y31.setRow gx #[.slice (some ⟨g1, 0, none⟩) T.pts.length c1, (Value.int .i64 (T.closed)), (Value.int .i64 (T.lo)), (Value.int .i64 (T.hi))]) = yf at *; refine wpAnyC_one (i := 7) (by kernel_rfl) rfl ⟨⟨_, hB⟩, rfl⟩ rfl (fun K hK => ?_); refine wp_store_row 36 _ _ rfl gy #[.slice (some ⟨g2, 0, none⟩) T.pts.length c2, (Value.int .i64 (T.closed)), (Value.int .i64 (T.lo)), (Value.int .i64 (T.hi))] rfl rfl 36 _ HB.out.2.1 (by kernel_rfl) rfl (by simp [Value.oneCell']) (hK _ _ ?_); clear hK K; (have HC := Lib.hid (And.intro (st4_far (gs := g2) (cs := c2) (T := T) HB.out.1 HM.out.1) (And.intro (st4 (gs := g2) (cs := c2) (T := T) HB.out.2.1) (And.intro (st4_row (gs := g2) (cs := c2) (T := T) HB.out.2.2.1 HM.out.2.2.2.1) (st4_row (gs := g2) (cs := c2) (T := T) HB.out.2.2.2 HM.out.2.2.2.2.1))))); replace hB := st4_bl (gs := g2) (cs := c2) (T := T) hB HM.out.2.2.2.2.2.2.2; clear HB; generalize (yf.setRow gy #[.slice (some ⟨g2, 0, none⟩) T.pts.length c2, (Value.int .i64 (T.closed)), (Value.int .i64 (T.lo)), (Value.int .i64 (T.hi))]) = yg at *; refine wpAnyC_done (by kernel_rfl) ⟨⟨_, hB⟩, rfl⟩ ?_ _; simp only [Act.put, List.getElem_toArray, List.getElem_cons_succ, List.getElem_cons_zero, List.setIfInBounds_toArray, List.set_cons_succ, List.set_cons_zero]; go_wp2_with fail; go_meet; exact two_done HM HC hB)
          · skip
            (go_simp; refine hK _ _ ?_; clear hK K)
            have hX := Blk.new y26 36 #[.slice none 0 0, (Value.int .i64 (0)), (Value.int .i64 (0)), (Value.int .i64 (0))]
            have hbn := bl_alloc (o := .cells #[.slice none 0 0, (Value.int .i64 (0)), (Value.int .i64 (0)), (Value.int .i64 (0))] 36) (Below.refl y26.heap.size y26)
            replace hY := hY.below hbn
            replace hB := hB.trans (hbn.mono hB.size)
            have hsz := hB0.size
            clear hbn
            generalize y26.alloc (.cells #[.slice none 0 0, (Value.int .i64 (0)), (Value.int .i64 (0)), (Value.int .i64 (0))] 36) = y32 at *
            generalize y26.heap.size = gx at *
            have nyx := zy
            have ex : w4.heap.size ≤ gx := hsz
            clear hsz hB0 zy
            have hB0 := hB
            have zx := hX.lt
            have zy := hY.lt
            refine wpAnyC_one (i := 1) (by kernel_rfl) rfl ⟨⟨_, hB⟩, rfl⟩ rfl (fun K hK => ?_)
            (go_simp; go_at_call 16; (with_reducible refine Calls.mono (hCp.out _ (hb4X.trans (hB.mono hb4X.size))) ?_); rintro e y33 ⟨⟨A0, c1, rfl, hC1⟩, hbn⟩; obtain ⟨g1, _, e1, hR1, hg⟩ := RowP.head hC1 hT0; simp only [Value.slice.injEq] at e1; obtain ⟨rfl, -, rfl⟩ := e1; replace hR1 := RowP.le hR1 hB.size; (replace hB := hB.trans (hbn.mono hB.size)); clear hC1 hB0; (have hB0 := hB); refine hK _ _ ?_; clear hK K)
            replace hX := hX.below hbn
            replace hY := hY.below hbn
            have nx1 : gx < g1 := Nat.lt_of_lt_of_le zx hg
            have ny1 : gy < g1 := Nat.lt_of_lt_of_le zy hg
            clear hbn hg
            have z1 := hR1.base.2
            have zx := hX.lt
            have zy := hY.lt
            refine wpAnyC_one (i := 3) (by kernel_rfl) rfl ⟨⟨_, hB⟩, rfl⟩ rfl (fun K hK => ?_)
            (go_simp; go_at_call 16; (with_reducible refine Calls.mono (hCp.out _ (hb4X.trans (hB.mono hb4X.size))) ?_); rintro e y34 ⟨⟨A0, c2, rfl, hC1⟩, hbn⟩; obtain ⟨g2, _, e1, hR2, hg⟩ := RowP.head hC1 hT0; simp only [Value.slice.injEq] at e1; obtain ⟨rfl, -, rfl⟩ := e1; replace hR2 := RowP.le hR2 hB.size; (replace hB := hB.trans (hbn.mono hB.size)); clear hC1 hB0; (have hB0 := hB); refine hK _ _ ?_; clear hK K)
            replace hR1 := hR1.below hbn
            replace hX := hX.below hbn
            replace hY := hY.below hbn
            have n12 : g1 < g2 := Nat.lt_of_lt_of_le z1 hg
            have nx2 : gx < g2 := Nat.lt_of_lt_of_le zx hg
            have ny2 : gy < g2 := Nat.lt_of_lt_of_le zy hg
            clear hbn hg
            have z1 := hR1.base.2
            have z2 := hR2.base.2
            have zx := hX.lt
            have zy := hY.lt
            ((have nxy' : gx ≠ gy := by omega); (have m1x : g1 ≠ gx := by omega); (have m2x : g2 ≠ gx := by omega); (have m1y : g1 ≠ gy := by omega); (have m2y : g2 ≠ gy := by omega); (have m12 : g1 ≠ g2 := by omega); clear n12; ((try clear n1x); (try clear n1y); (try clear n2x); (try clear n2y); (try clear nx1); (try clear nx2); (try clear ny1); (try clear ny2); (try clear nxy); (try clear nyx); (try clear z1); (try clear z2); (try clear zx); (try clear zy); (try clear z1); (try clear z2); (try clear zx); (try clear zy)); (have HM := Lib.hid (And.intro nxy' (And.intro m1x (And.intro m2x (And.intro m1y (And.intro m2y (And.intro m12 (And.intro ex ey)))))))); (have HA := Lib.hid (And.intro hX (And.intro hY (And.intro hR1 hR2)))); clear nxy' m1x m2x m1y m2y m12 ex ey hX hY hR1 hR2 hB0; ((try clear hk hc hf hzc hzf); (try clear hk hc hf hzc hzf); (try clear hk hc hf hzc hzf); (try clear hk hc hf hzc hzf)); refine wpAnyC_one (i := 6) (by kernel_rfl) rfl ⟨⟨_, hB⟩, rfl⟩ rfl (fun K hK => ?_); refine wp_store_row 36 _ _ rfl gx #[.slice (some ⟨g1, 0, none⟩) T.pts.length c1, (Value.int .i64 (T.closed)), (Value.int .i64 (T.lo)), (Value.int .i64 (T.hi))] rfl rfl 36 _ HA.out.1 (by kernel_rfl) rfl (by simp [Value.oneCell']) (hK _ _ ?_); clear hK K; (have HB := Lib.hid (And.intro (st4 (gs := g1) (cs := c1) (T := T) HA.out.1) (And.intro (st4_far (gs := g1) (cs := c1) (T := T) HA.out.2.1 HM.out.1.symm) (And.intro (st4_row (gs := g1) (cs := c1) (T := T) HA.out.2.2.1 HM.out.2.1) (st4_row (gs := g1) (cs := c1) (T := T) HA.out.2.2.2 HM.out.2.2.1))))); replace hB := st4_bl (gs := g1) (cs := c1) (T := T) hB HM.out.2.2.2.2.2.2.1; clear HA; generalize (y34.setRow gx #[.slice (some ⟨g1, 0, none⟩) T.pts.length c1, (Value.int .i64 (T.closed)), (Value.int .i64 (T.lo)), (Value.int .i64 (T.hi))]) = yf at *; refine wpAnyC_one (i := 7) (by kernel_rfl) rfl ⟨⟨_, hB⟩, rfl⟩ rfl (fun K hK => ?_); refine wp_store_row 36 _ _ rfl gy #[.slice (some ⟨g2, 0, none⟩) T.pts.length c2, (Value.int .i64 (T.closed)), (Value.int .i64 (T.lo)), (Value.int .i64 (T.hi))] rfl rfl 36 _ HB.out.2.1 (by kernel_rfl) rfl (by simp [Value.oneCell']) (hK _ _ ?_); clear hK K; (have HC := Lib.hid (And.intro (st4_far (gs := g2) (cs := c2) (T := T) HB.out.1 HM.out.1) (And.intro (st4 (gs := g2) (cs := c2) (T := T) HB.out.2.1) (And.intro (st4_row (gs := g2) (cs := c2) (T := T) HB.out.2.2.1 HM.out.2.2.2.1) (st4_row (gs := g2) (cs := c2) (T := T) HB.out.2.2.2 HM.out.2.2.2.2.1))))); replace hB := st4_bl (gs := g2) (cs := c2) (T := T) hB HM.out.2.2.2.2.2.2.2; clear HB; generalize (yf.setRow gy #[.slice (some ⟨g2, 0, none⟩) T.pts.length c2, (Value.int .i64 (T.closed)), (Value.int .i64 (T.lo)), (Value.int .i64 (T.hi))]) = yg at *; refine wpAnyC_done (by kernel_rfl) ⟨⟨_, hB⟩, rfl⟩ ?_ _; simp only [Act.put, List.getElem_toArray, List.getElem_cons_succ, List.getElem_cons_zero, List.setIfInBounds_toArray, List.set_cons_succ, List.set_cons_zero]; go_wp2_with fail; go_meet; exact two_done HM HC hB)
        -- END
    case rest =>
      obtain ⟨⟨gw, gl, g1, c1, g2, c2, rfl, rfl, eW, eL, r1, r2, ⟨k1, k2⟩, n1, n2, n3, n4, n5, n6⟩, hbx⟩ := hcut
      have hXc := bl_call hb4X hbx
      have e3c := HE.out.1.below hXc
      have e5c := HE.out.2.below hXc
      have hsX : w.heap.size + 1 < X.heap.size := HE.out.2.lt
      have hs4 := hb4X.size
      have m3w : w.heap.size ≠ gw := by omega
      have m3l : w.heap.size ≠ gl := by omega
      have m5w : w.heap.size + 1 ≠ gw := by omega
      have m5l : w.heap.size + 1 ≠ gl := by omega
      clear la ya0 ya1 ya2 ya3 lc yc0 yc1 yc2 yc3
      ((try clear hk hc hf hzc hzf); (try clear hk hc hf hzc hzf); (try clear hk hc hf hzc hzf); (try clear hk hc hf hzc hzf))
      (have la := e3c.lt); (have ya0 := e3c.cell 0); (have ya1 := e3c.cell 1); (have ya2 := e3c.cell 2); (have ya3 := e3c.cell 3); simp only [List.getElem?_toArray, List.getElem?_cons_zero, List.getElem?_cons_succ] at ya0 ya1 ya2 ya3
      (have lc := e5c.lt); (have yc0 := e5c.cell 0); (have yc1 := e5c.cell 1); (have yc2 := e5c.cell 2); (have yc3 := e5c.cell 3); simp only [List.getElem?_toArray, List.getElem?_cons_zero, List.getElem?_cons_succ] at yc0 yc1 yc2 yc3
      (have lb := eW.lt); (have yb0 := eW.cell 0); (have yb1 := eW.cell 1); (have yb2 := eW.cell 2); (have yb3 := eW.cell 3); simp only [List.getElem?_toArray, List.getElem?_cons_zero, List.getElem?_cons_succ] at yb0 yb1 yb2 yb3
      have f2 := eW.frozen 2
      have f3 := eW.frozen 3
      obtain ⟨-, hcl, -, hl0, hl1, hl2⟩ := trkB_bd HTM.out.1
      have z1 := wrap64_in (x := T.lo - xl) (by omega) (by omega)
      have z2 := wrap64_in (x := T.hi + xh) (by omega) (by omega)
      have HCL := Lib.hid hcl
      have HLH := Lib.hid (And.intro hl0 (And.intro hl1 hl2))
      clear hcl hl0 hl1 hl2
      go_upto_region 9 with fail
      clear f2 f3 z1 z2 la ya0 ya1 ya2 ya3 lc yc0 yc1 yc2 yc3 lb yb0 yb1 yb2 yb3
      have eW1 : Blk ((wc.setCell ⟨gw, 2, none⟩ (Value.int .i64 (max 0 (T.lo - xl)))).setCell ⟨gw, 3, none⟩ (Value.int .i64 (min 320000 (T.hi + xh)))) gw 36 #[.slice (some ⟨g1, 0, none⟩) T.pts.length c1, (Value.int .i64 (T.closed)), (Value.int .i64 (max 0 (T.lo - xl))), (Value.int .i64 (min 320000 (T.hi + xh)))] := by
        have h := (eW.set_ 2 (Value.int .i64 (max 0 (T.lo - xl)))).set_ 3 (Value.int .i64 (min 320000 (T.hi + xh)))
        simpa using h
      have eL1 : Blk ((wc.setCell ⟨gw, 2, none⟩ (Value.int .i64 (max 0 (T.lo - xl)))).setCell ⟨gw, 3, none⟩ (Value.int .i64 (min 320000 (T.hi + xh)))) gl 36 #[.slice (some ⟨g2, 0, none⟩) T.pts.length c2, (Value.int .i64 (T.closed)), (Value.int .i64 (T.lo)), (Value.int .i64 (T.hi))] := (eL.far n1.symm _).far n1.symm _
      have e31 : Blk ((wc.setCell ⟨gw, 2, none⟩ (Value.int .i64 (max 0 (T.lo - xl)))).setCell ⟨gw, 3, none⟩ (Value.int .i64 (min 320000 (T.hi + xh)))) w.heap.size 36 #[.slice (some ⟨b, o, none⟩) T.pts.length ca, (Value.int .i64 (T.closed)), (Value.int .i64 (T.lo)), (Value.int .i64 (T.hi))] := (e3c.far m3w _).far m3w _
      have e51 : Blk ((wc.setCell ⟨gw, 2, none⟩ (Value.int .i64 (max 0 (T.lo - xl)))).setCell ⟨gw, 3, none⟩ (Value.int .i64 (min 320000 (T.hi + xh)))) (w.heap.size + 1) 56 #[(Value.int .i64 (xl)), (Value.int .i64 (xh)), (Value.int .i64 (d.1)), (Value.int .i64 (d.2))] := (e5c.far m5w _).far m5w _
      have r11 : RowP ((wc.setCell ⟨gw, 2, none⟩ (Value.int .i64 (max 0 (T.lo - xl)))).setCell ⟨gw, 3, none⟩ (Value.int .i64 (min 320000 (T.hi + xh)))) w4.heap.size (.slice (some ⟨g1, 0, none⟩) T.pts.length c1) T.pts := (r1.far (by simp [Value.ownBlock]; exact n2) _).far (by simp [Value.ownBlock]; exact n2) _
      have r21 : RowP ((wc.setCell ⟨gw, 2, none⟩ (Value.int .i64 (max 0 (T.lo - xl)))).setCell ⟨gw, 3, none⟩ (Value.int .i64 (min 320000 (T.hi + xh)))) w4.heap.size (.slice (some ⟨g2, 0, none⟩) T.pts.length c2) T.pts := (r2.far (by simp [Value.ownBlock]; exact n5) _).far (by simp [Value.ownBlock]; exact n5) _
      have h41 : Below w4.heap.size w4 ((wc.setCell ⟨gw, 2, none⟩ (Value.int .i64 (max 0 (T.lo - xl)))).setCell ⟨gw, 3, none⟩ (Value.int .i64 (min 320000 (T.hi + xh)))) := bl_setc5 (bl_setc5 hbx k1) k1
      clear eW eL e3c e5c r1 r2 hbx hCp HE
      generalize ((wc.setCell ⟨gw, 2, none⟩ (Value.int .i64 (max 0 (T.lo - xl)))).setCell ⟨gw, 3, none⟩ (Value.int .i64 (min 320000 (T.hi + xh)))) = Y at *
      obtain ⟨ti, hi, hz0, hz1, hz2⟩ := info_parts infoPt
      (have lc := e51.lt); (have yc0 := e51.cell 0); (have yc1 := e51.cell 1); (have yc2 := e51.cell 2); (have yc3 := e51.cell 3); simp only [List.getElem?_toArray, List.getElem?_cons_zero, List.getElem?_cons_succ] at yc0 yc1 yc2 yc3
      (have lb := eL1.lt); (have yb0 := eL1.cell 0); (have yb1 := eL1.cell 1); (have yb2 := eL1.cell 2); (have yb3 := eL1.cell 3); simp only [List.getElem?_toArray, List.getElem?_cons_zero, List.getElem?_cons_succ] at yb0 yb1 yb2 yb3
      have f0 := eL1.frozen 0
      have hsY := h41.size
      go_upto_region 10 with (at_builtin; refine wpList_append_own _ rfl (.tmp 94) (.tmp 97) 22 rfl w4.heap.size 31 ti _ 2 16 undPts hi hz0 hz1 hz2 rfl (by decide) _ _ _ rfl (World.ownsRow.alloc r21 _) ⟨Y.heap.size, 0, none⟩ 1 1 [(Value.int .i64 (d.1)), (Value.int .i64 (d.2))] rfl rfl (cell_two_new _ _ _ _) (one_pt _) (by unfold maxLen; omega) (by omega) (by simp; omega) ?_)
      intro v' w5 hown hgrow _
      have hW := (RowP.alloc_ r11 (.cells #[(Value.int .i64 (d.1)), (Value.int .i64 (d.2))] 31)).grown_ (r := g2) hgrow (by simp [Value.ownBlock]; exact n4)
      have eW2 := blk_grown (eW1.alloc (.cells #[(Value.int .i64 (d.1)), (Value.int .i64 (d.2))] 31)) (r := g2) hgrow n5.symm
      have eL2 := blk_grown (eL1.alloc (.cells #[(Value.int .i64 (d.1)), (Value.int .i64 (d.2))] 31)) (r := g2) hgrow n6.symm
      have hg2 := r21.base.1
      have e32 := blk_grown (e31.alloc (.cells #[(Value.int .i64 (d.1)), (Value.int .i64 (d.2))] 31)) (r := g2) hgrow (by omega)
      have h42 : Below w4.heap.size w4 w5 := (bl_alloc (o := .cells #[(Value.int .i64 (d.1)), (Value.int .i64 (d.2))] 31) h41).grown hgrow (bl_alloc h41).size (fun j hj => by cases hj; exact hg2)
      obtain ⟨g5, c5', rfl, r5, hg5⟩ := RowP.head (RowP.snoc hown rfl) (by simp)
      have n7 : g5 ≠ gl := by
        rintro rfl
        obtain ⟨cur, hc, -⟩ := r5.blk
        have h := hc.symm.trans eL2
        simp at h
      clear lc yc0 yc1 yc2 yc3 lb yb0 yb1 yb2 yb3 f0 hown hgrow e51 e31 eL1 eW1 r11 r21 h41 hsY
      (have lb := eL2.lt); (have yb0 := eL2.cell 0); (have yb1 := eL2.cell 1); (have yb2 := eL2.cell 2); (have yb3 := eL2.cell 3); simp only [List.getElem?_toArray, List.getElem?_cons_zero, List.getElem?_cons_succ] at yb0 yb1 yb2 yb3
      have f0 := eL2.frozen 0
      go_upto_region 10 with fail
      clear f0 lb yb0 yb1 yb2 yb3
      have eWz := eW2.far (p := ⟨gl, 0, none⟩) n1 (.slice (some ⟨g5, 0, none⟩) (T.pts.length + 1) c5')
      have eLz : Blk (w5.setCell ⟨gl, 0, none⟩ (.slice (some ⟨g5, 0, none⟩) (T.pts.length + 1) c5')) gl 36 #[.slice (some ⟨g5, 0, none⟩) (T.pts.length + 1) c5', (Value.int .i64 (T.closed)), (Value.int .i64 (T.lo)), (Value.int .i64 (T.hi))] := by
        have h := eL2.set_ 0 (.slice (some ⟨g5, 0, none⟩) (T.pts.length + 1) c5')
        simpa using h
      have e3z := e32.far (p := ⟨gl, 0, none⟩) m3l (.slice (some ⟨g5, 0, none⟩) (T.pts.length + 1) c5')
      have p1 := (hW.far (p := ⟨gl, 0, none⟩) (by simp [Value.ownBlock]; exact n3) (.slice (some ⟨g5, 0, none⟩) (T.pts.length + 1) c5')).pts
      have p5 := (r5.far (p := ⟨gl, 0, none⟩) (by simp [Value.ownBlock]; exact n7) (.slice (some ⟨g5, 0, none⟩) (T.pts.length + 1) c5')).pts
      have hXz : Below X.heap.size X (w5.setCell ⟨gl, 0, none⟩ (.slice (some ⟨g5, 0, none⟩) (T.pts.length + 1) c5')) := bl_call hb4X (bl_setc5 h42 k2)
      clear eW2 eL2 e32 hW r5 h42
      generalize w5.setCell ⟨gl, 0, none⟩ (.slice (some ⟨g5, 0, none⟩) (T.pts.length + 1) c5') = Z at *
      have hZ : Below w.heap.size w Z := bl_call hbX hXz
      have za := xa.below hXz
      have zb := xb.below hXz
      clear xa xb xp xq hXz hb4X hbX n1 n2 n3 n4 n5 n6 n7 m3w m3l m5w m5l k1 k2 hs4 hsX hg2 hg5
      obtain ⟨hT, hm⟩ := HTM.out
      have hT2 : trkB ({ T with lo := max 0 (T.lo - xl), hi := min 320000 (T.hi + xh) } : Trk) = true := by
        have h := hT
        have h6 := HLH.out
        simp only [trkB, within, Bool.and_eq_true, decide_eq_true_eq] at h ⊢
        obtain ⟨⟨⟨⟨h1, h2⟩, h3⟩, h4⟩, h5⟩ := h
        exact ⟨⟨⟨⟨h1, h2⟩, h3⟩, by rw [Int.max_def, Int.min_def]; split <;> split <;> omega⟩, Int.min_le_left _ _⟩
      have hmx : max 0 (T.lo - xl) ≤ T.lo := by have := HLH.out; rw [Int.max_def]; split <;> omega
      have hmi : T.hi ≤ min 320000 (T.hi + xh) := by have := HLH.out; rw [Int.min_def]; split <;> omega
      have hW1 := HMR.out ({ T with lo := max 0 (T.lo - xl), hi := min 320000 (T.hi + xh) } : Trk) (wid_arm hmx hmi) (chk_zero hT2 hm)
      clear hmx hmi
      have hW2 := fun h1 h2 => HMR.out ({ T with pts := T.pts ++ [d] } : Trk) (wid_long h1) h2
      have p5' : Pts Z (some ⟨g5, 0, none⟩) ({ T with pts := T.pts ++ [d] } : Trk).pts := p5
      have hT3l : ({ T with pts := T.pts ++ [d] } : Trk).pts.length = T.pts.length + 1 := by simp
      have hRl := fun (W : World) (h : Below Z.heap.size Z W) => ready_any (some ⟨g5, 0, none⟩) (some ⟨bm, om, none⟩) c5' cm ({ T with pts := T.pts ++ [d] } : Trk) m W (p5'.below h) (by rw [hT3l]; omega) (zb.below h) (by omega)
      simp only [hT3l] at hRl
      rcases hoc with rfl | rfl
      · have hH1 := fun (W : World) (h : Below Z.heap.size Z W) => holds_any (some ⟨b, o, none⟩) (some ⟨g1, 0, none⟩) (some ⟨bm, om, none⟩) ca c1 cm T ({ T with lo := max 0 (T.lo - xl), hi := min 320000 (T.hi + xh) } : Trk) m W (za.below h) (p1.below h) (zb.below h) h5T h5T h5m (hW1 HOP.out)
        replace hH1 := Lib.hid hH1
        (have la := e3z.lt); (have ya0 := e3z.cell 0); (have ya1 := e3z.cell 1); (have ya2 := e3z.cell 2); (have ya3 := e3z.cell 3); simp only [List.getElem?_toArray, List.getElem?_cons_zero, List.getElem?_cons_succ] at ya0 ya1 ya2 ya3
        (have lb := eWz.lt); (have yb0 := eWz.cell 0); (have yb1 := eWz.cell 1); (have yb2 := eWz.cell 2); (have yb3 := eWz.cell 3); simp only [List.getElem?_toArray, List.getElem?_cons_zero, List.getElem?_cons_succ] at yb0 yb1 yb2 yb3
        (have lc := eLz.lt); (have yc0 := eLz.cell 0); (have yc1 := eLz.cell 1); (have yc2 := eLz.cell 2); (have yc3 := eLz.cell 3); simp only [List.getElem?_toArray, List.getElem?_cons_zero, List.getElem?_cons_succ] at yc0 yc1 yc2 yc3
        by_cases hc : T.closed = 1
        · have hc1 : (T.closed == 1) = true := beq_iff_eq.2 hc
          replace hRl := Lib.hid hRl
          clear hc hW1 hW2 HLH HCL hT hm hT2 HMR HOP HTM hmn hT3l p5 p5' za zb p1
          go_wp2_with (first | ((go_at_call 46); (with_reducible refine Calls.mono (hH1.out _ (by (repeat (first | with_reducible exact Below.refl _ _ | with_reducible apply bl_alloc | with_reducible apply bl_drew | with_reducible apply bl_after | (with_reducible refine bl_call ?_ (by assumption)))))) ?_); rintro e wn ⟨rfl, hbn⟩; first | ((with_reducible apply kp_in_step (hb := hbn)); (with_reducible assumption); rintro ⟨hk, hc, hf, hzc, hzf⟩) | ((with_reducible refine kp_in_first hbn ?_); rintro ⟨hk, hc, hf, hzc, hzf⟩)) | ((go_at_call 14); (with_reducible refine Calls.mono (works_any _) ?_); rintro e wn ⟨rfl, hbn⟩; first | ((with_reducible apply kp_in_step (hb := hbn)); (with_reducible assumption); rintro ⟨hk, hc, hf, hzc, hzf⟩) | ((with_reducible refine kp_in_first hbn ?_); rintro ⟨hk, hc, hf, hzc, hzf⟩)))
          go_ret
          exact ⟨rfl, bl_call hZ (by (repeat (first | with_reducible exact Below.refl _ _ | with_reducible apply bl_alloc | with_reducible apply bl_drew | with_reducible apply bl_after | (with_reducible refine bl_call ?_ (by assumption)))))⟩
        · have hc1 : (T.closed == 1) = false := beq_eq_false_iff_ne.2 hc
          cases hr3 : rdyB ({ T with pts := T.pts ++ [d] } : Trk) m with
          | false =>
            rw [hr3] at hRl
            replace hRl := Lib.hid hRl
            clear hr3 hc hW1 hW2 HLH HCL hT hm hT2 HMR HOP HTM hmn hT3l p5 p5' za zb p1
            go_wp2_with (first | ((go_at_call 46); (with_reducible refine Calls.mono (hH1.out _ (by (repeat (first | with_reducible exact Below.refl _ _ | with_reducible apply bl_alloc | with_reducible apply bl_drew | with_reducible apply bl_after | (with_reducible refine bl_call ?_ (by assumption)))))) ?_); rintro e wn ⟨rfl, hbn⟩; first | ((with_reducible apply kp_in_step (hb := hbn)); (with_reducible assumption); rintro ⟨hk, hc, hf, hzc, hzf⟩) | ((with_reducible refine kp_in_first hbn ?_); rintro ⟨hk, hc, hf, hzc, hzf⟩)) | ((go_at_call 42); (with_reducible refine Calls.mono (hRl.out _ (by (repeat (first | with_reducible exact Below.refl _ _ | with_reducible apply bl_alloc | with_reducible apply bl_drew | with_reducible apply bl_after | (with_reducible refine bl_call ?_ (by assumption)))))) ?_); rintro e wn ⟨rfl, hbn⟩; first | ((with_reducible apply kp_in_step (hb := hbn)); (with_reducible assumption); rintro ⟨hk, hc, hf, hzc, hzf⟩) | ((with_reducible refine kp_in_first hbn ?_); rintro ⟨hk, hc, hf, hzc, hzf⟩)) | ((go_at_call 14); (with_reducible refine Calls.mono (works_any _) ?_); rintro e wn ⟨rfl, hbn⟩; first | ((with_reducible apply kp_in_step (hb := hbn)); (with_reducible assumption); rintro ⟨hk, hc, hf, hzc, hzf⟩) | ((with_reducible refine kp_in_first hbn ?_); rintro ⟨hk, hc, hf, hzc, hzf⟩)))
            go_ret
            exact ⟨rfl, bl_call hZ (by (repeat (first | with_reducible exact Below.refl _ _ | with_reducible apply bl_alloc | with_reducible apply bl_drew | with_reducible apply bl_after | (with_reducible refine bl_call ?_ (by assumption)))))⟩
          | true =>
            rw [hr3] at hRl
            replace hRl := Lib.hid hRl
            obtain ⟨-, -, hc3, h53, -⟩ := rdy_parts hr3
            have hH2 := fun (W : World) (h : Below Z.heap.size Z W) => holds_any (some ⟨b, o, none⟩) (some ⟨g5, 0, none⟩) (some ⟨bm, om, none⟩) ca c5' cm T ({ T with pts := T.pts ++ [d] } : Trk) m W (za.below h) (p5'.below h) (zb.below h) h5T h53 h5m (hW2 hc hc3 HOP.out)
            simp only [hT3l] at hH2
            replace hH2 := Lib.hid hH2
            clear hr3 hc hc3 h53 hW1 hW2 HLH HCL hT hm hT2 HMR HOP HTM hmn hT3l p5 p5' za zb p1
            go_wp2_with (first | ((go_at_call 46); (with_reducible refine Calls.mono (hH1.out _ (by (repeat (first | with_reducible exact Below.refl _ _ | with_reducible apply bl_alloc | with_reducible apply bl_drew | with_reducible apply bl_after | (with_reducible refine bl_call ?_ (by assumption)))))) ?_); rintro e wn ⟨rfl, hbn⟩; first | ((with_reducible apply kp_in_step (hb := hbn)); (with_reducible assumption); rintro ⟨hk, hc, hf, hzc, hzf⟩) | ((with_reducible refine kp_in_first hbn ?_); rintro ⟨hk, hc, hf, hzc, hzf⟩)) | ((go_at_call 46); (with_reducible refine Calls.mono (hH2.out _ (by (repeat (first | with_reducible exact Below.refl _ _ | with_reducible apply bl_alloc | with_reducible apply bl_drew | with_reducible apply bl_after | (with_reducible refine bl_call ?_ (by assumption)))))) ?_); rintro e wn ⟨rfl, hbn⟩; first | ((with_reducible apply kp_in_step (hb := hbn)); (with_reducible assumption); rintro ⟨hk, hc, hf, hzc, hzf⟩) | ((with_reducible refine kp_in_first hbn ?_); rintro ⟨hk, hc, hf, hzc, hzf⟩)) | ((go_at_call 42); (with_reducible refine Calls.mono (hRl.out _ (by (repeat (first | with_reducible exact Below.refl _ _ | with_reducible apply bl_alloc | with_reducible apply bl_drew | with_reducible apply bl_after | (with_reducible refine bl_call ?_ (by assumption)))))) ?_); rintro e wn ⟨rfl, hbn⟩; first | ((with_reducible apply kp_in_step (hb := hbn)); (with_reducible assumption); rintro ⟨hk, hc, hf, hzc, hzf⟩) | ((with_reducible refine kp_in_first hbn ?_); rintro ⟨hk, hc, hf, hzc, hzf⟩)) | ((go_at_call 14); (with_reducible refine Calls.mono (works_any _) ?_); rintro e wn ⟨rfl, hbn⟩; first | ((with_reducible apply kp_in_step (hb := hbn)); (with_reducible assumption); rintro ⟨hk, hc, hf, hzc, hzf⟩) | ((with_reducible refine kp_in_first hbn ?_); rintro ⟨hk, hc, hf, hzc, hzf⟩)))
            go_ret
            exact ⟨rfl, bl_call hZ (by (repeat (first | with_reducible exact Below.refl _ _ | with_reducible apply bl_alloc | with_reducible apply bl_drew | with_reducible apply bl_after | (with_reducible refine bl_call ?_ (by assumption)))))⟩
      · have hmz := hmn rfl
        clear hW1 hW2 HLH HCL hT hm hT2 HMR HOP HTM hmn hT3l p5 p5' za zb p1 hRl
        go_wp2_with (((go_at_call 14); (with_reducible refine Calls.mono (works_any _) ?_); rintro e wn ⟨rfl, hbn⟩; first | ((with_reducible apply kp_in_step (hb := hbn)); (with_reducible assumption); rintro ⟨hk, hc, hf, hzc, hzf⟩) | ((with_reducible refine kp_in_first hbn ?_); rintro ⟨hk, hc, hf, hzc, hzf⟩)))
        go_ret
        exact ⟨rfl, bl_call hZ (by (repeat (first | with_reducible exact Below.refl _ _ | with_reducible apply bl_alloc | with_reducible apply bl_drew | with_reducible apply bl_after | (with_reducible refine bl_call ?_ (by assumption)))))⟩
end Go.Proofs.Ytfgplmgkejeoiaa
