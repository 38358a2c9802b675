/- The functions knurlref05.Copy, knurllaw05.samePoints and Far. -/
import Derived.Test.YtfgplmgkejeoiaaReach
import Derived.Test.YtfgplmgkejeoiaaPv
import Derived.Lib.SmallJoins
namespace Go.Proofs.Ytfgplmgkejeoiaa
open Go.RowKit
attribute [local go_sem] After.cell After.frozen
attribute [local go_sem high] run_eql_pt run_neq_pt

theorem bl_setc5 {w X : World} {b o : Nat} {v : Value} (h : Below w.heap.size w X) (hb : w.heap.size ≤ b) : Below w.heap.size w (X.setCell ⟨b, o, none⟩ v) := h.setCell (p := ⟨b, o, none⟩) hb v
theorem Pts.far {W : World} {A : Option Addr} {l : List Pt} (h : Pts W A l) {p : Addr} (hne : ∀ a, A = some a → a.block ≠ p.block) (v : Value) : Pts (W.setCell p v) A l := by
  rcases h with h | ⟨b, o, rfl, hI⟩
  · exact .inl h
  · have hb := hne _ rfl
    exact .inr ⟨b, o, rfl, by simpa using hI.lt, fun i q hi => (World.cell?_of_block (Below.heap_setCell W p v b hb)).trans (hI.x i q hi), fun i q hi => (World.cell?_of_block (Below.heap_setCell W p v b hb)).trans (hI.y i q hi)⟩
theorem pt_ext {l m : List Pt} (h : l.length = m.length) (e : ∀ j, j < l.length → pat l j = pat m j) : l = m := by
  refine List.ext_getElem h fun i h1 h2 => ?_
  rw [pat_eq h1, pat_eq h2]
  exact e i h1
set_option maxRecDepth 100000 in
set_option maxHeartbeats 1000000 in
theorem samePoints_any (A B : Option Addr) (ca cb : Nat) (l m : List Pt) (w : World) (ha : Pts w A l) (hb : Pts w B m) (hl : l.length ≤ 1000000) (_ : m.length ≤ 1000000) :
    Calls Try.prog 21 #[.slice A l.length ca, .slice B m.length cb] w fun e w' => e = .returned (.bool (decide (l = m))) ∧ Below w.heap.size w w' := by
  by_cases hlm : l.length = m.length
  · go_enter Try.func21, Try.ntmps21
    go_wp2
    go_loopw [5] (fun i wr => ∃ k : Nat, k ≤ l.length ∧ i = (Value.int .i64 ((k : Int))) ∧ (∀ j, j < k → pat l j = pat m j) ∧ Below w.heap.size w wr) (fun i _ => l.length - (intOf i).toNat)
    case atStart => exact ⟨0, Nat.zero_le _, rfl, (fun j hj => by omega), by (repeat (first | with_reducible exact Below.refl _ _ | with_reducible apply bl_alloc | with_reducible apply bl_drew | with_reducible apply bl_after | (with_reducible refine bl_call ?_ (by assumption))))⟩
    case round =>
      obtain ⟨k, kn, rfl, HR, hbw⟩ := hrel
      replace HR := Lib.hid HR
      by_cases hlt : k < l.length
      · obtain ⟨b, o, rfl, pa⟩ := (ha.below hbw).at_ hlt
        have hlt2 : k < m.length := by omega
        obtain ⟨b', o', rfl, pb⟩ := (hb.below hbw).at_ hlt2
        have x1 := pa.xp hlt
        have x2 := pa.yp hlt
        have lb := pa.lt
        have x3 := pb.xp hlt2
        have x4 := pb.yp hlt2
        have lb2 := pb.lt
        by_cases he : pat l k = pat m k
        · have he' : decide (pat l k = pat m k) = true := by simpa using he
          go_wp2
          refine wp_region_after (by kernel_rfl) (by kernel_rfl) ?_; (repeat (go_big_quiet_step ((fail)))); refine wpQuiet_nil ?_; rintro _ ⟨z, rfl⟩; (first | ((with_reducible apply kp_in_after (z := z)); (with_reducible assumption); rintro ⟨hk, hc, hf, hzc, hzf⟩) | ((with_reducible refine kp_in_after0 z ?_); rintro ⟨hk, hc, hf, hzc, hzf⟩))
          go_wp2
          go_roundw
          case rel => exact ⟨k + 1, by omega, by go_num, (fun j hj => by rcases Nat.lt_succ_iff_lt_or_eq.1 hj with h | h; exact HR.out j h; subst h; exact he), by (repeat (first | with_reducible exact Below.refl _ _ | with_reducible apply bl_alloc | with_reducible apply bl_drew | with_reducible apply bl_after | (with_reducible refine bl_call ?_ (by assumption))))⟩
          case measure => simp [intOf]; omega
        · have he' : decide (pat l k = pat m k) = false := by simpa using he
          go_wp2
          refine wp_region_after (by kernel_rfl) (by kernel_rfl) ?_; (repeat (go_big_quiet_step ((fail)))); refine wpQuiet_nil ?_; rintro _ ⟨z, rfl⟩; (first | ((with_reducible apply kp_in_after (z := z)); (with_reducible assumption); rintro ⟨hk, hc, hf, hzc, hzf⟩) | ((with_reducible refine kp_in_after0 z ?_); rintro ⟨hk, hc, hf, hzc, hzf⟩))
          go_wp2
          go_ret
          refine ⟨ret_bool (decide_eq_false fun h => he (by rw [h])).symm, by (repeat (first | with_reducible exact Below.refl _ _ | with_reducible apply bl_alloc | with_reducible apply bl_drew | with_reducible apply bl_after | (with_reducible refine bl_call ?_ (by assumption))))⟩
      · go_wp2
        go_ret
        obtain rfl : k = l.length := by omega
        refine ⟨ret_bool (decide_eq_true (pt_ext hlm HR.out)).symm, by (repeat (first | with_reducible exact Below.refl _ _ | with_reducible apply bl_alloc | with_reducible apply bl_drew | with_reducible apply bl_after | (with_reducible refine bl_call ?_ (by assumption))))⟩
  · go_enter Try.func21, Try.ntmps21
    have h : ¬ l = m := fun h => hlm (by rw [h])
    go_wp2
    go_ret
    refine ⟨ret_bool (decide_eq_false h).symm, by (repeat (first | with_reducible exact Below.refl _ _ | with_reducible apply bl_alloc | with_reducible apply bl_drew | with_reducible apply bl_after | (with_reducible refine bl_call ?_ (by assumption))))⟩

theorem own_far {W : World} {B e s n : Nat} {v : Value} {xs : List Value} (h : W.ownsRow B e s v n xs) {p : Addr} (hp : p.block < B) (u : Value) : (W.setCell p u).ownsRow B e s v n xs := by
  refine ⟨h.1, ?_⟩
  rcases h.2 with h0 | ⟨g, cap, cur, hv, hg, hc, hr⟩
  · exact .inl h0
  · exact .inr ⟨g, cap, cur, hv, hg, (Below.heap_setCell W p u g (by omega)).trans hc, hr⟩
set_option maxRecDepth 100000 in
set_option maxHeartbeats 1000000 in
theorem Copy_own (ad : Addr) (ca : Nat) (T : Trk) (w : World) (ha : Pts w (some ad) T.pts) (hl : T.pts.length ≤ 1000) :
    Calls Try.prog 16 #[(Value.agg #[.slice (some ad) T.pts.length ca, (Value.int .i64 (T.closed)), (Value.int .i64 (T.lo)), (Value.int .i64 (T.hi))])] w fun e w' => (∃ A' ca', e = .returned (Value.agg #[.slice A' T.pts.length ca', (Value.int .i64 (T.closed)), (Value.int .i64 (T.lo)), (Value.int .i64 (T.hi))]) ∧ w'.ownsRow w.heap.size 31 2 (.slice A' T.pts.length ca') T.pts.length (ptsV T.pts)) ∧ Below w.heap.size w w' := by
  obtain ⟨i0, hi, hz0, hz1, hz2⟩ := info_parts infoPt
  have c1 : Blk (((w.alloc (.cells #[.slice (some ad) T.pts.length ca, (Value.int .i64 (T.closed)), (Value.int .i64 (T.lo)), (Value.int .i64 (T.hi))] 36)).alloc (.cells #[.slice none 0 0, (Value.int .i64 (0)), (Value.int .i64 (0)), (Value.int .i64 (0))] 36)).alloc (.cells #[.slice (some ad) T.pts.length ca, (Value.int .i64 (T.closed)), (Value.int .i64 (T.lo)), (Value.int .i64 (T.hi))] 36)) (w.heap.size + 1) 36 #[.slice none 0 0, (Value.int .i64 (0)), (Value.int .i64 (0)), (Value.int .i64 (0))] := by
    have h := (Blk.new (w.alloc (.cells #[.slice (some ad) T.pts.length ca, (Value.int .i64 (T.closed)), (Value.int .i64 (T.lo)), (Value.int .i64 (T.hi))] 36)) 36 #[.slice none 0 0, (Value.int .i64 (0)), (Value.int .i64 (0)), (Value.int .i64 (0))]).alloc (.cells #[.slice (some ad) T.pts.length ca, (Value.int .i64 (T.closed)), (Value.int .i64 (T.lo)), (Value.int .i64 (T.hi))] 36)
    simpa using h
  have c3 : Blk (((w.alloc (.cells #[.slice (some ad) T.pts.length ca, (Value.int .i64 (T.closed)), (Value.int .i64 (T.lo)), (Value.int .i64 (T.hi))] 36)).alloc (.cells #[.slice none 0 0, (Value.int .i64 (0)), (Value.int .i64 (0)), (Value.int .i64 (0))] 36)).alloc (.cells #[.slice (some ad) T.pts.length ca, (Value.int .i64 (T.closed)), (Value.int .i64 (T.lo)), (Value.int .i64 (T.hi))] 36)) (w.heap.size + 1 + 1) 36 #[.slice (some ad) T.pts.length ca, (Value.int .i64 (T.closed)), (Value.int .i64 (T.lo)), (Value.int .i64 (T.hi))] := by
    have h := Blk.new ((w.alloc (.cells #[.slice (some ad) T.pts.length ca, (Value.int .i64 (T.closed)), (Value.int .i64 (T.lo)), (Value.int .i64 (T.hi))] 36)).alloc (.cells #[.slice none 0 0, (Value.int .i64 (0)), (Value.int .i64 (0)), (Value.int .i64 (0))] 36)) 36 #[.slice (some ad) T.pts.length ca, (Value.int .i64 (T.closed)), (Value.int .i64 (T.lo)), (Value.int .i64 (T.hi))]
    simpa using h
  have hbX : Below w.heap.size w (((w.alloc (.cells #[.slice (some ad) T.pts.length ca, (Value.int .i64 (T.closed)), (Value.int .i64 (T.lo)), (Value.int .i64 (T.hi))] 36)).alloc (.cells #[.slice none 0 0, (Value.int .i64 (0)), (Value.int .i64 (0)), (Value.int .i64 (0))] 36)).alloc (.cells #[.slice (some ad) T.pts.length ca, (Value.int .i64 (T.closed)), (Value.int .i64 (T.lo)), (Value.int .i64 (T.hi))] 36)) := by (repeat (first | with_reducible exact Below.refl _ _ | with_reducible apply bl_alloc | with_reducible apply bl_drew | with_reducible apply bl_after | (with_reducible refine bl_call ?_ (by assumption))))
  have hP : Pts (((w.alloc (.cells #[.slice (some ad) T.pts.length ca, (Value.int .i64 (T.closed)), (Value.int .i64 (T.lo)), (Value.int .i64 (T.hi))] 36)).alloc (.cells #[.slice none 0 0, (Value.int .i64 (0)), (Value.int .i64 (0)), (Value.int .i64 (0))] 36)).alloc (.cells #[.slice (some ad) T.pts.length ca, (Value.int .i64 (T.closed)), (Value.int .i64 (T.lo)), (Value.int .i64 (T.hi))] 36)) (some ad) T.pts := ha.below hbX
  have ho := World.ownsRow_made (base := ((((w.alloc (.cells #[.slice (some ad) T.pts.length ca, (Value.int .i64 (T.closed)), (Value.int .i64 (T.lo)), (Value.int .i64 (T.hi))] 36)).alloc (.cells #[.slice none 0 0, (Value.int .i64 (0)), (Value.int .i64 (0)), (Value.int .i64 (0))] 36)).alloc (.cells #[.slice (some ad) T.pts.length ca, (Value.int .i64 (T.closed)), (Value.int .i64 (T.lo)), (Value.int .i64 (T.hi))] 36))).heap.size) (e := 31) (size := 2) (((w.alloc (.cells #[.slice (some ad) T.pts.length ca, (Value.int .i64 (T.closed)), (Value.int .i64 (T.lo)), (Value.int .i64 (T.hi))] 36)).alloc (.cells #[.slice none 0 0, (Value.int .i64 (0)), (Value.int .i64 (0)), (Value.int .i64 (0))] 36)).alloc (.cells #[.slice (some ad) T.pts.length ca, (Value.int .i64 (T.closed)), (Value.int .i64 (T.lo)), (Value.int .i64 (T.hi))] 36)) #[] 0 (Nat.le_refl _) (by decide) rfl
  have hs : ((((w.alloc (.cells #[.slice (some ad) T.pts.length ca, (Value.int .i64 (T.closed)), (Value.int .i64 (T.lo)), (Value.int .i64 (T.hi))] 36)).alloc (.cells #[.slice none 0 0, (Value.int .i64 (0)), (Value.int .i64 (0)), (Value.int .i64 (0))] 36)).alloc (.cells #[.slice (some ad) T.pts.length ca, (Value.int .i64 (T.closed)), (Value.int .i64 (T.lo)), (Value.int .i64 (T.hi))] 36))).heap.size = w.heap.size + 1 + 1 + 1 := by simp
  have ho2 := ho
  rw [hs] at ho2
  clear ha
  go_enter Try.func16, Try.ntmps16
  go_wp2_with (at_builtin; refine wpList_append_own _ rfl (.tmp 5) (.tmp 7) 22 rfl (w.heap.size + 1 + 1 + 1) 31 i0 _ 2 16 undPts hi hz0 hz1 hz2 rfl (by decide) _ 0 [] rfl ho2 ad T.pts.length ca (ptsV T.pts) rfl (ptsV_len T.pts) (hP.alloc _).cellsV (ptsV_one T.pts) (by unfold maxLen; omega) (by omega) (by simp) ?_)
  intro v' w1 hown hgrow _
  have hb : Below ((((w.alloc (.cells #[.slice (some ad) T.pts.length ca, (Value.int .i64 (T.closed)), (Value.int .i64 (T.lo)), (Value.int .i64 (T.hi))] 36)).alloc (.cells #[.slice none 0 0, (Value.int .i64 (0)), (Value.int .i64 (0)), (Value.int .i64 (0))] 36)).alloc (.cells #[.slice (some ad) T.pts.length ca, (Value.int .i64 (T.closed)), (Value.int .i64 (T.lo)), (Value.int .i64 (T.hi))] 36))).heap.size (((w.alloc (.cells #[.slice (some ad) T.pts.length ca, (Value.int .i64 (T.closed)), (Value.int .i64 (T.lo)), (Value.int .i64 (T.hi))] 36)).alloc (.cells #[.slice none 0 0, (Value.int .i64 (0)), (Value.int .i64 (0)), (Value.int .i64 (0))] 36)).alloc (.cells #[.slice (some ad) T.pts.length ca, (Value.int .i64 (T.closed)), (Value.int .i64 (T.lo)), (Value.int .i64 (T.hi))] 36)) w1 := (bl_alloc (Below.refl _ _)).grown hgrow (by simp) (fun k hk => by rw [hs]; exact (ho2.lt k hk).1)
  obtain ⟨_, A', ca', rfl, _⟩ := own_parts hown
  have e1 := c1.below hb
  have e3 := c3.below hb
  have hbw := bl_call hbX hb
  have HO := Lib.hid hown
  clear hown hgrow hb c1 c3 ho ho2 hP hbX hs
  have l1 := e1.lt
  have l3 := e3.lt
  have y1 := e3.cell 1
  have y2 := e3.cell 2
  have y3 := e3.cell 3
  simp only [List.getElem?_toArray, List.getElem?_cons_zero, List.getElem?_cons_succ] at y1 y2 y3
  have y0 := e3.cell 0
  simp only [List.getElem?_toArray, List.getElem?_cons_zero] at y0
  have f3 := e3.frozen 0
  have f10 := e1.frozen 0
  have f11 := e1.frozen 1
  have f12 := e1.frozen 2
  have f13 := e1.frozen 3
  have u0 := e1.cell 0
  have u1 := e1.cell 1
  have u2 := e1.cell 2
  have u3 := e1.cell 3
  simp only [List.getElem?_toArray, List.getElem?_cons_zero, List.getElem?_cons_succ] at u0 u1 u2 u3
  go_wp2
  have d1 : Blk (((((w1.setCell ⟨w.heap.size + 1 + 1, 0, none⟩ (.slice A' T.pts.length ca')).setCell ⟨w.heap.size + 1, 0, none⟩ (.slice A' T.pts.length ca')).setCell ⟨w.heap.size + 1, 1, none⟩ (Value.int .i64 (T.closed))).setCell ⟨w.heap.size + 1, 2, none⟩ (Value.int .i64 (T.lo))).setCell ⟨w.heap.size + 1, 3, none⟩ (Value.int .i64 (T.hi))) (w.heap.size + 1) 36 #[.slice A' T.pts.length ca', (Value.int .i64 (T.closed)), (Value.int .i64 (T.lo)), (Value.int .i64 (T.hi))] := by
    have h := (((((e1.far (p := ⟨w.heap.size + 1 + 1, 0, none⟩) (by simp) (.slice A' T.pts.length ca')).set_ 0 (.slice A' T.pts.length ca')).set_ 1 (Value.int .i64 (T.closed))).set_ 2 (Value.int .i64 (T.lo))).set_ 3 (Value.int .i64 (T.hi)))
    simpa using h
  have hbX : Below w.heap.size w (((((w1.setCell ⟨w.heap.size + 1 + 1, 0, none⟩ (.slice A' T.pts.length ca')).setCell ⟨w.heap.size + 1, 0, none⟩ (.slice A' T.pts.length ca')).setCell ⟨w.heap.size + 1, 1, none⟩ (Value.int .i64 (T.closed))).setCell ⟨w.heap.size + 1, 2, none⟩ (Value.int .i64 (T.lo))).setCell ⟨w.heap.size + 1, 3, none⟩ (Value.int .i64 (T.hi))) := bl_setc5 (bl_setc5 (bl_setc5 (bl_setc5 (bl_setc5 hbw (by omega)) (by omega)) (by omega)) (by omega)) (by omega)
  have hOX : ((((((w1.setCell ⟨w.heap.size + 1 + 1, 0, none⟩ (.slice A' T.pts.length ca')).setCell ⟨w.heap.size + 1, 0, none⟩ (.slice A' T.pts.length ca')).setCell ⟨w.heap.size + 1, 1, none⟩ (Value.int .i64 (T.closed))).setCell ⟨w.heap.size + 1, 2, none⟩ (Value.int .i64 (T.lo))).setCell ⟨w.heap.size + 1, 3, none⟩ (Value.int .i64 (T.hi)))).ownsRow (w.heap.size + 1 + 1 + 1) 31 2 (.slice A' T.pts.length ca') T.pts.length (ptsV T.pts) := own_far (own_far (own_far (own_far (own_far HO.out (by simp) _) (by simp) _) (by simp) _) (by simp) _) (by simp) _
  replace hOX := Joins.ownsRow_le hOX (show w.heap.size ≤ w.heap.size + 1 + 1 + 1 by omega)
  generalize (((((w1.setCell ⟨w.heap.size + 1 + 1, 0, none⟩ (.slice A' T.pts.length ca')).setCell ⟨w.heap.size + 1, 0, none⟩ (.slice A' T.pts.length ca')).setCell ⟨w.heap.size + 1, 1, none⟩ (Value.int .i64 (T.closed))).setCell ⟨w.heap.size + 1, 2, none⟩ (Value.int .i64 (T.lo))).setCell ⟨w.heap.size + 1, 3, none⟩ (Value.int .i64 (T.hi))) = X at d1 hbX hOX ⊢
  have z0 := d1.cell 0
  have z1 := d1.cell 1
  have z2 := d1.cell 2
  have z3 := d1.cell 3
  simp only [List.getElem?_toArray, List.getElem?_cons_zero, List.getElem?_cons_succ] at z0 z1 z2 z3
  refine bodyPost_ret (v := .agg #[.slice A' T.pts.length ca', (Value.int .i64 (T.closed)), (Value.int .i64 (T.lo)), (Value.int .i64 (T.hi))]) (by simp [results, Try.results16, go_sem, z0, z1, z2, z3]) rfl ⟨?_, hbX⟩
  exact ⟨A', ca', rfl, hOX⟩
set_option maxRecDepth 100000 in
set_option maxHeartbeats 1000000 in
theorem Copy_any (A : Option Addr) (ca : Nat) (T : Trk) (w : World) (ha : Pts w A T.pts) (hl : T.pts.length ≤ 1000) :
    Calls Try.prog 16 #[(Value.agg #[.slice A T.pts.length ca, (Value.int .i64 (T.closed)), (Value.int .i64 (T.lo)), (Value.int .i64 (T.hi))])] w fun e w' => (∃ A' ca', e = .returned (Value.agg #[.slice A' T.pts.length ca', (Value.int .i64 (T.closed)), (Value.int .i64 (T.lo)), (Value.int .i64 (T.hi))]) ∧ Pts w' A' T.pts) ∧ Below w.heap.size w w' := by
  rcases A with _ | ad
  · have h0 := ha.nil
    obtain ⟨pts, cl, lo, hh⟩ := T
    simp only at h0
    subst h0
    clear hl ha
    go_enter Try.func16, Try.ntmps16
    go_wp2
    refine bodyPost_ret (v := .agg #[.slice (some ⟨w.heap.size + 1 + 1 + 1, 0, none⟩) 0 0, (Value.int .i64 (cl)), (Value.int .i64 (lo)), (Value.int .i64 (hh))]) (by simp [results, Try.results16, go_sem]) rfl ⟨⟨_, _, rfl, .inl rfl⟩, ?_⟩
    (repeat (first | with_reducible exact Below.refl _ _ | with_reducible apply bl_alloc | with_reducible apply bl_drew | with_reducible apply bl_after | (with_reducible refine bl_call ?_ (by assumption))))
  · exact (Copy_own ad ca T w ha hl).mono fun e w' h => ⟨by
      obtain ⟨⟨A', ca', e1, h1⟩, _⟩ := h
      obtain ⟨_, A2, c2, e2, hP⟩ := own_parts h1
      simp only [Value.slice.injEq] at e2
      obtain ⟨rfl, _, rfl⟩ := e2
      exact ⟨A', ca', e1, hP⟩, h.2⟩
end Go.Proofs.Ytfgplmgkejeoiaa
