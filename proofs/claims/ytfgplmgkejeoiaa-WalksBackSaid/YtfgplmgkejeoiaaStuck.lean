/- The functions Stuck of walks and of its reference. -/
import Derived.Test.YtfgplmgkejeoiaaLeast
import Derived.Test.YtfgplmgkejeoiaaRch
namespace Go.Proofs.Ytfgplmgkejeoiaa
open Go.RowKit
attribute [local go_sem] After.cell After.frozen
attribute [local go_sem high] eql_nil_some eql_nil_none

/-- The points, of the first k, that the arm reaches from no place. -/
def stkTo (T : Trk) (m : List Pt) (k : Nat) : List Int := ((List.range k).filter fun i => (plc T (pat m i)).isEmpty).map fun i : Nat => (i : Int)
theorem stk_yes {T : Trk} {m : List Pt} {k : Nat} (h : plc T (pat m k) = []) : stkTo T m (k + 1) = stkTo T m k ++ [(k : Int)] := by
  simp [stkTo, List.range_succ, List.filter_append, h]
theorem stk_no {T : Trk} {m : List Pt} {k : Nat} (h : plc T (pat m k) ≠ []) : stkTo T m (k + 1) = stkTo T m k := by
  have h2 : (plc T (pat m k)).isEmpty = false := by simpa using h
  simp [stkTo, List.range_succ, List.filter_append, h2]
theorem stk_len (T : Trk) (m : List Pt) (k : Nat) : (stkTo T m k).length ≤ k := by
  have := List.length_filter_le (fun i => (plc T (pat m i)).isEmpty) (List.range k)
  simp only [stkTo, List.length_map]
  simpa using this
def stkV (T : Trk) (m : List Pt) : List Int := if chkT T m = 0 then stkTo T m m.length else []

set_option maxRecDepth 100000 in
set_option maxHeartbeats 2000000 in
theorem Stuck_ok (b o ca bm om cm : Nat) (T : Trk) (m : List Pt) (w : World) (hp : PtsAt w b o T.pts) (hq : PtsAt w bm om m) (hT : trkB T = true) (hm : walkB m = true) :
    Calls Try.prog 28 #[(Value.agg #[.slice (some ⟨b, o, none⟩) T.pts.length ca, (Value.int .i64 (T.closed)), (Value.int .i64 (T.lo)), (Value.int .i64 (T.hi))]), .slice (some ⟨bm, om, none⟩) m.length cm] w fun e w' => (∃ A' ca', e = .returned (.tuple #[.slice A' (stkTo T m m.length).length ca', (Value.int .i64 (0))]) ∧ IntsN w.heap.size w' A' ca' (stkTo T m m.length)) ∧ Below w.heap.size w w' := by
  obtain ⟨i0, hi, hz0, hz1, hz2⟩ := info_parts infoInt
  have htb := (trkB_bd hT).1
  have hmb := walkB_bd hm
  have hm8 : m.length ≤ 8 := by omega
  have ht8 : T.pts.length ≤ 8 := by omega
  have h1 := fun (W : World) (h : Below w.heap.size w W) => wCheck_any (some ⟨b, o, none⟩) (some ⟨bm, om, none⟩) ca cm T m W (.inr ⟨b, o, rfl, hp.below h⟩) (by omega) (.inr ⟨bm, om, rfl, hq.below h⟩) (by omega)
  rw [chk_zero hT hm] at h1
  replace h1 := Lib.hid h1
  have HR := Lib.hid fun (W : World) (h : Below w.heap.size w W) (k : Nat) (hk : k < m.length) => places_any b o ca T (.slice none 0 0) (pat m k) W (hp.below h) (by omega) htb.2 (hmb.2 k hk)
  clear htb hmb hp hT hm
  have c0 : Blk (w.alloc (.cells #[.slice (some ⟨b, o, none⟩) T.pts.length ca, (Value.int .i64 (T.closed)), (Value.int .i64 (T.lo)), (Value.int .i64 (T.hi))] 36)) w.heap.size 36 #[.slice (some ⟨b, o, none⟩) T.pts.length ca, (Value.int .i64 (T.closed)), (Value.int .i64 (T.lo)), (Value.int .i64 (T.hi))] := Blk.new _ _ _
  go_enter Try.func28, Try.ntmps28
  go_wp2_with (go_at_call 23; with_reducible refine Calls.mono (h1.out _ (by (repeat (first | with_reducible exact Below.refl _ _ | with_reducible apply bl_alloc | with_reducible apply bl_drew | with_reducible apply bl_after | (with_reducible refine bl_call ?_ (by assumption)))))) ?_; rintro e w1 ⟨rfl, hb1⟩; first | ((with_reducible apply kp_in_step (hb := hb1)); (with_reducible assumption); rintro ⟨hk, hc, hf, hzc, hzf⟩) | ((with_reducible refine kp_in_first hb1 ?_); rintro ⟨hk, hc, hf, hzc, hzf⟩))
  have c2 := c0.below hb1
  have hbW : Below w.heap.size w w1 := by (repeat (first | with_reducible exact Below.refl _ _ | with_reducible apply bl_alloc | with_reducible apply bl_drew | with_reducible apply bl_after | (with_reducible refine bl_call ?_ (by assumption))))
  clear h1 c0 hb1 hk hc hf hzc hzf
  generalize w1 = W at c2 hbW ⊢
  have hbW2 := hbW.size
  go_loopw [7, 18] (fun v i wr => ∃ k : Nat, k ≤ m.length ∧ i = (Value.int .i64 ((k : Int))) ∧ wr.ownsRow W.heap.size 3 1 v (stkTo T m k).length (intsV (stkTo T m k)) ∧ Hid (stkTo T m k = [] → v = .slice none 0 0) ∧ Below W.heap.size W wr) (fun _ i _ => m.length - (intOf i).toNat)
  case atStart => exact ⟨0, Nat.zero_le _, rfl, (show W.ownsRow W.heap.size 3 1 (.slice none 0 0) 0 [] from World.ownsRow_nil _ _ _ _), Lib.hid fun _ => rfl, by (repeat (first | with_reducible exact Below.refl _ _ | with_reducible apply bl_alloc | with_reducible apply bl_drew | with_reducible apply bl_after | (with_reducible refine bl_call ?_ (by assumption))))⟩
  case round =>
    obtain ⟨k, kn, rfl, hown, hnil, hbw⟩ := hrel
    have e2 := c2.below hbw
    have l2 := e2.lt
    have y0 := e2.cell 0
    have y1 := e2.cell 1
    have y2 := e2.cell 2
    have y3 := e2.cell 3
    simp only [List.getElem?_toArray, List.getElem?_cons_zero, List.getElem?_cons_succ] at y0 y1 y2 y3
    have nn2 : w.heap.size ≠ wr.heap.size := by omega
    by_cases hlt : k < m.length
    · have hbwr : Below w.heap.size w wr := hbW.trans (hbw.mono hbW2)
      have pm := hq.below hbwr
      have lm := pm.lt
      have x1 := pm.xp hlt
      have x2 := pm.yp hlt
      have nn3 : bm ≠ wr.heap.size := by omega
      have hr := HR.out (wr.alloc (.cells #[(Value.int .i64 ((pat m k).1)), (Value.int .i64 ((pat m k).2))] 31)) (bl_alloc hbwr) k hlt
      have hpl := stk_len T m k
      have hgm := hbw.size
      clear pm
      by_cases hv : plc T (pat m k) = []
      · have HN := Lib.hid (stk_yes hv)
        have hr0 : Hid (Calls Try.prog 63 #[.agg #[.slice (some ⟨b, o, none⟩) T.pts.length ca, (Value.int .i64 (T.closed)), (Value.int .i64 (T.lo)), (Value.int .i64 (T.hi)), .slice none 0 0], (Value.agg #[.int .i64 (pat m k).1, .int .i64 (pat m k).2])] (wr.alloc (.cells #[(Value.int .i64 ((pat m k).1)), (Value.int .i64 ((pat m k).2))] 31)) fun e w' => e = .returned (.slice none 0 0) ∧ Below wr.heap.size wr w') := Lib.hid (hr.mono fun e w' ⟨⟨A', ca', e1, hN⟩, hb⟩ => by
          obtain ⟨rfl, rfl⟩ := hN.nil hv
          rw [hv] at e1
          exact ⟨e1, bl_call (bl_alloc (Below.refl _ _)) hb⟩)
        clear hv hnil hr
        have HB := Lib.hid hbw
        clear hbw
        go_wp2_with (first | ((go_at_call 63); (with_reducible refine Calls.mono hr0.out ?_); rintro e w1 ⟨rfl, hb1⟩; (have hown1 := Lib.hid (own_below hown hb1)); clear hown) | (at_builtin; refine wpList_append_lies _ rfl (.tmp 28) (.tmp 30) 37 rfl W.heap.size 3 i0 _ 1 8 undInts hi hz0 hz1 hz2 rfl (by omega) u7 _ (intsV (stkTo T m k)) rfl (hown1.out.alloc _) ⟨w1.heap.size, 0, none⟩ 1 1 (intsV [(k : Int)]) rfl rfl (World.news_of_block (cs := (intsV [(k : Int)]).toArray) (t := 3) (fr := (0, 0)) (heap_alloc_new w1 _)) (intsV_one _) (by omega) (by unfold maxLen; omega) (by omega) (by have := hb1.size; simp; omega) (w1.heap.size + 1) (by simp) ?_))
        (intro g cap w2 hown2 hgrow hat hlt2); (have hb2 : Below W.heap.size W w2 := (Below.alloc (HB.out.trans (hb1.mono hgm)) (by have := hb1.size; omega) _).grown hgrow (by have := hb1.size; simp; omega) (fun g hg => (hown1.out.lt g hg).1)); (rw [← intsV_append, ← HN.out] at hown2); (have e9 : (stkTo T m k).length + 1 = (stkTo T m (k + 1)).length := (by rw [HN.out]; simp)); (have hne : Hid (stkTo T m (k + 1) = [] → (Value.slice (some ⟨g, 0, none⟩) ((stkTo T m k).length + 1) cap) = .slice none 0 0) := Lib.hid fun h => (by rw [HN.out] at h; simp at h)); (have hown3 : w2.ownsRow W.heap.size 3 1 (.slice (some ⟨g, 0, none⟩) ((stkTo T m k).length + 1) cap) (stkTo T m (k + 1)).length (intsV (stkTo T m (k + 1))) := (by rw [← e9]; exact hown2)); (have H3 := Lib.hid hown3); (clear e9 hown2 hown3 hgrow hat hown1 HB hb1)
        go_wp2
        go_roundw
        case rel => exact ⟨k + 1, by omega, by go_num, H3.out, hne, hb2⟩
        case measure => simp [intOf]; omega
      · have HN := Lib.hid (stk_no hv)
        have hr1 : Hid (Calls Try.prog 63 #[.agg #[.slice (some ⟨b, o, none⟩) T.pts.length ca, (Value.int .i64 (T.closed)), (Value.int .i64 (T.lo)), (Value.int .i64 (T.hi)), .slice none 0 0], (Value.agg #[.int .i64 (pat m k).1, .int .i64 (pat m k).2])] (wr.alloc (.cells #[(Value.int .i64 ((pat m k).1)), (Value.int .i64 ((pat m k).2))] 31)) fun e w' => (∃ g o n ca', e = .returned (.slice (some ⟨g, o, none⟩) n ca')) ∧ Below wr.heap.size wr w') := Lib.hid (hr.mono fun e w' ⟨⟨A', ca', e1, hN⟩, hb⟩ => by
          refine ⟨?_, bl_call (bl_alloc (Below.refl _ _)) hb⟩
          rcases hN.ints with h | ⟨g, o', h, _⟩
          · exact absurd h hv
          · subst h; exact ⟨g, o', _, _, e1⟩)
        clear hv hr
        have HB := Lib.hid hbw
        have HO := Lib.hid hown
        clear hbw hown
        go_wp2_with ((go_at_call 63); (with_reducible refine Calls.mono hr1.out ?_); rintro e w1 ⟨⟨g9, o9, n9, c9, rfl⟩, hb1⟩)
        go_roundw
        case rel => exact ⟨k + 1, by omega, by go_num, by rw [HN.out]; exact own_below HO.out hb1, by rw [HN.out]; exact hnil, HB.out.trans (hb1.mono hgm)⟩
        case measure => simp [intOf]; omega
    · obtain rfl : k = m.length := by omega
      have hfin : Hid (∃ A' ca', u7 = .slice A' (stkTo T m m.length).length ca' ∧ IntsN w.heap.size wr A' ca' (stkTo T m m.length)) := Lib.hid (by obtain ⟨A', ca', e, h⟩ := intsN_own hown hnil.out; exact ⟨A', ca', e, h.mono hbW2⟩)
      clear hown hnil
      go_wp2
      go_ret2
      obtain ⟨A', ca', e1, hN⟩ := hfin.out
      exact ⟨⟨A', ca', by rw [← e1]; rfl, hN⟩, hbW.trans (hbw.mono hbW2)⟩
set_option maxRecDepth 100000 in
set_option maxHeartbeats 2000000 in
theorem r5Stuck_ok (b o ca bm om cm : Nat) (T : Trk) (m : List Pt) (w : World) (hp : PtsAt w b o T.pts) (hq : PtsAt w bm om m) (hT : trkB T = true) (hm : walkB m = true) :
    Calls Try.prog 29 #[(Value.agg #[.slice (some ⟨b, o, none⟩) T.pts.length ca, (Value.int .i64 (T.closed)), (Value.int .i64 (T.lo)), (Value.int .i64 (T.hi))]), .slice (some ⟨bm, om, none⟩) m.length cm] w fun e w' => (∃ A' ca', e = .returned (.tuple #[.slice A' (stkTo T m m.length).length ca', (Value.int .i64 (0))]) ∧ IntsN w.heap.size w' A' ca' (stkTo T m m.length)) ∧ Below w.heap.size w w' := by
  obtain ⟨i0, hi, hz0, hz1, hz2⟩ := info_parts infoInt
  have htb := (trkB_bd hT).1
  have hmb := walkB_bd hm
  have hm8 : m.length ≤ 8 := by omega
  have ht8 : T.pts.length ≤ 8 := by omega
  have h1 := fun (W : World) (h : Below w.heap.size w W) => r5Check_any (some ⟨b, o, none⟩) (some ⟨bm, om, none⟩) ca cm T m W (.inr ⟨b, o, rfl, hp.below h⟩) (by omega) (.inr ⟨bm, om, rfl, hq.below h⟩) (by omega)
  rw [chk_zero hT hm] at h1
  replace h1 := Lib.hid h1
  have HR := Lib.hid fun (W : World) (h : Below w.heap.size w W) (k : Nat) (hk : k < m.length) => r5reach_any b o ca T (pat m k) W (hp.below h) (by omega) htb.2 (hmb.2 k hk)
  clear htb hmb hp hT hm
  have c0 : Blk (w.alloc (.cells #[.slice (some ⟨b, o, none⟩) T.pts.length ca, (Value.int .i64 (T.closed)), (Value.int .i64 (T.lo)), (Value.int .i64 (T.hi))] 36)) w.heap.size 36 #[.slice (some ⟨b, o, none⟩) T.pts.length ca, (Value.int .i64 (T.closed)), (Value.int .i64 (T.lo)), (Value.int .i64 (T.hi))] := Blk.new _ _ _
  go_enter Try.func29, Try.ntmps29
  go_wp2_with (go_at_call 24; with_reducible refine Calls.mono (h1.out _ (by (repeat (first | with_reducible exact Below.refl _ _ | with_reducible apply bl_alloc | with_reducible apply bl_drew | with_reducible apply bl_after | (with_reducible refine bl_call ?_ (by assumption)))))) ?_; rintro e w1 ⟨rfl, hb1⟩; first | ((with_reducible apply kp_in_step (hb := hb1)); (with_reducible assumption); rintro ⟨hk, hc, hf, hzc, hzf⟩) | ((with_reducible refine kp_in_first hb1 ?_); rintro ⟨hk, hc, hf, hzc, hzf⟩))
  have c2 := c0.below hb1
  have hbW : Below w.heap.size w w1 := by (repeat (first | with_reducible exact Below.refl _ _ | with_reducible apply bl_alloc | with_reducible apply bl_drew | with_reducible apply bl_after | (with_reducible refine bl_call ?_ (by assumption))))
  clear h1 c0 hb1 hk hc hf hzc hzf
  generalize w1 = W at c2 hbW ⊢
  have hbW2 := hbW.size
  go_loopw [7, 8] (fun v i wr => ∃ k : Nat, k ≤ m.length ∧ i = (Value.int .i64 ((k : Int))) ∧ wr.ownsRow W.heap.size 3 1 v (stkTo T m k).length (intsV (stkTo T m k)) ∧ Hid (stkTo T m k = [] → v = .slice none 0 0) ∧ Below W.heap.size W wr) (fun _ i _ => m.length - (intOf i).toNat)
  case atStart => exact ⟨0, Nat.zero_le _, rfl, (show W.ownsRow W.heap.size 3 1 (.slice none 0 0) 0 [] from World.ownsRow_nil _ _ _ _), Lib.hid fun _ => rfl, by (repeat (first | with_reducible exact Below.refl _ _ | with_reducible apply bl_alloc | with_reducible apply bl_drew | with_reducible apply bl_after | (with_reducible refine bl_call ?_ (by assumption))))⟩
  case round =>
    obtain ⟨k, kn, rfl, hown, hnil, hbw⟩ := hrel
    have e2 := c2.below hbw
    have l2 := e2.lt
    have y0 := e2.cell 0
    have y1 := e2.cell 1
    have y2 := e2.cell 2
    have y3 := e2.cell 3
    simp only [List.getElem?_toArray, List.getElem?_cons_zero, List.getElem?_cons_succ] at y0 y1 y2 y3
    by_cases hlt : k < m.length
    · have hbwr : Below w.heap.size w wr := hbW.trans (hbw.mono hbW2)
      have pm := hq.below hbwr
      have lm := pm.lt
      have x1 := pm.xp hlt
      have x2 := pm.yp hlt
      have i2 : (k : Int) < (m.length : Int) := by omega
      have hpl := stk_len T m k
      have hgm := hbw.size
      clear pm
      by_cases hv : plc T (pat m k) = []
      · have HN := Lib.hid (stk_yes hv)
        have hr0 := Lib.hid fun (z : After wr) => (show Calls Try.prog 64 #[.agg #[.slice (some ⟨b, o, none⟩) T.pts.length ca, (Value.int .i64 (T.closed)), (Value.int .i64 (T.lo)), (Value.int .i64 (T.hi))], (Value.agg #[.int .i64 (pat m k).1, .int .i64 (pat m k).2])] z.val fun e w' => (∃ A' ca', e = .returned (.slice A' 0 ca')) ∧ Below wr.heap.size wr w' from
          (HR.out z.val (bl_after z hbwr) k hlt).mono fun e w' ⟨⟨A', ca', e1, hN⟩, hb⟩ => by
            rw [hv] at e1
            exact ⟨⟨A', ca', e1⟩, bl_call z.ok hb⟩)
        clear hv hnil
        have HB := Lib.hid hbw
        have HO := Lib.hid hown
        clear hbw hown
        go_wp2
        refine wp_region_after_tail 5 (by kernel_rfl) (by kernel_rfl) ?_; simp only [List.take_succ_cons, List.take_zero, List.drop_succ_cons, List.drop_zero]; (repeat (go_big_quiet_step ((fail)))); refine wpQuiet_nil ?_; rintro _ ⟨z, rfl⟩; (first | ((with_reducible apply kp_in_after (z := z)); (with_reducible assumption); rintro ⟨hk, hc, hf, hzc, hzf⟩) | ((with_reducible refine kp_in_after0 z ?_); rintro ⟨hk, hc, hf, hzc, hzf⟩))
        go_wp2_with (first | ((go_at_call 64); (with_reducible refine Calls.mono (hr0.out z) ?_); rintro e w1 ⟨⟨A9, c9, rfl⟩, hb1⟩; (have hown1 := Lib.hid (own_below HO.out hb1))) | (at_builtin; refine wpList_append_lies _ rfl (.tmp 29) (.tmp 31) 37 rfl W.heap.size 3 i0 _ 1 8 undInts hi hz0 hz1 hz2 rfl (by omega) u7 _ (intsV (stkTo T m k)) rfl (hown1.out.alloc _) ⟨w1.heap.size, 0, none⟩ 1 1 (intsV [(k : Int)]) rfl rfl (World.news_of_block (cs := (intsV [(k : Int)]).toArray) (t := 3) (fr := (0, 0)) (heap_alloc_new w1 _)) (intsV_one _) (by omega) (by unfold maxLen; omega) (by omega) (by have := hb1.size; simp; omega) (w1.heap.size + 1) (by simp) ?_))
        (intro g cap w2 hown2 hgrow hat hlt2); (have hb2 : Below W.heap.size W w2 := (Below.alloc (HB.out.trans (hb1.mono hgm)) (by have := hb1.size; omega) _).grown hgrow (by have := hb1.size; simp; omega) (fun g hg => (hown1.out.lt g hg).1)); (rw [← intsV_append, ← HN.out] at hown2); (have e9 : (stkTo T m k).length + 1 = (stkTo T m (k + 1)).length := (by rw [HN.out]; simp)); (have hne : Hid (stkTo T m (k + 1) = [] → (Value.slice (some ⟨g, 0, none⟩) ((stkTo T m k).length + 1) cap) = .slice none 0 0) := Lib.hid fun h => (by rw [HN.out] at h; simp at h)); (have hown3 : w2.ownsRow W.heap.size 3 1 (.slice (some ⟨g, 0, none⟩) ((stkTo T m k).length + 1) cap) (stkTo T m (k + 1)).length (intsV (stkTo T m (k + 1))) := (by rw [← e9]; exact hown2)); (have H3 := Lib.hid hown3); (clear e9 hown2 hown3 hgrow hat hown1 HB hb1)
        go_wp2
        go_roundw
        case rel => exact ⟨k + 1, by omega, by go_num, H3.out, hne, hb2⟩
        case measure => simp [intOf]; omega
      · have HN := Lib.hid (stk_no hv)
        have hnz : (((plc T (pat m k)).length : Int) == 0) = false := by rw [beq_eq_false_iff_ne]; intro h; exact hv (List.eq_nil_of_length_eq_zero (by omega))
        have hr1 := Lib.hid fun (z : After wr) => (show Calls Try.prog 64 #[.agg #[.slice (some ⟨b, o, none⟩) T.pts.length ca, (Value.int .i64 (T.closed)), (Value.int .i64 (T.lo)), (Value.int .i64 (T.hi))], (Value.agg #[.int .i64 (pat m k).1, .int .i64 (pat m k).2])] z.val fun e w' => (∃ A' ca', e = .returned (.slice A' (plc T (pat m k)).length ca')) ∧ Below wr.heap.size wr w' from
          (HR.out z.val (bl_after z hbwr) k hlt).mono fun e w' ⟨⟨A', ca', e1, hN⟩, hb⟩ => ⟨⟨A', ca', e1⟩, bl_call z.ok hb⟩)
        clear hv
        have HB := Lib.hid hbw
        have HO := Lib.hid hown
        clear hbw hown
        go_wp2
        refine wp_region_after_tail 5 (by kernel_rfl) (by kernel_rfl) ?_; simp only [List.take_succ_cons, List.take_zero, List.drop_succ_cons, List.drop_zero]; (repeat (go_big_quiet_step ((fail)))); refine wpQuiet_nil ?_; rintro _ ⟨z, rfl⟩; (first | ((with_reducible apply kp_in_after (z := z)); (with_reducible assumption); rintro ⟨hk, hc, hf, hzc, hzf⟩) | ((with_reducible refine kp_in_after0 z ?_); rintro ⟨hk, hc, hf, hzc, hzf⟩))
        go_wp2_with ((go_at_call 64); (with_reducible refine Calls.mono (hr1.out z) ?_); rintro e w1 ⟨⟨A9, c9, rfl⟩, hb1⟩)
        go_roundw
        case rel => exact ⟨k + 1, by omega, by go_num, by rw [HN.out]; exact own_below HO.out hb1, by rw [HN.out]; exact hnil, HB.out.trans (hb1.mono hgm)⟩
        case measure => simp [intOf]; omega
    · obtain rfl : k = m.length := by omega
      have hfin : Hid (∃ A' ca', u7 = .slice A' (stkTo T m m.length).length ca' ∧ IntsN w.heap.size wr A' ca' (stkTo T m m.length)) := Lib.hid (by obtain ⟨A', ca', e, h⟩ := intsN_own hown hnil.out; exact ⟨A', ca', e, h.mono hbW2⟩)
      clear hown hnil
      go_wp2
      go_ret2
      obtain ⟨A', ca', e1, hN⟩ := hfin.out
      exact ⟨⟨A', ca', by rw [← e1]; rfl, hN⟩, hbW.trans (hbw.mono hbW2)⟩
set_option maxRecDepth 100000 in
set_option maxHeartbeats 1000000 in
theorem Stuck_no (A B : Option Addr) (ca cb : Nat) (T : Trk) (m : List Pt) (w : World) (ha : Pts w A T.pts) (hla : T.pts.length ≤ 1000000) (hb : Pts w B m) (hlb : m.length ≤ 1000000) (hne : chkT T m ≠ 0) :
    Calls Try.prog 28 #[(Value.agg #[.slice A T.pts.length ca, (Value.int .i64 (T.closed)), (Value.int .i64 (T.lo)), (Value.int .i64 (T.hi))]), .slice B m.length cb] w fun e w' => e = .returned (.tuple #[.slice none 0 0, (Value.int .i64 (chkT T m))]) ∧ Below w.heap.size w w' := by
  have hc := Lib.hid fun (W : World) (h : Below w.heap.size w W) => wCheck_any A B ca cb T m W (ha.below h) hla (hb.below h) hlb
  have h0 : (chkT T m != 0) = true := by rw [bne_iff_ne]; exact hne
  clear hne ha hb
  go_enter Try.func28, Try.ntmps28
  go_wp2_with (go_at_call 23; with_reducible refine Calls.mono (hc.out _ (by (repeat (first | with_reducible exact Below.refl _ _ | with_reducible apply bl_alloc | with_reducible apply bl_drew | with_reducible apply bl_after | (with_reducible refine bl_call ?_ (by assumption)))))) ?_; rintro e w1 ⟨rfl, hb1⟩; first | ((with_reducible apply kp_in_step (hb := hb1)); (with_reducible assumption); rintro ⟨hk, hc, hf, hzc, hzf⟩) | ((with_reducible refine kp_in_first hb1 ?_); rintro ⟨hk, hc, hf, hzc, hzf⟩))
  go_ret2
  exact ⟨rfl, by (repeat (first | with_reducible exact Below.refl _ _ | with_reducible apply bl_alloc | with_reducible apply bl_drew | with_reducible apply bl_after | (with_reducible refine bl_call ?_ (by assumption))))⟩
theorem Stuck_any (A B : Option Addr) (ca cb : Nat) (T : Trk) (m : List Pt) (w : World) (ha : Pts w A T.pts) (hla : T.pts.length ≤ 1000000) (hb : Pts w B m) (hlb : m.length ≤ 1000000) :
    Calls Try.prog 28 #[(Value.agg #[.slice A T.pts.length ca, (Value.int .i64 (T.closed)), (Value.int .i64 (T.lo)), (Value.int .i64 (T.hi))]), .slice B m.length cb] w fun e w' => (∃ A' ca', e = .returned (.tuple #[.slice A' (stkV T m).length ca', (Value.int .i64 (chkT T m))]) ∧ IntsN w.heap.size w' A' ca' (stkV T m)) ∧ Below w.heap.size w w' := by
  by_cases h : chkT T m = 0
  · obtain ⟨hT, hm⟩ := chk_zero_inv h
    obtain ⟨b, o, rfl, hp⟩ := ha.at_ (k := 0) (by have := (trkB_bd hT).1; omega)
    obtain ⟨bm, om, rfl, hq⟩ := hb.at_ (k := 0) (by have := walkB_bd hm; omega)
    rw [stkV, if_pos h, h]
    exact Stuck_ok b o ca bm om cb T m w hp hq hT hm
  · rw [stkV, if_neg h]
    exact (Stuck_no A B ca cb T m w ha hla hb hlb h).mono fun e w' ⟨h1, h2⟩ => ⟨⟨none, 0, h1, intsN_nil _ _⟩, h2⟩
set_option maxRecDepth 100000 in
set_option maxHeartbeats 1000000 in
theorem r5Stuck_no (A B : Option Addr) (ca cb : Nat) (T : Trk) (m : List Pt) (w : World) (ha : Pts w A T.pts) (hla : T.pts.length ≤ 1000000) (hb : Pts w B m) (hlb : m.length ≤ 1000000) (hne : chkT T m ≠ 0) :
    Calls Try.prog 29 #[(Value.agg #[.slice A T.pts.length ca, (Value.int .i64 (T.closed)), (Value.int .i64 (T.lo)), (Value.int .i64 (T.hi))]), .slice B m.length cb] w fun e w' => e = .returned (.tuple #[.slice none 0 0, (Value.int .i64 (chkT T m))]) ∧ Below w.heap.size w w' := by
  have hc := Lib.hid fun (W : World) (h : Below w.heap.size w W) => r5Check_any A B ca cb T m W (ha.below h) hla (hb.below h) hlb
  have h0 : (chkT T m != 0) = true := by rw [bne_iff_ne]; exact hne
  clear hne ha hb
  go_enter Try.func29, Try.ntmps29
  go_wp2_with (go_at_call 24; with_reducible refine Calls.mono (hc.out _ (by (repeat (first | with_reducible exact Below.refl _ _ | with_reducible apply bl_alloc | with_reducible apply bl_drew | with_reducible apply bl_after | (with_reducible refine bl_call ?_ (by assumption)))))) ?_; rintro e w1 ⟨rfl, hb1⟩; first | ((with_reducible apply kp_in_step (hb := hb1)); (with_reducible assumption); rintro ⟨hk, hc, hf, hzc, hzf⟩) | ((with_reducible refine kp_in_first hb1 ?_); rintro ⟨hk, hc, hf, hzc, hzf⟩))
  go_ret2
  exact ⟨rfl, by (repeat (first | with_reducible exact Below.refl _ _ | with_reducible apply bl_alloc | with_reducible apply bl_drew | with_reducible apply bl_after | (with_reducible refine bl_call ?_ (by assumption))))⟩
theorem r5Stuck_any (A B : Option Addr) (ca cb : Nat) (T : Trk) (m : List Pt) (w : World) (ha : Pts w A T.pts) (hla : T.pts.length ≤ 1000000) (hb : Pts w B m) (hlb : m.length ≤ 1000000) :
    Calls Try.prog 29 #[(Value.agg #[.slice A T.pts.length ca, (Value.int .i64 (T.closed)), (Value.int .i64 (T.lo)), (Value.int .i64 (T.hi))]), .slice B m.length cb] w fun e w' => (∃ A' ca', e = .returned (.tuple #[.slice A' (stkV T m).length ca', (Value.int .i64 (chkT T m))]) ∧ IntsN w.heap.size w' A' ca' (stkV T m)) ∧ Below w.heap.size w w' := by
  by_cases h : chkT T m = 0
  · obtain ⟨hT, hm⟩ := chk_zero_inv h
    obtain ⟨b, o, rfl, hp⟩ := ha.at_ (k := 0) (by have := (trkB_bd hT).1; omega)
    obtain ⟨bm, om, rfl, hq⟩ := hb.at_ (k := 0) (by have := walkB_bd hm; omega)
    rw [stkV, if_pos h, h]
    exact r5Stuck_ok b o ca bm om cb T m w hp hq hT hm
  · rw [stkV, if_neg h]
    exact (r5Stuck_no A B ca cb T m w ha hla hb hlb h).mono fun e w' ⟨h1, h2⟩ => ⟨⟨none, 0, h1, intsN_nil _ _⟩, h2⟩
end Go.Proofs.Ytfgplmgkejeoiaa
