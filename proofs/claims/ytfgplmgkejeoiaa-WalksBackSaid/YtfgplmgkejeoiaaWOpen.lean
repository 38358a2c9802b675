/- The function open of walks answers the track with its walk, and whether it has elbows, or the error of both. -/
import Derived.Test.YtfgplmgkejeoiaaAll
import Derived.Laws.EntriesVeiled
namespace Go.Proofs.Ytfgplmgkejeoiaa
open Go.RowKit Go.Shelf
attribute [local go_sem] After.cell After.frozen Oper.semAt_some wide_fn wide_depth Fence.inRound_fn Fence.inRound_depth

def elbs (T : Trk) (m : List Pt) : List (List Nat) := allR T m m.length []
set_option maxRecDepth 100000 in
set_option maxHeartbeats 1000000 in
theorem elbows_iter (b o ca bm om cm : Nat) (T : Trk) (m : List Pt) (hT : trkB T = true) (hm : walkB m = true) :
    IterF Try.prog 72 #[(Value.agg #[.slice (some ⟨b, o, none⟩) T.pts.length ca, (Value.int .i64 (T.closed)), (Value.int .i64 (T.lo)), (Value.int .i64 (T.hi)), .slice (some ⟨bm, om, none⟩) m.length cm])] #[] ElbArg (elbs T m) (AllKeep b o bm om T m) := by
  intro l B J Jx W hB hJb hJs hJxs hY h0
  have hlen := (walkB_bd hm).1
  have hn := Lib.hid fun (V : World) (hV : Below W.heap.size W V) => all_nil (b := b) (o := o) (ca := ca) (bm := bm) (om := om) (cm := cm) hT hm hJb hJs hJxs hY (m.length - 1) 0 V (by omega) (hJs _ _ _ h0 hV) (Nat.le_trans hB hV.size) (fun j x hx => by
    rw [Nat.zero_add]
    rw [Nat.sub_add_cancel (by omega)] at hx
    exact hx)
  refine callsIn_of_wp Try.func72 rfl trivial ?_ rfl
  simp only [Try.ntmps72, List.size_toArray, List.length_cons, List.length_nil, Nat.reduceAdd, Nat.reduceSub, Array.replicate_succ, Array.replicate_zero, List.push_toArray, List.append_toArray, List.nil_append, List.cons_append]
  gi_wp2_with (gi_at_call 92; (with_reducible refine CallsIn.mono (hn.out _ (by (repeat (first | with_reducible exact Below.refl _ _ | with_reducible apply bl_alloc | with_reducible apply bl_drew | with_reducible apply bl_after | (with_reducible refine bl_call ?_ (by assumption)))))) ?_); rintro e w1 ⟨r, rfl, hp1, hp2⟩)
  go_end0
  refine ⟨⟨_, rfl⟩, ?_⟩
  cases r with
  | true =>
    refine .inl ?_
    have h1 := (hp1 rfl).1
    rw [Nat.zero_add, Nat.sub_add_cancel (by omega)] at h1
    exact h1
  | false => exact .inr (hp2 rfl)
end Go.Proofs.Ytfgplmgkejeoiaa
namespace Go.Proofs.Ytfgplmgkejeoiaa
open Go.RowKit Go.Shelf
attribute [local go_sem] After.cell After.frozen Oper.semAt_some wide_fn wide_depth Fence.inRound_fn Fence.inRound_depth

theorem bl_setc {w X : World} {b o : Nat} {v : Value} (h : Below w.heap.size w X) (hb : w.heap.size ≤ b) : Below w.heap.size w (X.setCell ⟨b, o, none⟩ v) := h.setCell (p := ⟨b, o, none⟩) hb v
theorem chk_zero {T : Trk} {m : List Pt} (hT : trkB T = true) (hm : walkB m = true) : chkT T m = 0 := by rw [chkT, if_pos hT, if_pos hm]
set_option maxRecDepth 100000 in
set_option maxHeartbeats 1000000 in
theorem open_no (A B : Option Addr) (ca cb : Nat) (T : Trk) (m : List Pt) (w : World) (ha : Pts w A T.pts) (hla : T.pts.length ≤ 1000000) (hb : Pts w B m) (hlb : m.length ≤ 1000000) (hne : chkT T m ≠ 0) :
    Calls Try.prog 71 #[(Value.agg #[.slice A T.pts.length ca, (Value.int .i64 (T.closed)), (Value.int .i64 (T.lo)), (Value.int .i64 (T.hi))]), .slice B m.length cb] w fun e w' => e = .returned (.tuple #[(Value.agg #[.slice A T.pts.length ca, (Value.int .i64 (T.closed)), (Value.int .i64 (T.lo)), (Value.int .i64 (T.hi)), .slice B m.length cb]), (Value.int .i64 (chkT T m))]) ∧ Below w.heap.size w w' := by
  have hc := Lib.hid fun (W : World) (h : Below w.heap.size w W) => wCheck_any A B ca cb T m W (ha.below h) hla (hb.below h) hlb
  have h0 : (chkT T m != 0) = true := by rw [bne_iff_ne]; exact hne
  have h1 : (chkT T m == 0) = false := by rw [beq_eq_false_iff_ne]; exact hne
  clear hne ha hb
  have c4 : Blk ((((w.alloc (.cells #[.slice A T.pts.length ca, (Value.int .i64 (T.closed)), (Value.int .i64 (T.lo)), (Value.int .i64 (T.hi))] 36)).alloc (.cells #[.slice none 0 0, (Value.int .i64 (0)), (Value.int .i64 (0)), (Value.int .i64 (0)), .slice none 0 0] 72)).alloc (.cells #[(Value.int .i64 (0))] 27)).alloc (.cells #[.slice A T.pts.length ca, (Value.int .i64 (T.closed)), (Value.int .i64 (T.lo)), (Value.int .i64 (T.hi)), .slice B m.length cb] 72)) (w.heap.size + 1) 72 #[.slice none 0 0, (Value.int .i64 (0)), (Value.int .i64 (0)), (Value.int .i64 (0)), .slice none 0 0] := by
    have h := ((Blk.new (w.alloc (.cells #[.slice A T.pts.length ca, (Value.int .i64 (T.closed)), (Value.int .i64 (T.lo)), (Value.int .i64 (T.hi))] 36)) 72 #[.slice none 0 0, (Value.int .i64 (0)), (Value.int .i64 (0)), (Value.int .i64 (0)), .slice none 0 0]).alloc (.cells #[(Value.int .i64 (0))] 27)).alloc (.cells #[.slice A T.pts.length ca, (Value.int .i64 (T.closed)), (Value.int .i64 (T.lo)), (Value.int .i64 (T.hi)), .slice B m.length cb] 72)
    simpa using h
  have c5 : Blk ((((w.alloc (.cells #[.slice A T.pts.length ca, (Value.int .i64 (T.closed)), (Value.int .i64 (T.lo)), (Value.int .i64 (T.hi))] 36)).alloc (.cells #[.slice none 0 0, (Value.int .i64 (0)), (Value.int .i64 (0)), (Value.int .i64 (0)), .slice none 0 0] 72)).alloc (.cells #[(Value.int .i64 (0))] 27)).alloc (.cells #[.slice A T.pts.length ca, (Value.int .i64 (T.closed)), (Value.int .i64 (T.lo)), (Value.int .i64 (T.hi)), .slice B m.length cb] 72)) (w.heap.size + 1 + 1) 27 #[(Value.int .i64 (0))] := by
    have h := (Blk.new ((w.alloc (.cells #[.slice A T.pts.length ca, (Value.int .i64 (T.closed)), (Value.int .i64 (T.lo)), (Value.int .i64 (T.hi))] 36)).alloc (.cells #[.slice none 0 0, (Value.int .i64 (0)), (Value.int .i64 (0)), (Value.int .i64 (0)), .slice none 0 0] 72)) 27 #[(Value.int .i64 (0))]).alloc (.cells #[.slice A T.pts.length ca, (Value.int .i64 (T.closed)), (Value.int .i64 (T.lo)), (Value.int .i64 (T.hi)), .slice B m.length cb] 72)
    simpa using h
  have c6 : Blk ((((w.alloc (.cells #[.slice A T.pts.length ca, (Value.int .i64 (T.closed)), (Value.int .i64 (T.lo)), (Value.int .i64 (T.hi))] 36)).alloc (.cells #[.slice none 0 0, (Value.int .i64 (0)), (Value.int .i64 (0)), (Value.int .i64 (0)), .slice none 0 0] 72)).alloc (.cells #[(Value.int .i64 (0))] 27)).alloc (.cells #[.slice A T.pts.length ca, (Value.int .i64 (T.closed)), (Value.int .i64 (T.lo)), (Value.int .i64 (T.hi)), .slice B m.length cb] 72)) (w.heap.size + 1 + 1 + 1) 72 #[.slice A T.pts.length ca, (Value.int .i64 (T.closed)), (Value.int .i64 (T.lo)), (Value.int .i64 (T.hi)), .slice B m.length cb] := by
    have h := Blk.new (((w.alloc (.cells #[.slice A T.pts.length ca, (Value.int .i64 (T.closed)), (Value.int .i64 (T.lo)), (Value.int .i64 (T.hi))] 36)).alloc (.cells #[.slice none 0 0, (Value.int .i64 (0)), (Value.int .i64 (0)), (Value.int .i64 (0)), .slice none 0 0] 72)).alloc (.cells #[(Value.int .i64 (0))] 27)) 72 #[.slice A T.pts.length ca, (Value.int .i64 (T.closed)), (Value.int .i64 (T.lo)), (Value.int .i64 (T.hi)), .slice B m.length cb]
    simpa using h
  have hb0 : Below w.heap.size w ((((w.alloc (.cells #[.slice A T.pts.length ca, (Value.int .i64 (T.closed)), (Value.int .i64 (T.lo)), (Value.int .i64 (T.hi))] 36)).alloc (.cells #[.slice none 0 0, (Value.int .i64 (0)), (Value.int .i64 (0)), (Value.int .i64 (0)), .slice none 0 0] 72)).alloc (.cells #[(Value.int .i64 (0))] 27)).alloc (.cells #[.slice A T.pts.length ca, (Value.int .i64 (T.closed)), (Value.int .i64 (T.lo)), (Value.int .i64 (T.hi)), .slice B m.length cb] 72)) := by (repeat (first | with_reducible exact Below.refl _ _ | with_reducible apply bl_alloc | with_reducible apply bl_drew | with_reducible apply bl_after | (with_reducible refine bl_call ?_ (by assumption))))
  go_enter Try.func71, Try.ntmps71
  go_wp2_with (go_at_call 23; with_reducible refine Calls.mono (hc.out _ (by (repeat (first | with_reducible exact Below.refl _ _ | with_reducible apply bl_alloc | with_reducible apply bl_drew | with_reducible apply bl_after | (with_reducible refine bl_call ?_ (by assumption)))))) ?_; rintro e w1 ⟨rfl, hb1⟩; first | ((with_reducible apply kp_in_step (hb := hb1)); (with_reducible assumption); rintro ⟨hk, hc, hf, hzc, hzf⟩) | ((with_reducible refine kp_in_first hb1 ?_); rintro ⟨hk, hc, hf, hzc, hzf⟩))
  replace c4 := c4.below hb1
  replace c5 := c5.below hb1
  have hbV := bl_call hb0 hb1
  clear hc c6 hb0 hb1 hk hf hzc hzf
  have d4 : Blk ((((((w1.setCell ⟨w.heap.size + 1, 0, none⟩ (.slice A T.pts.length ca)).setCell ⟨w.heap.size + 1, 1, none⟩ (Value.int .i64 (T.closed))).setCell ⟨w.heap.size + 1, 2, none⟩ (Value.int .i64 (T.lo))).setCell ⟨w.heap.size + 1, 3, none⟩ (Value.int .i64 (T.hi))).setCell ⟨w.heap.size + 1, 4, none⟩ (.slice B m.length cb)).setCell ⟨w.heap.size + 1 + 1, 0, none⟩ (Value.int .i64 (chkT T m))) (w.heap.size + 1) 72 #[.slice A T.pts.length ca, (Value.int .i64 (T.closed)), (Value.int .i64 (T.lo)), (Value.int .i64 (T.hi)), .slice B m.length cb] := by
    have h := ((((((c4.set_ 0 (.slice A T.pts.length ca)).set_ 1 (Value.int .i64 (T.closed))).set_ 2 (Value.int .i64 (T.lo))).set_ 3 (Value.int .i64 (T.hi))).set_ 4 (.slice B m.length cb)).far (p := ⟨w.heap.size + 1 + 1, 0, none⟩) (by simp) (Value.int .i64 (chkT T m)))
    simpa using h
  have d5 : Blk ((((((w1.setCell ⟨w.heap.size + 1, 0, none⟩ (.slice A T.pts.length ca)).setCell ⟨w.heap.size + 1, 1, none⟩ (Value.int .i64 (T.closed))).setCell ⟨w.heap.size + 1, 2, none⟩ (Value.int .i64 (T.lo))).setCell ⟨w.heap.size + 1, 3, none⟩ (Value.int .i64 (T.hi))).setCell ⟨w.heap.size + 1, 4, none⟩ (.slice B m.length cb)).setCell ⟨w.heap.size + 1 + 1, 0, none⟩ (Value.int .i64 (chkT T m))) (w.heap.size + 1 + 1) 27 #[(Value.int .i64 (chkT T m))] := by
    have h := ((((((c5.far (p := ⟨w.heap.size + 1, 0, none⟩) (by simp) (.slice A T.pts.length ca)).far (p := ⟨w.heap.size + 1, 1, none⟩) (by simp) (Value.int .i64 (T.closed))).far (p := ⟨w.heap.size + 1, 2, none⟩) (by simp) (Value.int .i64 (T.lo))).far (p := ⟨w.heap.size + 1, 3, none⟩) (by simp) (Value.int .i64 (T.hi))).far (p := ⟨w.heap.size + 1, 4, none⟩) (by simp) (.slice B m.length cb)).set_ 0 (Value.int .i64 (chkT T m)))
    simpa using h
  have hbX : Below w.heap.size w ((((((w1.setCell ⟨w.heap.size + 1, 0, none⟩ (.slice A T.pts.length ca)).setCell ⟨w.heap.size + 1, 1, none⟩ (Value.int .i64 (T.closed))).setCell ⟨w.heap.size + 1, 2, none⟩ (Value.int .i64 (T.lo))).setCell ⟨w.heap.size + 1, 3, none⟩ (Value.int .i64 (T.hi))).setCell ⟨w.heap.size + 1, 4, none⟩ (.slice B m.length cb)).setCell ⟨w.heap.size + 1 + 1, 0, none⟩ (Value.int .i64 (chkT T m))) := (bl_setc (bl_setc (bl_setc (bl_setc (bl_setc (bl_setc hbV (by omega) (o := 0) (v := (.slice A T.pts.length ca))) (by omega) (o := 1) (v := (Value.int .i64 (T.closed)))) (by omega) (o := 2) (v := (Value.int .i64 (T.lo)))) (by omega) (o := 3) (v := (Value.int .i64 (T.hi)))) (by omega) (o := 4) (v := (.slice B m.length cb))) (by omega) (o := 0) (v := (Value.int .i64 (chkT T m))))
  clear c4 c5
  generalize ((((((w1.setCell ⟨w.heap.size + 1, 0, none⟩ (.slice A T.pts.length ca)).setCell ⟨w.heap.size + 1, 1, none⟩ (Value.int .i64 (T.closed))).setCell ⟨w.heap.size + 1, 2, none⟩ (Value.int .i64 (T.lo))).setCell ⟨w.heap.size + 1, 3, none⟩ (Value.int .i64 (T.hi))).setCell ⟨w.heap.size + 1, 4, none⟩ (.slice B m.length cb)).setCell ⟨w.heap.size + 1 + 1, 0, none⟩ (Value.int .i64 (chkT T m))) = X at d4 d5 hbX ⊢
  have z0 := d4.cell 0
  have z1 := d4.cell 1
  have z2 := d4.cell 2
  have z3 := d4.cell 3
  have z4 := d4.cell 4
  have z5 := d5.cell 0
  simp only [List.getElem?_toArray, List.getElem?_cons_zero, List.getElem?_cons_succ] at z0 z1 z2 z3 z4 z5
  refine bodyPost_ret (v := .tuple #[(Value.agg #[.slice A T.pts.length ca, (Value.int .i64 (T.closed)), (Value.int .i64 (T.lo)), (Value.int .i64 (T.hi)), .slice B m.length cb]), (Value.int .i64 (chkT T m))]) (by simp [results, Try.results71, go_sem, z0, z1, z2, z3, z4, z5]) rfl ⟨rfl, hbX⟩

def elbE (T : Trk) (m : List Pt) : Int := if elbs T m = [] then 3 else 0
set_option maxRecDepth 100000 in
set_option maxHeartbeats 4000000 in
theorem open_ok (b o ca bm om cm : Nat) (T : Trk) (m : List Pt) (w : World) (hp : PtsAt w b o T.pts) (hq : PtsAt w bm om m) (hT : trkB T = true) (hm : walkB m = true) :
    Calls Try.prog 71 #[(Value.agg #[.slice (some ⟨b, o, none⟩) T.pts.length ca, (Value.int .i64 (T.closed)), (Value.int .i64 (T.lo)), (Value.int .i64 (T.hi))]), .slice (some ⟨bm, om, none⟩) m.length cm] w fun e w' => e = .returned (.tuple #[(Value.agg #[.slice (some ⟨b, o, none⟩) T.pts.length ca, (Value.int .i64 (T.closed)), (Value.int .i64 (T.lo)), (Value.int .i64 (T.hi)), .slice (some ⟨bm, om, none⟩) m.length cm]), (Value.int .i64 (elbE T m))]) ∧ Below w.heap.size w w' := by
  have hc := fun (W : World) (h : Below w.heap.size w W) => wCheck_any (some ⟨b, o, none⟩) (some ⟨bm, om, none⟩) ca cm T m W (.inr ⟨b, o, rfl, hp.below h⟩) (by have := (trkB_bd hT).1; omega) (.inr ⟨bm, om, rfl, hq.below h⟩) (by have := walkB_bd hm; omega)
  rw [chk_zero hT hm] at hc
  replace hc := Lib.hid hc
  have c4 : Blk ((((w.alloc (.cells #[.slice (some ⟨b, o, none⟩) T.pts.length ca, (Value.int .i64 (T.closed)), (Value.int .i64 (T.lo)), (Value.int .i64 (T.hi))] 36)).alloc (.cells #[.slice none 0 0, (Value.int .i64 (0)), (Value.int .i64 (0)), (Value.int .i64 (0)), .slice none 0 0] 72)).alloc (.cells #[(Value.int .i64 (0))] 27)).alloc (.cells #[.slice (some ⟨b, o, none⟩) T.pts.length ca, (Value.int .i64 (T.closed)), (Value.int .i64 (T.lo)), (Value.int .i64 (T.hi)), .slice (some ⟨bm, om, none⟩) m.length cm] 72)) (w.heap.size + 1) 72 #[.slice none 0 0, (Value.int .i64 (0)), (Value.int .i64 (0)), (Value.int .i64 (0)), .slice none 0 0] := by
    have h := ((Blk.new (w.alloc (.cells #[.slice (some ⟨b, o, none⟩) T.pts.length ca, (Value.int .i64 (T.closed)), (Value.int .i64 (T.lo)), (Value.int .i64 (T.hi))] 36)) 72 #[.slice none 0 0, (Value.int .i64 (0)), (Value.int .i64 (0)), (Value.int .i64 (0)), .slice none 0 0]).alloc (.cells #[(Value.int .i64 (0))] 27)).alloc (.cells #[.slice (some ⟨b, o, none⟩) T.pts.length ca, (Value.int .i64 (T.closed)), (Value.int .i64 (T.lo)), (Value.int .i64 (T.hi)), .slice (some ⟨bm, om, none⟩) m.length cm] 72)
    simpa using h
  have c5 : Blk ((((w.alloc (.cells #[.slice (some ⟨b, o, none⟩) T.pts.length ca, (Value.int .i64 (T.closed)), (Value.int .i64 (T.lo)), (Value.int .i64 (T.hi))] 36)).alloc (.cells #[.slice none 0 0, (Value.int .i64 (0)), (Value.int .i64 (0)), (Value.int .i64 (0)), .slice none 0 0] 72)).alloc (.cells #[(Value.int .i64 (0))] 27)).alloc (.cells #[.slice (some ⟨b, o, none⟩) T.pts.length ca, (Value.int .i64 (T.closed)), (Value.int .i64 (T.lo)), (Value.int .i64 (T.hi)), .slice (some ⟨bm, om, none⟩) m.length cm] 72)) (w.heap.size + 1 + 1) 27 #[(Value.int .i64 (0))] := by
    have h := (Blk.new ((w.alloc (.cells #[.slice (some ⟨b, o, none⟩) T.pts.length ca, (Value.int .i64 (T.closed)), (Value.int .i64 (T.lo)), (Value.int .i64 (T.hi))] 36)).alloc (.cells #[.slice none 0 0, (Value.int .i64 (0)), (Value.int .i64 (0)), (Value.int .i64 (0)), .slice none 0 0] 72)) 27 #[(Value.int .i64 (0))]).alloc (.cells #[.slice (some ⟨b, o, none⟩) T.pts.length ca, (Value.int .i64 (T.closed)), (Value.int .i64 (T.lo)), (Value.int .i64 (T.hi)), .slice (some ⟨bm, om, none⟩) m.length cm] 72)
    simpa using h
  have c6 : Blk ((((w.alloc (.cells #[.slice (some ⟨b, o, none⟩) T.pts.length ca, (Value.int .i64 (T.closed)), (Value.int .i64 (T.lo)), (Value.int .i64 (T.hi))] 36)).alloc (.cells #[.slice none 0 0, (Value.int .i64 (0)), (Value.int .i64 (0)), (Value.int .i64 (0)), .slice none 0 0] 72)).alloc (.cells #[(Value.int .i64 (0))] 27)).alloc (.cells #[.slice (some ⟨b, o, none⟩) T.pts.length ca, (Value.int .i64 (T.closed)), (Value.int .i64 (T.lo)), (Value.int .i64 (T.hi)), .slice (some ⟨bm, om, none⟩) m.length cm] 72)) (w.heap.size + 1 + 1 + 1) 72 #[.slice (some ⟨b, o, none⟩) T.pts.length ca, (Value.int .i64 (T.closed)), (Value.int .i64 (T.lo)), (Value.int .i64 (T.hi)), .slice (some ⟨bm, om, none⟩) m.length cm] := by
    have h := Blk.new (((w.alloc (.cells #[.slice (some ⟨b, o, none⟩) T.pts.length ca, (Value.int .i64 (T.closed)), (Value.int .i64 (T.lo)), (Value.int .i64 (T.hi))] 36)).alloc (.cells #[.slice none 0 0, (Value.int .i64 (0)), (Value.int .i64 (0)), (Value.int .i64 (0)), .slice none 0 0] 72)).alloc (.cells #[(Value.int .i64 (0))] 27)) 72 #[.slice (some ⟨b, o, none⟩) T.pts.length ca, (Value.int .i64 (T.closed)), (Value.int .i64 (T.lo)), (Value.int .i64 (T.hi)), .slice (some ⟨bm, om, none⟩) m.length cm]
    simpa using h
  have hb0 : Below w.heap.size w ((((w.alloc (.cells #[.slice (some ⟨b, o, none⟩) T.pts.length ca, (Value.int .i64 (T.closed)), (Value.int .i64 (T.lo)), (Value.int .i64 (T.hi))] 36)).alloc (.cells #[.slice none 0 0, (Value.int .i64 (0)), (Value.int .i64 (0)), (Value.int .i64 (0)), .slice none 0 0] 72)).alloc (.cells #[(Value.int .i64 (0))] 27)).alloc (.cells #[.slice (some ⟨b, o, none⟩) T.pts.length ca, (Value.int .i64 (T.closed)), (Value.int .i64 (T.lo)), (Value.int .i64 (T.hi)), .slice (some ⟨bm, om, none⟩) m.length cm] 72)) := by (repeat (first | with_reducible exact Below.refl _ _ | with_reducible apply bl_alloc | with_reducible apply bl_drew | with_reducible apply bl_after | (with_reducible refine bl_call ?_ (by assumption))))
  refine (callsIn_wide (n := 0)).1 ?_; refine callsIn_of_wp_marks Try.func71 rfl trivial ?_ rfl; simp only [Try.ntmps71, List.size_toArray, List.length_cons, List.length_nil, Nat.reduceAdd, Nat.reduceSub, Array.replicate_succ, Array.replicate_zero, List.push_toArray, List.append_toArray, List.nil_append, List.cons_append]
  gi_wp2_with (gi_at_call 23; (first | with_reducible refine CallsIn.mono (callsIn_wide.2 (hc.out _ (by (repeat (first | with_reducible exact Below.refl _ _ | with_reducible apply bl_alloc | with_reducible apply bl_drew | with_reducible apply bl_after | (with_reducible refine bl_call ?_ (by assumption))))))) ?_ | with_reducible refine CallsIn.mono (callsIn_rnd (hc.out _ (by (repeat (first | with_reducible exact Below.refl _ _ | with_reducible apply bl_alloc | with_reducible apply bl_drew | with_reducible apply bl_after | (with_reducible refine bl_call ?_ (by assumption))))))) ?_); rintro e w1 ⟨rfl, hb1⟩; first | ((with_reducible apply kp_in_step (hb := hb1)); (with_reducible assumption); rintro ⟨hk, hc, hf, hzc, hzf⟩) | ((with_reducible refine kp_in_first hb1 ?_); rintro ⟨hk, hc, hf, hzc, hzf⟩))
  replace c4 := c4.below hb1
  replace c5 := c5.below hb1
  replace c6 := c6.below hb1
  have hbV := bl_call hb0 hb1
  clear hc hb0 hb1 hk hf hzc hzf
  generalize w1 = W1 at c4 c5 c6 hbV ⊢
  refine range_f (gf := 72) (pre := #[(Value.agg #[.slice (some ⟨b, o, none⟩) T.pts.length ca, (Value.int .i64 (T.closed)), (Value.int .i64 (T.lo)), (Value.int .i64 (T.hi)), .slice (some ⟨bm, om, none⟩) m.length cm])]) (lb := #[]) rfl (enters_of Try.func72 (by kernel_rfl) rfl) (elbows_iter b o ca bm om cm T m hT hm) (fun x args W h => by obtain ⟨A, ca, rfl, _⟩ := h; rfl)
    (fun k W => k = 0 ∧ Blk W (w.heap.size + 1) 72 #[.slice none 0 0, (Value.int .i64 (0)), (Value.int .i64 (0)), (Value.int .i64 (0)), .slice none 0 0] ∧ Blk W (w.heap.size + 1 + 1) 27 #[(Value.int .i64 (0))] ∧ Blk W (w.heap.size + 1 + 1 + 1) 72 #[.slice (some ⟨b, o, none⟩) T.pts.length ca, (Value.int .i64 (T.closed)), (Value.int .i64 (T.lo)), (Value.int .i64 (T.hi)), .slice (some ⟨bm, om, none⟩) m.length cm] ∧ Below w.heap.size w W)
    (fun c W => c = .ret ∧ elbs T m ≠ [] ∧ Blk W (w.heap.size + 1) 72 #[.slice (some ⟨b, o, none⟩) T.pts.length ca, (Value.int .i64 (T.closed)), (Value.int .i64 (T.lo)), (Value.int .i64 (T.hi)), .slice (some ⟨bm, om, none⟩) m.length cm] ∧ Blk W (w.heap.size + 1 + 1) 27 #[(Value.int .i64 (0))] ∧ Below w.heap.size w W)
    (fun k W W' h hs => ⟨h.1, hs.blk h.2.1, hs.blk h.2.2.1, hs.blk h.2.2.2.1, hs.below h.2.2.2.2 hbV.size⟩)
    (fun c W W' h hs => ⟨h.1, h.2.1, hs.blk h.2.2.1, hs.blk h.2.2.2.1, hs.below h.2.2.2.2 hbV.size⟩)
    (fun k W h => ⟨hp.below h.2.2.2.2, hq.below h.2.2.2.2⟩)
    ⟨rfl, c4, c5, c6, hbV⟩ ?round ?done ?stop
  case round =>
    rintro lp k x args W hx ⟨A', ca', rfl, hI⟩ hle ⟨r, hr⟩ ⟨rfl, e4, e5, e6, hbk⟩
    gi_wp2
    refine ⟨KeepsFrom.refl _ _, CellsFrom.refl _ _, fun r1 r2 hr1 => ?_⟩
    have st := Step.put (o' := .loop r2) hr1 rfl hle
    replace e4 := st.blk e4
    replace e5 := st.blk e5
    replace e6 := st.blk e6
    replace hbk := st.below hbk hbV.size
    have hne : elbs T m ≠ [] := fun e => by rw [e] at hx; simp at hx
    generalize W.putObj lp (.loop r2) = W2 at e4 e5 e6 hbk ⊢
    clear st hr1 hx hr
    have l4 := e4.lt
    have l5 := e5.lt
    have l6 := e6.lt
    have u0 := e4.cell 0
    have u1 := e4.cell 1
    have u2 := e4.cell 2
    have u3 := e4.cell 3
    have u4 := e4.cell 4
    have u5 := e5.cell 0
    have fz0 := e4.frozen 0
    have fz1 := e4.frozen 1
    have fz2 := e4.frozen 2
    have fz3 := e4.frozen 3
    have fz4 := e4.frozen 4
    have fz5 := e5.frozen 0
    simp only [List.getElem?_toArray, List.getElem?_cons_zero, List.getElem?_cons_succ] at u0 u1 u2 u3 u4 u5
    have y0 := e6.cell 0
    have y1 := e6.cell 1
    have y2 := e6.cell 2
    have y3 := e6.cell 3
    have y4 := e6.cell 4
    simp only [List.getElem?_toArray, List.getElem?_cons_zero, List.getElem?_cons_succ] at y0 y1 y2 y3 y4
    gi_wp2
    have d4 : Blk ((((((W2.setCell ⟨w.heap.size + 1, 0, none⟩ (.slice (some ⟨b, o, none⟩) T.pts.length ca)).setCell ⟨w.heap.size + 1, 1, none⟩ (Value.int .i64 (T.closed))).setCell ⟨w.heap.size + 1, 2, none⟩ (Value.int .i64 (T.lo))).setCell ⟨w.heap.size + 1, 3, none⟩ (Value.int .i64 (T.hi))).setCell ⟨w.heap.size + 1, 4, none⟩ (.slice (some ⟨bm, om, none⟩) m.length cm)).setCell ⟨w.heap.size + 1 + 1, 0, none⟩ (Value.int .i64 (0))) (w.heap.size + 1) 72 #[.slice (some ⟨b, o, none⟩) T.pts.length ca, (Value.int .i64 (T.closed)), (Value.int .i64 (T.lo)), (Value.int .i64 (T.hi)), .slice (some ⟨bm, om, none⟩) m.length cm] := by
      have h := ((((((e4.set_ 0 (.slice (some ⟨b, o, none⟩) T.pts.length ca)).set_ 1 (Value.int .i64 (T.closed))).set_ 2 (Value.int .i64 (T.lo))).set_ 3 (Value.int .i64 (T.hi))).set_ 4 (.slice (some ⟨bm, om, none⟩) m.length cm)).far (p := ⟨w.heap.size + 1 + 1, 0, none⟩) (by simp) (Value.int .i64 (0)))
      simpa using h
    have d5 : Blk ((((((W2.setCell ⟨w.heap.size + 1, 0, none⟩ (.slice (some ⟨b, o, none⟩) T.pts.length ca)).setCell ⟨w.heap.size + 1, 1, none⟩ (Value.int .i64 (T.closed))).setCell ⟨w.heap.size + 1, 2, none⟩ (Value.int .i64 (T.lo))).setCell ⟨w.heap.size + 1, 3, none⟩ (Value.int .i64 (T.hi))).setCell ⟨w.heap.size + 1, 4, none⟩ (.slice (some ⟨bm, om, none⟩) m.length cm)).setCell ⟨w.heap.size + 1 + 1, 0, none⟩ (Value.int .i64 (0))) (w.heap.size + 1 + 1) 27 #[(Value.int .i64 (0))] := by
      have h := ((((((e5.far (p := ⟨w.heap.size + 1, 0, none⟩) (by simp) (.slice (some ⟨b, o, none⟩) T.pts.length ca)).far (p := ⟨w.heap.size + 1, 1, none⟩) (by simp) (Value.int .i64 (T.closed))).far (p := ⟨w.heap.size + 1, 2, none⟩) (by simp) (Value.int .i64 (T.lo))).far (p := ⟨w.heap.size + 1, 3, none⟩) (by simp) (Value.int .i64 (T.hi))).far (p := ⟨w.heap.size + 1, 4, none⟩) (by simp) (.slice (some ⟨bm, om, none⟩) m.length cm)).set_ 0 (Value.int .i64 (0)))
      simpa using h
    have hbX : Below w.heap.size w ((((((W2.setCell ⟨w.heap.size + 1, 0, none⟩ (.slice (some ⟨b, o, none⟩) T.pts.length ca)).setCell ⟨w.heap.size + 1, 1, none⟩ (Value.int .i64 (T.closed))).setCell ⟨w.heap.size + 1, 2, none⟩ (Value.int .i64 (T.lo))).setCell ⟨w.heap.size + 1, 3, none⟩ (Value.int .i64 (T.hi))).setCell ⟨w.heap.size + 1, 4, none⟩ (.slice (some ⟨bm, om, none⟩) m.length cm)).setCell ⟨w.heap.size + 1 + 1, 0, none⟩ (Value.int .i64 (0))) := (bl_setc (bl_setc (bl_setc (bl_setc (bl_setc (bl_setc hbk (by omega) (o := 0) (v := (.slice (some ⟨b, o, none⟩) T.pts.length ca))) (by omega) (o := 1) (v := (Value.int .i64 (T.closed)))) (by omega) (o := 2) (v := (Value.int .i64 (T.lo)))) (by omega) (o := 3) (v := (Value.int .i64 (T.hi)))) (by omega) (o := 4) (v := (.slice (some ⟨bm, om, none⟩) m.length cm))) (by omega) (o := 0) (v := (Value.int .i64 (0))))
    exact ⟨by (repeat (first | with_reducible exact KeepsFrom.refl _ _ | with_reducible apply kf_alloc | with_reducible apply kf_set | with_reducible apply kf_drew | with_reducible apply kf_after | (with_reducible refine kf_call ?_ (by assumption)))), rfl, hne, d4, d5, hbX⟩
  case done =>
    rintro D W hD ⟨h0, e4, e5, e6, hbk⟩ hK
    have hE : elbE T m = 3 := if_pos (List.eq_nil_of_length_eq_zero h0)
    have hD2 : w.heap.size + 1 + 1 + 1 < D := by have := c6.lt; omega
    have l4 := e4.lt
    have l5 := e5.lt
    have l6 := e6.lt
    have u0 := e4.cell 0
    have u1 := e4.cell 1
    have u2 := e4.cell 2
    have u3 := e4.cell 3
    have u4 := e4.cell 4
    have u5 := e5.cell 0
    have fz0 := e4.frozen 0
    have fz1 := e4.frozen 1
    have fz2 := e4.frozen 2
    have fz3 := e4.frozen 3
    have fz4 := e4.frozen 4
    have fz5 := e5.frozen 0
    simp only [List.getElem?_toArray, List.getElem?_cons_zero, List.getElem?_cons_succ] at u0 u1 u2 u3 u4 u5
    have y0 := e6.cell 0
    have y1 := e6.cell 1
    have y2 := e6.cell 2
    have y3 := e6.cell 3
    have y4 := e6.cell 4
    simp only [List.getElem?_toArray, List.getElem?_cons_zero, List.getElem?_cons_succ] at y0 y1 y2 y3 y4
    gi_wp2
    have hKX : ((((((W.setCell ⟨w.heap.size + 1, 0, none⟩ (.slice (some ⟨b, o, none⟩) T.pts.length ca)).setCell ⟨w.heap.size + 1, 1, none⟩ (Value.int .i64 (T.closed))).setCell ⟨w.heap.size + 1, 2, none⟩ (Value.int .i64 (T.lo))).setCell ⟨w.heap.size + 1, 3, none⟩ (Value.int .i64 (T.hi))).setCell ⟨w.heap.size + 1, 4, none⟩ (.slice (some ⟨bm, om, none⟩) m.length cm)).setCell ⟨w.heap.size + 1 + 1, 0, none⟩ (Value.int .i64 (3))).heap[D]? = some (.deferred (some [])) := ((KeepsOthers.setCell _ _ _).same _ _ ((KeepsOthers.setCell _ _ _).same _ _ ((KeepsOthers.setCell _ _ _).same _ _ ((KeepsOthers.setCell _ _ _).same _ _ ((KeepsOthers.setCell _ _ _).same _ _ ((KeepsOthers.setCell _ _ _).same _ _ hK rfl) rfl) rfl) rfl) rfl) rfl)
    have d4 : Blk ((((((W.setCell ⟨w.heap.size + 1, 0, none⟩ (.slice (some ⟨b, o, none⟩) T.pts.length ca)).setCell ⟨w.heap.size + 1, 1, none⟩ (Value.int .i64 (T.closed))).setCell ⟨w.heap.size + 1, 2, none⟩ (Value.int .i64 (T.lo))).setCell ⟨w.heap.size + 1, 3, none⟩ (Value.int .i64 (T.hi))).setCell ⟨w.heap.size + 1, 4, none⟩ (.slice (some ⟨bm, om, none⟩) m.length cm)).setCell ⟨w.heap.size + 1 + 1, 0, none⟩ (Value.int .i64 (3))) (w.heap.size + 1) 72 #[.slice (some ⟨b, o, none⟩) T.pts.length ca, (Value.int .i64 (T.closed)), (Value.int .i64 (T.lo)), (Value.int .i64 (T.hi)), .slice (some ⟨bm, om, none⟩) m.length cm] := by
      have h := ((((((e4.set_ 0 (.slice (some ⟨b, o, none⟩) T.pts.length ca)).set_ 1 (Value.int .i64 (T.closed))).set_ 2 (Value.int .i64 (T.lo))).set_ 3 (Value.int .i64 (T.hi))).set_ 4 (.slice (some ⟨bm, om, none⟩) m.length cm)).far (p := ⟨w.heap.size + 1 + 1, 0, none⟩) (by simp) (Value.int .i64 (3)))
      simpa using h
    have d5 : Blk ((((((W.setCell ⟨w.heap.size + 1, 0, none⟩ (.slice (some ⟨b, o, none⟩) T.pts.length ca)).setCell ⟨w.heap.size + 1, 1, none⟩ (Value.int .i64 (T.closed))).setCell ⟨w.heap.size + 1, 2, none⟩ (Value.int .i64 (T.lo))).setCell ⟨w.heap.size + 1, 3, none⟩ (Value.int .i64 (T.hi))).setCell ⟨w.heap.size + 1, 4, none⟩ (.slice (some ⟨bm, om, none⟩) m.length cm)).setCell ⟨w.heap.size + 1 + 1, 0, none⟩ (Value.int .i64 (3))) (w.heap.size + 1 + 1) 27 #[(Value.int .i64 (3))] := by
      have h := ((((((e5.far (p := ⟨w.heap.size + 1, 0, none⟩) (by simp) (.slice (some ⟨b, o, none⟩) T.pts.length ca)).far (p := ⟨w.heap.size + 1, 1, none⟩) (by simp) (Value.int .i64 (T.closed))).far (p := ⟨w.heap.size + 1, 2, none⟩) (by simp) (Value.int .i64 (T.lo))).far (p := ⟨w.heap.size + 1, 3, none⟩) (by simp) (Value.int .i64 (T.hi))).far (p := ⟨w.heap.size + 1, 4, none⟩) (by simp) (.slice (some ⟨bm, om, none⟩) m.length cm)).set_ 0 (Value.int .i64 (3)))
      simpa using h
    have hbX : Below w.heap.size w ((((((W.setCell ⟨w.heap.size + 1, 0, none⟩ (.slice (some ⟨b, o, none⟩) T.pts.length ca)).setCell ⟨w.heap.size + 1, 1, none⟩ (Value.int .i64 (T.closed))).setCell ⟨w.heap.size + 1, 2, none⟩ (Value.int .i64 (T.lo))).setCell ⟨w.heap.size + 1, 3, none⟩ (Value.int .i64 (T.hi))).setCell ⟨w.heap.size + 1, 4, none⟩ (.slice (some ⟨bm, om, none⟩) m.length cm)).setCell ⟨w.heap.size + 1 + 1, 0, none⟩ (Value.int .i64 (3))) := (bl_setc (bl_setc (bl_setc (bl_setc (bl_setc (bl_setc hbk (by omega) (o := 0) (v := (.slice (some ⟨b, o, none⟩) T.pts.length ca))) (by omega) (o := 1) (v := (Value.int .i64 (T.closed)))) (by omega) (o := 2) (v := (Value.int .i64 (T.lo)))) (by omega) (o := 3) (v := (Value.int .i64 (T.hi)))) (by omega) (o := 4) (v := (.slice (some ⟨bm, om, none⟩) m.length cm))) (by omega) (o := 0) (v := (Value.int .i64 (3))))
    clear e4 e5
    generalize ((((((W.setCell ⟨w.heap.size + 1, 0, none⟩ (.slice (some ⟨b, o, none⟩) T.pts.length ca)).setCell ⟨w.heap.size + 1, 1, none⟩ (Value.int .i64 (T.closed))).setCell ⟨w.heap.size + 1, 2, none⟩ (Value.int .i64 (T.lo))).setCell ⟨w.heap.size + 1, 3, none⟩ (Value.int .i64 (T.hi))).setCell ⟨w.heap.size + 1, 4, none⟩ (.slice (some ⟨bm, om, none⟩) m.length cm)).setCell ⟨w.heap.size + 1 + 1, 0, none⟩ (Value.int .i64 (3))) = X at d4 d5 hbX hKX ⊢
    have st := Step.put (B := W1.heap.size) (o' := .deferred none) hKX rfl hD
    have f4 := st.blk d4
    have f5 := st.blk d5
    have hbY := bl_put (o' := .deferred none) hbX hKX (by have := hbV.size; omega)
    have z0 := f4.cell 0
    have z1 := f4.cell 1
    have z2 := f4.cell 2
    have z3 := f4.cell 3
    have z4 := f4.cell 4
    have z5 := f5.cell 0
    simp only [List.getElem?_toArray, List.getElem?_cons_zero, List.getElem?_cons_succ] at z0 z1 z2 z3 z4 z5
    refine ⟨by simp, .inl ⟨_, _, rfl, run_takeDeferred hKX, ?_⟩⟩
    exact ⟨.tuple #[(Value.agg #[.slice (some ⟨b, o, none⟩) T.pts.length ca, (Value.int .i64 (T.closed)), (Value.int .i64 (T.lo)), (Value.int .i64 (T.hi)), .slice (some ⟨bm, om, none⟩) m.length cm]), (Value.int .i64 (elbE T m))], by simp [results, Try.results71, go_sem, z0, z1, z2, z3, z4, z5, hE], rfl, hbY⟩
  case stop =>
    rintro D c W hD ⟨rfl, hne, d4, d5, hbX⟩ hK
    have hE : elbE T m = 0 := if_neg hne
    gi_wp2
    have st := Step.put (B := W1.heap.size) (o' := .deferred none) hK rfl hD
    have f4 := st.blk d4
    have f5 := st.blk d5
    have hbY := bl_put (o' := .deferred none) hbX hK (by have := hbV.size; omega)
    have z0 := f4.cell 0
    have z1 := f4.cell 1
    have z2 := f4.cell 2
    have z3 := f4.cell 3
    have z4 := f4.cell 4
    have z5 := f5.cell 0
    simp only [List.getElem?_toArray, List.getElem?_cons_zero, List.getElem?_cons_succ] at z0 z1 z2 z3 z4 z5
    refine ⟨by simp, .inl ⟨_, _, rfl, run_takeDeferred hK, ?_⟩⟩
    exact ⟨.tuple #[(Value.agg #[.slice (some ⟨b, o, none⟩) T.pts.length ca, (Value.int .i64 (T.closed)), (Value.int .i64 (T.lo)), (Value.int .i64 (T.hi)), .slice (some ⟨bm, om, none⟩) m.length cm]), (Value.int .i64 (elbE T m))], by simp [results, Try.results71, go_sem, z0, z1, z2, z3, z4, z5, hE], rfl, hbY⟩
end Go.Proofs.Ytfgplmgkejeoiaa
