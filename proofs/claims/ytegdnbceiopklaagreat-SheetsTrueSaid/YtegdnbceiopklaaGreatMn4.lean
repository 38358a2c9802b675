/- The functions Many and Fewest of sheets answer the number of truths, and the least number of wrong controls. -/
import Derived.Test.YtegdnbceiopklaaGreatOp4
namespace Go.Proofs.YtegdnbceiopklaaGreat
open Go.RowKit Go.Shelf
attribute [local go_sem] After.cell After.frozen Oper.semAt_some wide_fn wide_depth Fence.inRound_fn Fence.inRound_depth

theorem prs_bd {S : Sht} (hS : ShtOk S) : (prs S).length ≤ 100000 := by
  rw [prs_len]
  have := hS.x0; have := hS.x2; have := hS.y0; have := hS.y2
  have h1 : nX S ≤ 201 := by unfold nX; omega
  have h2 : nY S ≤ 201 := by unfold nY; omega
  exact Nat.le_trans (Nat.mul_le_mul h1 h2) (by decide)
theorem trs_bd {S : Sht} (hS : ShtOk S) : (trs S).length ≤ 100000 := Nat.le_trans (List.length_filter_le _ _) (prs_bd hS)
theorem Blk.ne_type {w : World} {g g' : Nat} {t t' : TypeId} {cs cs' : Array Value} (h : Blk w g t cs) (h' : Blk w g' t' cs') (ht : t ≠ t') : g ≠ g' := by
  rintro rfl
  have h1 := h.symm.trans h'
  rw [Option.some.injEq, Obj.cells.injEq] at h1
  exact ht h1.2.1
def CtsLow (A : Option Addr) (S : Sht) (B : Nat) : Prop := ∀ a, A = some a → S.cs ≠ [] → a.block < B
theorem cts_low {A : Option Addr} {S : Sht} {w : World} (ha : Cts w A S.cs) : CtsLow A S w.heap.size := fun a e hn => by
  rcases ha with h | ⟨b, o, e2, hI⟩
  · exact absurd h hn
  · rw [e] at e2; cases e2; exact hI.lt
theorem ShKeep.set {g : Nat} {A : Option Addr} {ca : Nat} {S : Sht} {W : World} {B : Nat} (h : ShKeep g A ca S W) (hL : CtsLow A S B) {p : Addr} (hg : g ≠ p.block) (hB : B ≤ p.block) (v : Value) : ShKeep g A ca S (W.setCell p v) :=
  h.far hg (fun a e hn => Nat.ne_of_lt (Nat.lt_of_lt_of_le (hL a e hn) hB)) v
def mnS (S : Sht) : Int := if opS S true = 0 then ((trs S).length : Int) else 0
set_option maxRecDepth 100000 in
set_option maxHeartbeats 4000000 in
theorem Many_any4 (A : Option Addr) (ca : Nat) (S : Sht) (w : World) (ha : Cts w A S.cs) :
    Calls Tryz.prog 35 #[(Value.agg #[(Value.int .i64 (S.xlo)), (Value.int .i64 (S.xhi)), (Value.int .i64 (S.ylo)), (Value.int .i64 (S.yhi)), .slice A S.cs.length ca, (Value.int .i64 (S.wrong))])] w fun e w' => e = .returned (.tuple #[(Value.int .i64 (mnS S)), (Value.int .i64 (opS S true))]) ∧ Below w.heap.size w w' := by
  have hc := Lib.hid fun (W : World) (h : Below w.heap.size w W) => open_any4 A ca S true W (ha.below h)
  have c1 : Blk ((w.alloc (.cells #[(Value.int .i64 (S.xlo)), (Value.int .i64 (S.xhi)), (Value.int .i64 (S.ylo)), (Value.int .i64 (S.yhi)), .slice A S.cs.length ca, (Value.int .i64 (S.wrong))] 26)).alloc (.cells #[(Value.int .i64 (0))] 3)) w.heap.size 26 #[(Value.int .i64 (S.xlo)), (Value.int .i64 (S.xhi)), (Value.int .i64 (S.ylo)), (Value.int .i64 (S.yhi)), .slice A S.cs.length ca, (Value.int .i64 (S.wrong))] := (Blk.new _ _ _).alloc _
  have c2 : Blk ((w.alloc (.cells #[(Value.int .i64 (S.xlo)), (Value.int .i64 (S.xhi)), (Value.int .i64 (S.ylo)), (Value.int .i64 (S.yhi)), .slice A S.cs.length ca, (Value.int .i64 (S.wrong))] 26)).alloc (.cells #[(Value.int .i64 (0))] 3)) (w.heap.size + 1) 3 #[(Value.int .i64 (0))] := Blk.new_at (by simp)
  have hb0 : Below w.heap.size w ((w.alloc (.cells #[(Value.int .i64 (S.xlo)), (Value.int .i64 (S.xhi)), (Value.int .i64 (S.ylo)), (Value.int .i64 (S.yhi)), .slice A S.cs.length ca, (Value.int .i64 (S.wrong))] 26)).alloc (.cells #[(Value.int .i64 (0))] 3)) := by (repeat (first | with_reducible exact Below.refl _ _ | with_reducible apply bl_alloc | with_reducible apply bl_drew | with_reducible apply bl_after | (with_reducible refine bl_call ?_ (by assumption))))
  (have la := c1.lt); (have ya0 := c1.cell 0); (have ya1 := c1.cell 1); (have ya2 := c1.cell 2); (have ya3 := c1.cell 3); (have ya4 := c1.cell 4); (have ya5 := c1.cell 5); simp only [List.getElem?_toArray, List.getElem?_cons_zero, List.getElem?_cons_succ] at ya0 ya1 ya2 ya3 ya4 ya5
  by_cases h0 : opS S true = 0
  · have hS := sht_ok (opS_zero h0).1
    have hE : mnS S = ((trs S).length : Int) := if_pos h0
    rw [hE]
    clear hE
    have h0' := Lib.hid h0
    have hlen := trs_bd hS
    have hL := cts_low ha
    rw [h0] at hc ⊢
    clear h0
    refine (callsIn_wide (n := 0)).1 ?_; refine callsIn_of_wp_marks Tryz.func35 rfl trivial ?_ rfl; simp only [Tryz.ntmps35, List.size_toArray, List.length_cons, List.length_nil, Nat.reduceAdd, Nat.reduceSub, Array.replicate_succ, Array.replicate_zero, List.push_toArray, List.append_toArray, List.nil_append, List.cons_append]
    gi_wp2_with ((gi_at_call 38); (with_reducible refine CallsIn.mono (callsIn_wide.2 (hc.out _ (by (repeat (first | with_reducible exact Below.refl _ _ | with_reducible apply bl_alloc | with_reducible apply bl_drew | with_reducible apply bl_after | (with_reducible refine bl_call ?_ (by assumption))))))) ?_); rintro e w1 ⟨⟨p, rfl, hO⟩, hb1⟩)
    have hO' : ∃ g, p = some ⟨g, 0, none⟩ ∧ ShKeep g A ca S w1 := by
      rcases hO with ⟨_, g, e, hk, _⟩ | ⟨h, _⟩
      · exact ⟨g, e, hk⟩
      · exact absurd h0'.out h
    obtain ⟨g, rfl, cK⟩ := hO'
    replace c2 := c2.below hb1
    have hbW := bl_call hb0 hb1
    clear hO hc hb0 hb1 c1 la ya0 ya1 ya2 ya3 ya4 ya5
    generalize hg2 : w.heap.size + 1 = g2 at *
    have hg : w.heap.size ≤ g2 := by omega
    refine range_g (gf := 52) (pre := #[.pointer (some ⟨g, 0, none⟩)]) (lb := #[]) rfl (enters_of Tryz.func52 (by kernel_rfl) rfl) (truths_iter4 g A ca S hS) (fun x args W h => by rw [show args = _ from h]; rfl)
      (fun k W => Blk W g2 3 #[(Value.int .i64 ((k : Int)))] ∧ ShKeep g A ca S W ∧ Below w.heap.size w W)
      (fun _ _ => False)
      (fun k W W' h hs => ⟨hs.blk h.1, h.2.1.step hs, hs.below h.2.2 hbW.size⟩)
      (fun _ _ _ h _ => h)
      (fun k W h => h.2.1)
      ⟨c2, cK, hbW⟩ ?round ?done (fun _ _ _ _ h _ => h.elim)
    case round =>
      rintro lp k x args W hx hA hle ⟨r, hr⟩ ⟨e2, eK, hbk⟩
      obtain rfl : args = #[(Value.agg #[.int .i64 x.1, .int .i64 x.2])] := hA
      gi_wp2
      refine ⟨KeepsFrom.refl _ _, CellsFrom.refl _ _, fun r1 r2 hr1 => ?_⟩
      have st := Step.put (o' := .loop r2) hr1 rfl hle
      replace e2 := st.blk e2
      replace eK := eK.step st
      replace hbk := st.below hbk hbW.size
      have hkl : k < (trs S).length := (List.getElem?_eq_some_iff.1 hx).1
      have hgk := eK.blk.ne_type e2 (by decide)
      generalize W.putObj lp (.loop r2) = W2 at e2 eK hbk ⊢
      clear st hr1 hx hr
      (have la := e2.lt); (have ya0 := e2.cell 0); simp only [List.getElem?_toArray, List.getElem?_cons_zero] at ya0
      have fz := e2.frozen 0
      have l2 := c2.lt
      gi_wp2
      refine ⟨by (repeat (first | with_reducible exact KeepsFrom.refl _ _ | with_reducible apply kf_alloc | with_reducible apply kf_set | with_reducible apply kf_drew | with_reducible apply kf_after | (with_reducible refine kf_call ?_ (by assumption)))), by (repeat (first | with_reducible exact CellsFrom.refl _ _ | with_reducible apply cf_alloc | with_reducible apply cf_drew | with_reducible apply cf_after | (with_reducible refine cf_call ?_ (by assumption)) | (with_reducible refine cf_set (by simp; omega) ?_))), ?_, eK.set hL hgk hg _, bl_setc hbk hg⟩
      have h := e2.set_ 0 (Value.int .i64 (((k + 1 : Nat) : Int)))
      simpa using h
    case done =>
      rintro D W hD ⟨e2, eK, hbk⟩ hK
      (have la := e2.lt); (have ya0 := e2.cell 0); simp only [List.getElem?_toArray, List.getElem?_cons_zero] at ya0
      have fz := e2.frozen 0
      have l2 := c2.lt
      gi_wp2
      have e2' : Blk (W.setCell ⟨g2, 0, none⟩ (Value.int .i64 (((trs S).length : Int)))) g2 3 #[(Value.int .i64 (((trs S).length : Int)))] := by
        have h := e2.set_ 0 (Value.int .i64 (((trs S).length : Int)))
        simpa using h
      have hKX := (KeepsOthers.setCell W ⟨g2, 0, none⟩ (Value.int .i64 (((trs S).length : Int)))).same _ _ hK rfl
      have hbX : Below w.heap.size w (W.setCell ⟨g2, 0, none⟩ (Value.int .i64 (((trs S).length : Int)))) := bl_setc hbk hg
      generalize W.setCell ⟨g2, 0, none⟩ (Value.int .i64 (((trs S).length : Int))) = X at e2' hKX hbX ⊢
      have f2 := (Step.put (B := w1.heap.size) (o' := .deferred none) hKX rfl hD).blk e2'
      have z2 := f2.cell 0
      simp only [List.getElem?_toArray, List.getElem?_cons_zero] at z2
      refine ⟨by simp, .inl ⟨_, _, rfl, run_takeDeferred hKX, ?_⟩⟩
      exact ⟨.tuple #[(Value.int .i64 (((trs S).length : Int))), (Value.int .i64 (0))], by simp [results, Tryz.results35, go_sem, z2], rfl, bl_put hbX hKX (by have := hbW.size; omega)⟩
  · have hE : mnS S = 0 := if_neg h0
    rw [hE]
    clear hE
    have h1 : (opS S true != 0) = true := by rw [bne_iff_ne]; exact h0
    clear h0
    go_enter Tryz.func35, Tryz.ntmps35
    go_wp2_with ((go_at_call 38); (with_reducible refine Calls.mono (hc.out _ (by (repeat (first | with_reducible exact Below.refl _ _ | with_reducible apply bl_alloc | with_reducible apply bl_drew | with_reducible apply bl_after | (with_reducible refine bl_call ?_ (by assumption)))))) ?_); rintro e w1 ⟨⟨p, rfl, hO⟩, hb1⟩; first | ((with_reducible apply kp_in_step (hb := hb1)); (with_reducible assumption); rintro ⟨hk, hc, hf, hzc, hzf⟩) | ((with_reducible refine kp_in_first hb1 ?_); rintro ⟨hk, hc, hf, hzc, hzf⟩))
    have e2' : Blk (w1.setCell ⟨w.heap.size + 1, 0, none⟩ (Value.int .i64 (0))) (w.heap.size + 1) 3 #[(Value.int .i64 (0))] := by
      have h := (c2.below hb1).set_ 0 (Value.int .i64 (0))
      simpa using h
    have hbX : Below w.heap.size w (w1.setCell ⟨w.heap.size + 1, 0, none⟩ (Value.int .i64 (0))) := bl_setc (bl_call hb0 hb1) (by omega)
    generalize w1.setCell ⟨w.heap.size + 1, 0, none⟩ (Value.int .i64 (0)) = X at e2' hbX ⊢
    have z2 := e2'.cell 0
    simp only [List.getElem?_toArray, List.getElem?_cons_zero] at z2
    refine bodyPost_ret (v := .tuple #[(Value.int .i64 (0)), (Value.int .i64 (opS S true))]) (by simp [results, Tryz.results35, go_sem, z2]) rfl ⟨rfl, hbX⟩
end Go.Proofs.YtegdnbceiopklaaGreat
