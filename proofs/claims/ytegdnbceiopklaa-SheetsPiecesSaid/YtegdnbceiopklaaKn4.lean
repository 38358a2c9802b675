/- The function known of sheets answers whether something is so in all truths, in none, or in some. -/
import Derived.Test.YtegdnbceiopklaaJMn4
namespace Go.Proofs.Ytegdnbceiopklaa
open Go.RowKit Go.Shelf
attribute [local go_sem] After.cell After.frozen Oper.semAt_some wide_fn wide_depth Fence.inRound_fn Fence.inRound_depth

set_option maxRecDepth 100000 in
set_option maxHeartbeats 4000000 in
theorem known_any4 (g : Nat) (A : Option Addr) (ca : Nat) (S : Sht) (hS : ShtOk S) (cf : Nat) (lb : Array Value) (p : Pt → Bool) (w : World) (hK0 : ShKeep g A ca S w)
    (eg : ∀ args w, (callFunc cf args).run Try.prog w = .ok (.enter cf args) w)
    (hof : ∀ f ∈ trs S, ∀ W : World, Below w.heap.size w W → Calls Try.prog cf (#[(Value.agg #[.int .i64 f.1, .int .i64 f.2])] ++ lb) W fun e w' => e = .returned (.bool (p f)) ∧ Below W.heap.size W w') :
    Calls Try.prog 53 #[.pointer (some ⟨g, 0, none⟩), .func (.func cf) #[] lb] w fun e w' => e = .returned (Value.int .i64 (knw p (trs S))) ∧ Below w.heap.size w w' := by
  have c3 : Blk (((w.alloc (.cells #[.func (.func cf) #[] lb] 90)).alloc (.cells #[(Value.int .i64 (0))] 3)).alloc (.cells #[(Value.int .i64 (0))] 3)) w.heap.size 90 #[.func (.func cf) #[] lb] := ((Blk.new _ _ _).alloc _).alloc _
  have c5 : Blk (((w.alloc (.cells #[.func (.func cf) #[] lb] 90)).alloc (.cells #[(Value.int .i64 (0))] 3)).alloc (.cells #[(Value.int .i64 (0))] 3)) (w.heap.size + 1) 3 #[(Value.int .i64 (0))] := (Blk.new_at (by simp)).alloc _
  have c6 : Blk (((w.alloc (.cells #[.func (.func cf) #[] lb] 90)).alloc (.cells #[(Value.int .i64 (0))] 3)).alloc (.cells #[(Value.int .i64 (0))] 3)) (w.heap.size + 1 + 1) 3 #[(Value.int .i64 (0))] := Blk.new_at (by simp)
  have hbW : Below w.heap.size w (((w.alloc (.cells #[.func (.func cf) #[] lb] 90)).alloc (.cells #[(Value.int .i64 (0))] 3)).alloc (.cells #[(Value.int .i64 (0))] 3)) := by (repeat (first | with_reducible exact Below.refl _ _ | with_reducible apply bl_alloc | with_reducible apply bl_drew | with_reducible apply bl_after | (with_reducible refine bl_call ?_ (by assumption))))
  have cK := hK0.below hbW
  have hL := cts_low hK0.cts
  have hlen := trs_bd hS
  have hg0 := hK0.blk.lt
  have HO := Lib.hid hof
  clear hof hK0
  refine (callsIn_wide (n := 0)).1 ?_; refine callsIn_of_wp_marks Try.func53 rfl trivial ?_ rfl; simp only [Try.ntmps53, List.size_toArray, List.length_cons, List.length_nil, Nat.reduceAdd, Nat.reduceSub, Array.replicate_succ, Array.replicate_zero, List.push_toArray, List.append_toArray, List.nil_append, List.cons_append]
  gi_wp2
  generalize (((w.alloc (.cells #[.func (.func cf) #[] lb] 90)).alloc (.cells #[(Value.int .i64 (0))] 3)).alloc (.cells #[(Value.int .i64 (0))] 3)) = W1 at *
  have n5 : g ≠ w.heap.size + 1 := by omega
  have n6 : g ≠ w.heap.size + 1 + 1 := by omega
  refine range_g (gf := 60) (pre := #[.pointer (some ⟨g, 0, none⟩)]) (lb := #[]) rfl (enters_of Try.func60 (by kernel_rfl) rfl) (truths_iter4 g A ca S hS) (fun x args W h => by rw [show args = _ from h]; rfl)
    (fun k W => Blk W w.heap.size 90 #[.func (.func cf) #[] lb] ∧ Blk W (w.heap.size + 1) 3 #[(Value.int .i64 ((cntTo p (trs S) k : Int)))] ∧ Blk W (w.heap.size + 1 + 1) 3 #[(Value.int .i64 ((cntTo (fun x => !p x) (trs S) k : Int)))] ∧ ShKeep g A ca S W ∧ Below w.heap.size w W)
    (fun _ _ => False)
    (fun k W W' h hs => ⟨hs.blk h.1, hs.blk h.2.1, hs.blk h.2.2.1, h.2.2.2.1.step hs, hs.below h.2.2.2.2 hbW.size⟩)
    (fun _ _ _ h _ => h)
    (fun k W h => h.2.2.2.1)
    ⟨c3, c5, c6, cK, hbW⟩ ?round ?done (fun _ _ _ _ h _ => h.elim)
  case round =>
    rintro lp k x args W hx hA hle ⟨r, hr⟩ ⟨e3, e5, e6, eK, hbk⟩
    obtain rfl : args = #[(Value.agg #[.int .i64 x.1, .int .i64 x.2])] := hA
    gi_wp2
    refine ⟨by (repeat (first | with_reducible exact KeepsFrom.refl _ _ | with_reducible apply kf_alloc | with_reducible apply kf_set | with_reducible apply kf_drew | with_reducible apply kf_after | (with_reducible refine kf_call ?_ (by assumption)))), by (repeat (first | with_reducible exact CellsFrom.refl _ _ | with_reducible apply cf_alloc | with_reducible apply cf_drew | with_reducible apply cf_after | (with_reducible refine cf_call ?_ (by assumption)) | (with_reducible refine cf_set (by simp; omega) ?_))), fun r1 r2 hr1 => ?_⟩
    have st := Step.put (o' := .loop r2) hr1 rfl hle
    have hbA : Below W.heap.size W (W.alloc (.cells #[(Value.int .i64 (x.1)), (Value.int .i64 (x.2))] 89)) := by (repeat (first | with_reducible exact Below.refl _ _ | with_reducible apply bl_alloc | with_reducible apply bl_drew | with_reducible apply bl_after | (with_reducible refine bl_call ?_ (by assumption))))
    have e7 := st.blk (Blk.new W 89 #[(Value.int .i64 (x.1)), (Value.int .i64 (x.2))])
    replace e3 := st.blk (e3.below hbA)
    replace e5 := st.blk (e5.below hbA)
    replace e6 := st.blk (e6.below hbA)
    replace eK := (eK.below hbA).step st
    replace hbk := st.below (bl_call hbk hbA) hbW.size
    have hxt : x ∈ trs S := List.mem_of_getElem? hx
    have hkl : k < (trs S).length := (List.getElem?_eq_some_iff.1 hx).1
    have hs1 := cntTo_succ (p := p) hx
    have hs2 := cntTo_succ (p := fun x => !p x) hx
    have hq1 := cntTo_le p (trs S) k
    have hq2 := cntTo_le (fun x => !p x) (trs S) k
    have hf := HO.out x hxt
    generalize (W.alloc (.cells #[(Value.int .i64 (x.1)), (Value.int .i64 (x.2))] 89)).putObj lp (.loop r2) = W2 at e3 e5 e6 e7 eK hbk ⊢
    generalize W.heap.size = g7 at e7 ⊢
    have hf2 := hf W2 hbk
    clear st hr1 hx hr hbA hf
    (have la := e3.lt); (have ya0 := e3.cell 0); simp only [List.getElem?_toArray, List.getElem?_cons_zero] at ya0
    (have lq := e5.lt); (have yq0 := e5.cell 0); simp only [List.getElem?_toArray, List.getElem?_cons_zero] at yq0
    (have lc := e6.lt); (have yc0 := e6.cell 0); simp only [List.getElem?_toArray, List.getElem?_cons_zero] at yc0
    (have ld := e7.lt); (have yd0 := e7.cell 0); (have yd1 := e7.cell 1); simp only [List.getElem?_toArray, List.getElem?_cons_zero, List.getElem?_cons_succ] at yd0 yd1
    have fb := e5.frozen 0
    have fc := e6.frozen 0
    have l3 := c6.lt
    cases hp : p x <;> rw [hp] at hf2 hs1 hs2 <;> simp only [Bool.not_true, Bool.not_false, if_true, Bool.false_eq_true, if_false, Nat.add_zero] at hs1 hs2 <;> replace hf2 := Lib.hid hf2 <;> replace hs1 := Lib.hid hs1 <;> replace hs2 := Lib.hid hs2
    · clear hp
      gi_wp2_with ((with_reducible refine CallsIn.mono (callsIn_rnd hf2.out) ?_); rintro e w1 ⟨rfl, hb1⟩; first | ((with_reducible apply kp_in_step (hb := hb1)); (with_reducible assumption); rintro ⟨hk, hc, hf, hzc, hzf⟩) | ((with_reducible refine kp_in_first hb1 ?_); rintro ⟨hk, hc, hf, hzc, hzf⟩))
      refine ⟨by (repeat (first | with_reducible exact KeepsFrom.refl _ _ | with_reducible apply kf_alloc | with_reducible apply kf_set | with_reducible apply kf_drew | with_reducible apply kf_after | (with_reducible refine kf_call ?_ (by assumption)))), by (repeat (first | with_reducible exact CellsFrom.refl _ _ | with_reducible apply cf_alloc | with_reducible apply cf_drew | with_reducible apply cf_after | (with_reducible refine cf_call ?_ (by assumption)) | (with_reducible refine cf_set (by simp; omega) ?_))), (e3.below hb1).far (by simp <;> omega) _, by rw [hs1.out]; exact (e5.below hb1).far (by simp <;> omega) _, ?_, (eK.below hb1).set hL n6 (by simp; omega) _, bl_setc (bl_call hbk hb1) (by omega)⟩
      rw [hs2.out]
      have h := (e6.below hb1).set_ 0 (Value.int .i64 (((cntTo (fun x => !p x) (trs S) k : Int) + 1)))
      simpa using h
    · clear hp
      gi_wp2_with ((with_reducible refine CallsIn.mono (callsIn_rnd hf2.out) ?_); rintro e w1 ⟨rfl, hb1⟩; first | ((with_reducible apply kp_in_step (hb := hb1)); (with_reducible assumption); rintro ⟨hk, hc, hf, hzc, hzf⟩) | ((with_reducible refine kp_in_first hb1 ?_); rintro ⟨hk, hc, hf, hzc, hzf⟩))
      refine ⟨by (repeat (first | with_reducible exact KeepsFrom.refl _ _ | with_reducible apply kf_alloc | with_reducible apply kf_set | with_reducible apply kf_drew | with_reducible apply kf_after | (with_reducible refine kf_call ?_ (by assumption)))), by (repeat (first | with_reducible exact CellsFrom.refl _ _ | with_reducible apply cf_alloc | with_reducible apply cf_drew | with_reducible apply cf_after | (with_reducible refine cf_call ?_ (by assumption)) | (with_reducible refine cf_set (by simp; omega) ?_))), (e3.below hb1).far (by simp <;> omega) _, ?_, by rw [hs2.out]; exact (e6.below hb1).far (by simp <;> omega) _, (eK.below hb1).set hL n5 (by simp) _, bl_setc (bl_call hbk hb1) (by omega)⟩
      rw [hs1.out]
      have h := (e5.below hb1).set_ 0 (Value.int .i64 (((cntTo p (trs S) k : Int) + 1)))
      simpa using h
  case done =>
    rintro D W hD ⟨e3, e5, e6, eK, hbk⟩ hK
    rw [cntTo_all] at e5 e6
    have hN := cnt_not p (trs S)
    have hDb : w.heap.size ≤ D := by have := hbW.size; omega
    have hbP := bl_put (o' := .deferred none) hbk hK hDb
    by_cases h1 : cnt (fun x => !p x) (trs S) = 0
    · have hv : knw p (trs S) = 1 := if_pos (by omega)
      have HV := Lib.hid hv
      rw [h1] at e6
      (have lq := e5.lt); (have yq0 := e5.cell 0); simp only [List.getElem?_toArray, List.getElem?_cons_zero] at yq0
      (have lc := e6.lt); (have yc0 := e6.cell 0); simp only [List.getElem?_toArray, List.getElem?_cons_zero] at yc0
      clear h1 hN hv
      gi_wp2
      refine ⟨by simp, .inl ⟨_, _, rfl, run_takeDeferred hK, ?_⟩⟩
      exact ⟨(Value.int .i64 (1)), by simp [results, Try.results53, go_sem], by rw [HV.out], hbP⟩
    · have hd : ((cnt (fun x => !p x) (trs S) : Int) == 0) = false := by rw [beq_eq_false_iff_ne]; omega
      by_cases h2 : cnt p (trs S) = 0
      · have hv : knw p (trs S) = 2 := by rw [knw, if_neg (by omega), if_pos h2]
        have HV := Lib.hid hv
        rw [h2] at e5
        (have lq := e5.lt); (have yq0 := e5.cell 0); simp only [List.getElem?_toArray, List.getElem?_cons_zero] at yq0
        (have lc := e6.lt); (have yc0 := e6.cell 0); simp only [List.getElem?_toArray, List.getElem?_cons_zero] at yc0
        clear h1 h2 hN hv
        gi_wp2
        refine ⟨by simp, .inl ⟨_, _, rfl, run_takeDeferred hK, ?_⟩⟩
        exact ⟨(Value.int .i64 (2)), by simp [results, Try.results53, go_sem], by rw [HV.out], hbP⟩
      · have hv : knw p (trs S) = 3 := by rw [knw, if_neg (by omega), if_neg h2]
        have HV := Lib.hid hv
        have hd2 : ((cnt p (trs S) : Int) == 0) = false := by rw [beq_eq_false_iff_ne]; omega
        (have lq := e5.lt); (have yq0 := e5.cell 0); simp only [List.getElem?_toArray, List.getElem?_cons_zero] at yq0
        (have lc := e6.lt); (have yc0 := e6.cell 0); simp only [List.getElem?_toArray, List.getElem?_cons_zero] at yc0
        clear h1 h2 hN hv
        gi_wp2
        refine ⟨by simp, .inl ⟨_, _, rfl, run_takeDeferred hK, ?_⟩⟩
        exact ⟨(Value.int .i64 (3)), by simp [results, Try.results53, go_sem], by rw [HV.out], hbP⟩
end Go.Proofs.Ytegdnbceiopklaa
