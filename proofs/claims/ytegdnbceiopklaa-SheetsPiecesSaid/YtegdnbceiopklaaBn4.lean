/- The function bounds of sheets answers the integers between which a fraction lies in all truths. -/
import Derived.Test.YtegdnbceiopklaaJMn4
namespace Go.Proofs.Ytegdnbceiopklaa
open Go.RowKit Go.Shelf
attribute [local go_sem] After.cell After.frozen Oper.semAt_some wide_fn wide_depth Fence.inRound_fn Fence.inRound_depth

/-- A fraction whose numbers can be reckoned with. -/
def FrOk (q : Int × Int) : Prop := (0 ≤ q.1 ∧ q.1 ≤ 1000000000000000000) ∧ (0 < q.2 ∧ q.2 ≤ 10000000000000)
theorem tdiv_bd {a b : Int} (h0 : 0 ≤ a) (h1 : a ≤ 2000000000000000000) (hb : 0 < b) : 0 ≤ a.tdiv b ∧ a.tdiv b ≤ 2000000000000000000 := by
  have h3 : (a.tdiv b).natAbs ≤ a.natAbs := by rw [Int.natAbs_tdiv]; exact Nat.div_le_self _ _
  have h4 : 0 ≤ a.tdiv b := Int.tdiv_nonneg h0 (by omega)
  omega
theorem low_bd {q : Int × Int} (h : FrOk q) : 0 ≤ low q ∧ low q ≤ 2000000000000000000 := tdiv_bd h.1.1 (by have := h.1.2; omega) h.2.1
theorem hig_bd {q : Int × Int} (h : FrOk q) : 0 ≤ hig q ∧ hig q ≤ 2000000000000000000 := tdiv_bd (by have := h.1.1; have := h.2.1; omega) (by have := h.1.2; have := h.2.2; omega) h.2.1
theorem bLo_succ {q : Pt → Int × Int} {l : List Pt} {k : Nat} {x : Pt} (h : l[k]? = some x) : bLo q (l.take (k + 1)) = if k = 0 then low (q x) else min (bLo q (l.take k)) (low (q x)) := by
  have hk := (List.getElem?_eq_some_iff.1 h).1
  rw [List.take_add_one, h]
  cases l with
  | nil => simp at hk
  | cons a t =>
    cases k with
    | zero =>
      simp only [List.getElem?_cons_zero, Option.some.injEq] at h
      subst h
      simp [bLo]
    | succ k => simp [bLo, List.take_succ_cons, List.foldl_append]
theorem bHi_succ {q : Pt → Int × Int} {l : List Pt} {k : Nat} {x : Pt} (h : l[k]? = some x) : bHi q (l.take (k + 1)) = if k = 0 then hig (q x) else max (bHi q (l.take k)) (hig (q x)) := by
  have hk := (List.getElem?_eq_some_iff.1 h).1
  rw [List.take_add_one, h]
  cases l with
  | nil => simp at hk
  | cons a t =>
    cases k with
    | zero =>
      simp only [List.getElem?_cons_zero, Option.some.injEq] at h
      subst h
      simp [bHi]
    | succ k => simp [bHi, List.take_succ_cons, List.foldl_append]

set_option maxRecDepth 100000 in
set_option maxHeartbeats 8000000 in
theorem bounds_any4 (g : Nat) (A : Option Addr) (ca : Nat) (S : Sht) (hS : ShtOk S) (cf : Nat) (lb : Array Value) (q : Pt → Int × Int) (w : World) (hK0 : ShKeep g A ca S w)
    (eg : ∀ args w, (callFunc cf args).run Try.prog w = .ok (.enter cf args) w) (hq : ∀ f ∈ trs S, FrOk (q f))
    (hof : ∀ f ∈ trs S, ∀ W : World, Below w.heap.size w W → Calls Try.prog cf (#[(Value.agg #[.int .i64 f.1, .int .i64 f.2])] ++ lb) W fun e w' => e = .returned (.tuple #[(Value.int .i64 ((q f).1)), (Value.int .i64 ((q f).2))]) ∧ Below W.heap.size W w') :
    Calls Try.prog 61 #[.pointer (some ⟨g, 0, none⟩), .func (.func cf) #[] lb] w fun e w' => e = .returned (.agg #[(Value.int .i64 (bLo q (trs S))), (Value.int .i64 (bHi q (trs S)))]) ∧ Below w.heap.size w w' := by
  have c3 : Blk ((((w.alloc (.cells #[.func (.func cf) #[] lb] 99)).alloc (.cells #[(Value.int .i64 (0)), (Value.int .i64 (0))] 23)).alloc (.cells #[(Value.int .i64 (0)), (Value.int .i64 (0))] 23)).alloc (.cells #[.bool true] 4)) w.heap.size 99 #[.func (.func cf) #[] lb] := (((Blk.new _ _ _).alloc _).alloc _).alloc _
  have c4 : Blk ((((w.alloc (.cells #[.func (.func cf) #[] lb] 99)).alloc (.cells #[(Value.int .i64 (0)), (Value.int .i64 (0))] 23)).alloc (.cells #[(Value.int .i64 (0)), (Value.int .i64 (0))] 23)).alloc (.cells #[.bool true] 4)) (w.heap.size + 1) 23 #[(Value.int .i64 (0)), (Value.int .i64 (0))] := ((Blk.new_at (by simp)).alloc _).alloc _
  have c5 : Blk ((((w.alloc (.cells #[.func (.func cf) #[] lb] 99)).alloc (.cells #[(Value.int .i64 (0)), (Value.int .i64 (0))] 23)).alloc (.cells #[(Value.int .i64 (0)), (Value.int .i64 (0))] 23)).alloc (.cells #[.bool true] 4)) (w.heap.size + 1 + 1) 23 #[(Value.int .i64 (0)), (Value.int .i64 (0))] := (Blk.new_at (by simp)).alloc _
  have c6 : Blk ((((w.alloc (.cells #[.func (.func cf) #[] lb] 99)).alloc (.cells #[(Value.int .i64 (0)), (Value.int .i64 (0))] 23)).alloc (.cells #[(Value.int .i64 (0)), (Value.int .i64 (0))] 23)).alloc (.cells #[.bool true] 4)) (w.heap.size + 1 + 1 + 1) 4 #[.bool true] := Blk.new_at (by simp)
  have hbW : Below w.heap.size w ((((w.alloc (.cells #[.func (.func cf) #[] lb] 99)).alloc (.cells #[(Value.int .i64 (0)), (Value.int .i64 (0))] 23)).alloc (.cells #[(Value.int .i64 (0)), (Value.int .i64 (0))] 23)).alloc (.cells #[.bool true] 4)) := by (repeat (first | with_reducible exact Below.refl _ _ | with_reducible apply bl_alloc | with_reducible apply bl_drew | with_reducible apply bl_after | (with_reducible refine bl_call ?_ (by assumption))))
  have cK := hK0.below hbW
  have hL := cts_low hK0.cts
  have hlen := trs_bd hS
  have hg0 := hK0.blk.lt
  have HO := Lib.hid hof
  have HQ := Lib.hid hq
  clear hof hK0 hq
  refine (callsIn_wide (n := 0)).1 ?_; refine callsIn_of_wp_marks Try.func61 rfl trivial ?_ rfl; simp only [Try.ntmps61, List.size_toArray, List.length_cons, List.length_nil, Nat.reduceAdd, Nat.reduceSub, Array.replicate_succ, Array.replicate_zero, List.push_toArray, List.append_toArray, List.nil_append, List.cons_append]
  gi_wp2
  generalize ((((w.alloc (.cells #[.func (.func cf) #[] lb] 99)).alloc (.cells #[(Value.int .i64 (0)), (Value.int .i64 (0))] 23)).alloc (.cells #[(Value.int .i64 (0)), (Value.int .i64 (0))] 23)).alloc (.cells #[.bool true] 4)) = W1 at *
  have n5 : g ≠ w.heap.size + 1 + 1 := by omega
  have n6 : g ≠ w.heap.size + 1 + 1 + 1 := by omega
  refine range_g (gf := 60) (pre := #[.pointer (some ⟨g, 0, none⟩)]) (lb := #[]) rfl (enters_of Try.func60 (by kernel_rfl) rfl) (truths_iter4 g A ca S hS) (fun x args W h => by rw [show args = _ from h]; rfl)
    (fun k W => Blk W w.heap.size 99 #[.func (.func cf) #[] lb] ∧ Blk W (w.heap.size + 1) 23 #[(Value.int .i64 (0)), (Value.int .i64 (0))] ∧ Blk W (w.heap.size + 1 + 1) 23 #[(Value.int .i64 (bLo q ((trs S).take k))), (Value.int .i64 (bHi q ((trs S).take k)))] ∧ Blk W (w.heap.size + 1 + 1 + 1) 4 #[.bool (decide (k = 0))] ∧ ShKeep g A ca S W ∧ Below w.heap.size w W)
    (fun _ _ => False)
    (fun k W W' h hs => ⟨hs.blk h.1, hs.blk h.2.1, hs.blk h.2.2.1, hs.blk h.2.2.2.1, h.2.2.2.2.1.step hs, hs.below h.2.2.2.2.2 hbW.size⟩)
    (fun _ _ _ h _ => h)
    (fun k W h => h.2.2.2.2.1)
    ⟨c3, c4, c5, c6, cK, hbW⟩ ?round ?done (fun _ _ _ _ h _ => h.elim)
  case round =>
    rintro lp k x args W hx hA hle ⟨r, hr⟩ ⟨e3, e4, e5, e6, eK, hbk⟩
    obtain rfl : args = #[(Value.agg #[.int .i64 x.1, .int .i64 x.2])] := hA
    gi_wp2
    refine ⟨by (repeat (first | with_reducible exact KeepsFrom.refl _ _ | with_reducible apply kf_alloc | with_reducible apply kf_set | with_reducible apply kf_drew | with_reducible apply kf_after | (with_reducible refine kf_call ?_ (by assumption)))), by (repeat (first | with_reducible exact CellsFrom.refl _ _ | with_reducible apply cf_alloc | with_reducible apply cf_drew | with_reducible apply cf_after | (with_reducible refine cf_call ?_ (by assumption)) | (with_reducible refine cf_set (by simp; omega) ?_))), fun r1 r2 hr1 => ?_⟩
    have st := Step.put (o' := .loop r2) hr1 rfl hle
    have hbA : Below W.heap.size W (W.alloc (.cells #[(Value.int .i64 (x.1)), (Value.int .i64 (x.2))] 89)) := by (repeat (first | with_reducible exact Below.refl _ _ | with_reducible apply bl_alloc | with_reducible apply bl_drew | with_reducible apply bl_after | (with_reducible refine bl_call ?_ (by assumption))))
    have e7 := st.blk (Blk.new W 89 #[(Value.int .i64 (x.1)), (Value.int .i64 (x.2))])
    replace e3 := st.blk (e3.below hbA)
    replace e4 := st.blk (e4.below hbA)
    replace e5 := st.blk (e5.below hbA)
    replace e6 := st.blk (e6.below hbA)
    replace eK := (eK.below hbA).step st
    replace hbk := st.below (bl_call hbk hbA) hbW.size
    have hxt : x ∈ trs S := List.mem_of_getElem? hx
    have hs1 := bLo_succ (q := q) hx
    have hs2 := bHi_succ (q := q) hx
    have hf := HO.out x hxt
    have hfr := HQ.out x hxt
    generalize (W.alloc (.cells #[(Value.int .i64 (x.1)), (Value.int .i64 (x.2))] 89)).putObj lp (.loop r2) = W2 at e3 e4 e5 e6 e7 eK hbk ⊢
    generalize W.heap.size = g7 at e7 ⊢
    have hf2 := hf W2 hbk
    have h1 := low_bd hfr
    have h2 := hig_bd hfr
    have hlo : low (q x) = (q x).1.tdiv (q x).2 := rfl
    have hhi : hig (q x) = ((q x).1 + (q x).2 - 1).tdiv (q x).2 := rfl
    rw [hlo] at hs1 h1
    rw [hhi] at hs2 h2
    obtain ⟨⟨f1, f2⟩, f3, f4⟩ := hfr
    generalize (q x).1 = a at *
    generalize (q x).2 = d at *
    have nz : (d == 0) = false := by rw [beq_eq_false_iff_ne]; omega
    have nz2 : d ≠ 0 := by omega
    have z1 := wrap64_in (x := a + d) (by omega) (by omega)
    have z2 := wrap64_in (x := a + d - 1) (by omega) (by omega)
    have z3 : IntKind.i64.wrap (a.tdiv d) = a.tdiv d := IntWalk.i64_in _ (by omega)
    have z4 : IntKind.i64.wrap ((a + d - 1).tdiv d) = (a + d - 1).tdiv d := IntWalk.i64_in _ (by omega)
    replace hf2 := Lib.hid hf2
    have HS1 := Lib.hid hs1
    have HS2 := Lib.hid hs2
    clear st hr1 hx hr hbA hf hlo hhi hs1 hs2 h1 h2 f1 f2 f3 f4
    (have la := e3.lt); (have ya0 := e3.cell 0); simp only [List.getElem?_toArray, List.getElem?_cons_zero] at ya0
    (have lq := e5.lt); (have yq0 := e5.cell 0); (have yq1 := e5.cell 1); simp only [List.getElem?_toArray, List.getElem?_cons_zero, List.getElem?_cons_succ] at yq0 yq1
    (have lc := e6.lt); (have yc0 := e6.cell 0); simp only [List.getElem?_toArray, List.getElem?_cons_zero] at yc0
    (have ld := e7.lt); (have yd0 := e7.cell 0); (have yd1 := e7.cell 1); simp only [List.getElem?_toArray, List.getElem?_cons_zero, List.getElem?_cons_succ] at yd0 yd1
    have f5 := e5.frozen 0
    have f5' := e5.frozen 1
    have f6 := e6.frozen 0
    have l3 := c6.lt
    have hdk : decide (k + 1 = 0) = false := by simp
    by_cases hk0 : k = 0
    · rw [if_pos hk0] at HS1 HS2
      rw [decide_eq_true hk0] at e6 yc0
      clear hk0
      gi_wp2_with ((with_reducible refine CallsIn.mono (callsIn_rnd hf2.out) ?_); rintro e w1 ⟨rfl, hb1⟩; first | ((with_reducible apply kp_in_step (hb := hb1)); (with_reducible assumption); rintro ⟨hk, hc, hf, hzc, hzf⟩) | ((with_reducible refine kp_in_first hb1 ?_); rintro ⟨hk, hc, hf, hzc, hzf⟩))
      (first | refine wpIn_after_w (by kernel_rfl) (by kernel_rfl) (by kernel_rfl) ?_ | refine wpIn_after_r (by kernel_rfl) (by kernel_rfl) (by kernel_rfl) ?_); (repeat (go_big_quiet_step ((fail)))); refine wpQuiet_nil ?_; rintro _ ⟨z, rfl⟩; (first | ((with_reducible apply kp_in_after (z := z)); (with_reducible assumption); rintro ⟨hk, hc, hf, hzc, hzf⟩) | ((with_reducible refine kp_in_after0 z ?_); rintro ⟨hk, hc, hf, hzc, hzf⟩))
      gi_wp2
      have hbz := hk.b
      have e5' := e5.below hbz
      have e6' := e6.below hbz
      refine ⟨by (repeat (first | with_reducible exact KeepsFrom.refl _ _ | with_reducible apply kf_alloc | with_reducible apply kf_set | with_reducible apply kf_drew | with_reducible apply kf_after | (with_reducible refine kf_call ?_ (by assumption)))), by (repeat (first | with_reducible exact CellsFrom.refl _ _ | with_reducible apply cf_alloc | with_reducible apply cf_drew | with_reducible apply cf_after | (with_reducible refine cf_call ?_ (by assumption)) | (with_reducible refine cf_set (by simp; omega) ?_))), (((((((e3.below hbz)).far (by simp <;> omega) _).far (by simp <;> omega) _).far (by simp <;> omega) _).far (by simp <;> omega) _).far (by simp <;> omega) _), (((((((e4.below hbz)).far (by simp <;> omega) _).far (by simp <;> omega) _).far (by simp <;> omega) _).far (by simp <;> omega) _).far (by simp <;> omega) _), ?_, ?_, ((((((eK.below hbz).set hL n5 (by simp; omega) _).set hL n5 (by simp; omega) _).set hL n6 (by simp; omega) _).set hL n5 (by simp; omega) _).set hL n5 (by simp; omega) _), bl_setc (bl_setc (bl_setc (bl_setc (bl_setc (bl_call hbk hbz) (by omega)) (by omega)) (by omega)) (by omega)) (by omega)⟩
      · rw [HS1.out, HS2.out]
        have h := ((((e5'.set_ 0 (Value.int .i64 (a.tdiv d))).set_ 1 (Value.int .i64 ((a + d - 1).tdiv d))).far (p := ⟨w.heap.size + 1 + 1 + 1, 0, none⟩) (by simp) (.bool false)).set_ 0 (Value.int .i64 (a.tdiv d))).set_ 1 (Value.int .i64 ((a + d - 1).tdiv d))
        simpa using h
      · rw [hdk]
        have h := ((((e6'.far (p := ⟨w.heap.size + 1 + 1, 0, none⟩) (by simp) (Value.int .i64 (a.tdiv d))).far (p := ⟨w.heap.size + 1 + 1, 1, none⟩) (by simp) (Value.int .i64 ((a + d - 1).tdiv d))).set_ 0 (.bool false)).far (p := ⟨w.heap.size + 1 + 1, 0, none⟩) (by simp) (Value.int .i64 (a.tdiv d))).far (p := ⟨w.heap.size + 1 + 1, 1, none⟩) (by simp) (Value.int .i64 ((a + d - 1).tdiv d))
        simpa using h
    · rw [if_neg hk0] at HS1 HS2
      rw [decide_eq_false hk0] at e6 yc0
      clear hk0
      gi_wp2_with ((with_reducible refine CallsIn.mono (callsIn_rnd hf2.out) ?_); rintro e w1 ⟨rfl, hb1⟩; first | ((with_reducible apply kp_in_step (hb := hb1)); (with_reducible assumption); rintro ⟨hk, hc, hf, hzc, hzf⟩) | ((with_reducible refine kp_in_first hb1 ?_); rintro ⟨hk, hc, hf, hzc, hzf⟩))
      (first | refine wpIn_after_w (by kernel_rfl) (by kernel_rfl) (by kernel_rfl) ?_ | refine wpIn_after_r (by kernel_rfl) (by kernel_rfl) (by kernel_rfl) ?_); (repeat (go_big_quiet_step ((fail)))); refine wpQuiet_nil ?_; rintro _ ⟨z, rfl⟩; (first | ((with_reducible apply kp_in_after (z := z)); (with_reducible assumption); rintro ⟨hk, hc, hf, hzc, hzf⟩) | ((with_reducible refine kp_in_after0 z ?_); rintro ⟨hk, hc, hf, hzc, hzf⟩))
      gi_wp2
      have hbz := hk.b
      have e5' := e5.below hbz
      have e6' := e6.below hbz
      refine ⟨by (repeat (first | with_reducible exact KeepsFrom.refl _ _ | with_reducible apply kf_alloc | with_reducible apply kf_set | with_reducible apply kf_drew | with_reducible apply kf_after | (with_reducible refine kf_call ?_ (by assumption)))), by (repeat (first | with_reducible exact CellsFrom.refl _ _ | with_reducible apply cf_alloc | with_reducible apply cf_drew | with_reducible apply cf_after | (with_reducible refine cf_call ?_ (by assumption)) | (with_reducible refine cf_set (by simp; omega) ?_))), ((e3.below hbz).far (by simp <;> omega) _).far (by simp <;> omega) _, ((e4.below hbz).far (by simp <;> omega) _).far (by simp <;> omega) _, ?_, ?_, (((eK.below hbz).set hL n5 (by simp; omega) _).set hL n5 (by simp; omega) _), bl_setc (bl_setc (bl_call hbk hbz) (by omega)) (by omega)⟩
      · rw [HS1.out, HS2.out]
        have h := (e5'.set_ 0 (Value.int .i64 (min (bLo q ((trs S).take k)) (a.tdiv d)))).set_ 1 (Value.int .i64 (max (bHi q ((trs S).take k)) ((a + d - 1).tdiv d)))
        simpa using h
      · rw [hdk]
        exact (e6'.far (by simp) _).far (by simp) _
  case done =>
    rintro D W hD ⟨e3, e4, e5, e6, eK, hbk⟩ hK
    rw [List.take_length] at e5
    have hDb : w.heap.size ≤ D := by have := hbW.size; omega
    (have la := e4.lt); (have ya0 := e4.cell 0); (have ya1 := e4.cell 1); simp only [List.getElem?_toArray, List.getElem?_cons_zero, List.getElem?_cons_succ] at ya0 ya1
    (have lq := e5.lt); (have yq0 := e5.cell 0); (have yq1 := e5.cell 1); simp only [List.getElem?_toArray, List.getElem?_cons_zero, List.getElem?_cons_succ] at yq0 yq1
    have f4 := e4.frozen 0
    have f4' := e4.frozen 1
    have l3 := c6.lt
    gi_wp2
    have e4' : Blk ((W.setCell ⟨w.heap.size + 1, 0, none⟩ (Value.int .i64 (bLo q (trs S)))).setCell ⟨w.heap.size + 1, 1, none⟩ (Value.int .i64 (bHi q (trs S)))) (w.heap.size + 1) 23 #[(Value.int .i64 (bLo q (trs S))), (Value.int .i64 (bHi q (trs S)))] := by
      have h := (e4.set_ 0 (Value.int .i64 (bLo q (trs S)))).set_ 1 (Value.int .i64 (bHi q (trs S)))
      simpa using h
    have hKX : ((W.setCell ⟨w.heap.size + 1, 0, none⟩ (Value.int .i64 (bLo q (trs S)))).setCell ⟨w.heap.size + 1, 1, none⟩ (Value.int .i64 (bHi q (trs S)))).heap[D]? = some (.deferred (some [])) := (KeepsOthers.setCell _ _ _).same _ _ ((KeepsOthers.setCell _ _ _).same _ _ hK rfl) rfl
    have hbX : Below w.heap.size w ((W.setCell ⟨w.heap.size + 1, 0, none⟩ (Value.int .i64 (bLo q (trs S)))).setCell ⟨w.heap.size + 1, 1, none⟩ (Value.int .i64 (bHi q (trs S)))) := bl_setc (bl_setc hbk (by omega)) (by omega)
    generalize (W.setCell ⟨w.heap.size + 1, 0, none⟩ (Value.int .i64 (bLo q (trs S)))).setCell ⟨w.heap.size + 1, 1, none⟩ (Value.int .i64 (bHi q (trs S))) = X at *
    have f2 := (Step.put (B := W1.heap.size) (o' := .deferred none) hKX rfl hD).blk e4'
    have z2 := f2.cell 0
    have z3 := f2.cell 1
    simp only [List.getElem?_toArray, List.getElem?_cons_zero, List.getElem?_cons_succ] at z2 z3
    refine ⟨by simp, .inl ⟨_, _, rfl, run_takeDeferred hKX, ?_⟩⟩
    exact ⟨.agg #[(Value.int .i64 (bLo q (trs S))), (Value.int .i64 (bHi q (trs S)))], by simp [results, Try.results61, go_sem, z2, z3], rfl, bl_put hbX hKX hDb⟩
end Go.Proofs.Ytegdnbceiopklaa
