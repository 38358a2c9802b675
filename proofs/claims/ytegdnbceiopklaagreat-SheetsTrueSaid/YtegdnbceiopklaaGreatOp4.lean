/- The function open of sheets answers a sheet at work, or the error of a sheet of which something is asked for. -/
import Derived.Test.YtegdnbceiopklaaGreatTr4
import Derived.Laws.EntriesVeiled
namespace Go.Proofs.YtegdnbceiopklaaGreat
open Go.RowKit Go.Shelf
attribute [local go_sem] After.cell After.frozen Oper.semAt_some wide_fn wide_depth Fence.inRound_fn Fence.inRound_depth

theorem bl_setc {w X : World} {b o : Nat} {v : Value} (h : Below w.heap.size w X) (hb : w.heap.size ≤ b) : Below w.heap.size w (X.setCell ⟨b, o, none⟩ v) := h.setCell (p := ⟨b, o, none⟩) hb v
/-- What open hands back: the sheet at work, if there is no error. -/
def OpenR (A : Option Addr) (ca : Nat) (S : Sht) (is : Bool) (w w' : World) (p : Option Addr) : Prop :=
  (opS S is = 0 ∧ ∃ g, p = some ⟨g, 0, none⟩ ∧ ShKeep g A ca S w' ∧ w.heap.size ≤ g) ∨ (opS S is ≠ 0 ∧ p = none)
theorem ShKeep.far {g : Nat} {A : Option Addr} {ca : Nat} {S : Sht} {W : World} (h : ShKeep g A ca S W) {p : Addr} (hg : g ≠ p.block) (hA : ∀ a, A = some a → S.cs ≠ [] → a.block ≠ p.block) (v : Value) : ShKeep g A ca S (W.setCell p v) := by
  refine ⟨h.blk.far hg v, ?_⟩
  rcases h.cts with h0 | ⟨b, o, rfl, hI⟩
  · exact .inl h0
  · by_cases hn : S.cs = []
    · exact .inl hn
    · exact .inr ⟨b, o, rfl, by simpa using hI.lt, fun j u hj => (World.cell?_of_block (Below.heap_setCell W p v b (hA _ rfl hn))).trans (hI.x j u hj)⟩

theorem Blk.alloc2 {w : World} {g : Nat} {t : TypeId} {cs : Array Value} (h : Blk w g t cs) (o o' : Obj) : Blk ((w.alloc o).alloc o') g t cs := (h.alloc o).alloc o'

set_option maxRecDepth 100000 in
set_option maxHeartbeats 4000000 in
theorem open_any4 (A : Option Addr) (ca : Nat) (S : Sht) (is : Bool) (w : World) (ha : Cts w A S.cs) :
    Calls Tryz.prog 38 #[(Value.agg #[(Value.int .i64 (S.xlo)), (Value.int .i64 (S.xhi)), (Value.int .i64 (S.ylo)), (Value.int .i64 (S.yhi)), .slice A S.cs.length ca, (Value.int .i64 (S.wrong))]), .bool is] w fun e w' => (∃ p, e = .returned (.tuple #[.pointer p, (Value.int .i64 (opS S is))]) ∧ OpenR A ca S is w w' p) ∧ Below w.heap.size w w' := by
  have hc := fun (W : World) (h : Below w.heap.size w W) => sCheck_any A ca S W (ha.below h)
  have c2 : Blk (((w.alloc (.cells #[(Value.int .i64 (S.xlo)), (Value.int .i64 (S.xhi)), (Value.int .i64 (S.ylo)), (Value.int .i64 (S.yhi)), .slice A S.cs.length ca, (Value.int .i64 (S.wrong))] 26)).alloc (.cells #[.pointer none] 75)).alloc (.cells #[(Value.int .i64 (0))] 36)) w.heap.size 26 #[(Value.int .i64 (S.xlo)), (Value.int .i64 (S.xhi)), (Value.int .i64 (S.ylo)), (Value.int .i64 (S.yhi)), .slice A S.cs.length ca, (Value.int .i64 (S.wrong))] := ((Blk.new _ _ _).alloc _).alloc _
  have c4 : Blk (((w.alloc (.cells #[(Value.int .i64 (S.xlo)), (Value.int .i64 (S.xhi)), (Value.int .i64 (S.ylo)), (Value.int .i64 (S.yhi)), .slice A S.cs.length ca, (Value.int .i64 (S.wrong))] 26)).alloc (.cells #[.pointer none] 75)).alloc (.cells #[(Value.int .i64 (0))] 36)) (w.heap.size + 1) 75 #[.pointer none] := (Blk.new_at (by simp)).alloc _
  have c5 : Blk (((w.alloc (.cells #[(Value.int .i64 (S.xlo)), (Value.int .i64 (S.xhi)), (Value.int .i64 (S.ylo)), (Value.int .i64 (S.yhi)), .slice A S.cs.length ca, (Value.int .i64 (S.wrong))] 26)).alloc (.cells #[.pointer none] 75)).alloc (.cells #[(Value.int .i64 (0))] 36)) (w.heap.size + 1 + 1) 36 #[(Value.int .i64 (0))] := Blk.new_at (by simp)
  have hb0 : Below w.heap.size w (((w.alloc (.cells #[(Value.int .i64 (S.xlo)), (Value.int .i64 (S.xhi)), (Value.int .i64 (S.ylo)), (Value.int .i64 (S.yhi)), .slice A S.cs.length ca, (Value.int .i64 (S.wrong))] 26)).alloc (.cells #[.pointer none] 75)).alloc (.cells #[(Value.int .i64 (0))] 36)) := by (repeat (first | with_reducible exact Below.refl _ _ | with_reducible apply bl_alloc | with_reducible apply bl_drew | with_reducible apply bl_after | (with_reducible refine bl_call ?_ (by assumption))))
  (have la := c2.lt); (have ya0 := c2.cell 0); (have ya1 := c2.cell 1); (have ya2 := c2.cell 2); (have ya3 := c2.cell 3); (have ya4 := c2.cell 4); (have ya5 := c2.cell 5); simp only [List.getElem?_toArray, List.getElem?_cons_zero, List.getElem?_cons_succ] at ya0 ya1 ya2 ya3 ya4 ya5
  by_cases h0 : shtB S = true
  · rw [chkS, if_pos h0] at hc
    replace hc := Lib.hid hc
    cases is with
    | false =>
      have hE : opS S false = 1 := by rw [opS, if_pos h0]; rfl
      rw [hE]
      replace hE := Lib.hid hE
      go_enter Tryz.func38, Tryz.ntmps38
      go_wp2_with (go_at_call 66; with_reducible refine Calls.mono (hc.out _ (by (repeat (first | with_reducible exact Below.refl _ _ | with_reducible apply bl_alloc | with_reducible apply bl_drew | with_reducible apply bl_after | (with_reducible refine bl_call ?_ (by assumption)))))) ?_; rintro e w1 ⟨rfl, hb1⟩; first | ((with_reducible apply kp_in_step (hb := hb1)); (with_reducible assumption); rintro ⟨hk, hc, hf, hzc, hzf⟩) | ((with_reducible refine kp_in_first hb1 ?_); rintro ⟨hk, hc, hf, hzc, hzf⟩))
      ((replace c4 := c4.below hb1); (replace c5 := c5.below hb1); (have hbV := bl_call hb0 hb1); (have d4 : Blk ((w1.setCell ⟨w.heap.size + 1, 0, none⟩ (.pointer none)).setCell ⟨w.heap.size + 1 + 1, 0, none⟩ (Value.int .i64 (1))) (w.heap.size + 1) 75 #[(.pointer none)] := (by (have h := (c4.set_ 0 (.pointer none)).far (p := ⟨w.heap.size + 1 + 1, 0, none⟩) (by simp) (Value.int .i64 (1))); simpa using h)); (have d5 : Blk ((w1.setCell ⟨w.heap.size + 1, 0, none⟩ (.pointer none)).setCell ⟨w.heap.size + 1 + 1, 0, none⟩ (Value.int .i64 (1))) (w.heap.size + 1 + 1) 36 #[(Value.int .i64 (1))] := (by (have h := (c5.far (p := ⟨w.heap.size + 1, 0, none⟩) (by simp) (.pointer none)).set_ 0 (Value.int .i64 (1))); simpa using h)); (have hbX : Below w.heap.size w ((w1.setCell ⟨w.heap.size + 1, 0, none⟩ (.pointer none)).setCell ⟨w.heap.size + 1 + 1, 0, none⟩ (Value.int .i64 (1))) := bl_setc (bl_setc hbV (by omega)) (by omega)); clear c4 c5 hbV; generalize (w1.setCell ⟨w.heap.size + 1, 0, none⟩ (.pointer none)).setCell ⟨w.heap.size + 1 + 1, 0, none⟩ (Value.int .i64 (1)) = X at d4 d5 hbX ⊢; (have z4 := d4.cell 0); (have z5 := d5.cell 0); simp only [List.getElem?_toArray, List.getElem?_cons_zero] at z4 z5; refine bodyPost_ret (v := .tuple #[.pointer none, (Value.int .i64 (1))]) (by simp [results, Tryz.results38, go_sem, z4, z5]) rfl ⟨⟨none, rfl, .inr ⟨by rw [hE.out]; decide, rfl⟩⟩, hbX⟩)
    | true =>
      have hne1 : trs S ≠ [] → opS S true = 0 := fun h => opS_of h0 rfl h
      have hne2 : trs S = [] → opS S true = 3 := fun h => by rw [opS, if_pos h0, if_pos rfl, if_pos h]
      have hAb : ∀ a, A = some a → S.cs ≠ [] → a.block < w.heap.size := fun a e hn => by
        rcases ha with h | ⟨b, o, e2, hI⟩
        · exact absurd h hn
        · rw [e] at e2; cases e2; exact hI.lt
      refine (callsIn_wide (n := 0)).1 ?_; refine callsIn_of_wp_marks Tryz.func38 rfl trivial ?_ rfl; simp only [Tryz.ntmps38, List.size_toArray, List.length_cons, List.length_nil, Nat.reduceAdd, Nat.reduceSub, Array.replicate_succ, Array.replicate_zero, List.push_toArray, List.append_toArray, List.nil_append, List.cons_append]
      gi_wp2_with (gi_at_call 66; (first | with_reducible refine CallsIn.mono (callsIn_wide.2 (hc.out _ (by (repeat (first | with_reducible exact Below.refl _ _ | with_reducible apply bl_alloc | with_reducible apply bl_drew | with_reducible apply bl_after | (with_reducible refine bl_call ?_ (by assumption))))))) ?_ | with_reducible refine CallsIn.mono (callsIn_rnd (hc.out _ (by (repeat (first | with_reducible exact Below.refl _ _ | with_reducible apply bl_alloc | with_reducible apply bl_drew | with_reducible apply bl_after | (with_reducible refine bl_call ?_ (by assumption))))))) ?_); rintro e w1 ⟨rfl, hb1⟩; first | ((with_reducible apply kp_in_step (hb := hb1)); (with_reducible assumption); rintro ⟨hk, hc, hf, hzc, hzf⟩) | ((with_reducible refine kp_in_first hb1 ?_); rintro ⟨hk, hc, hf, hzc, hzf⟩))
      replace c4 := (c4.below hb1).alloc2 (.cells #[(Value.int .i64 (S.xlo)), (Value.int .i64 (S.xhi)), (Value.int .i64 (S.ylo)), (Value.int .i64 (S.yhi)), .slice A S.cs.length ca, (Value.int .i64 (S.wrong))] 105) (.cells #[.pointer (some ⟨w1.heap.size, 0, none⟩)] 75)
      replace c5 := (c5.below hb1).alloc2 (.cells #[(Value.int .i64 (S.xlo)), (Value.int .i64 (S.xhi)), (Value.int .i64 (S.ylo)), (Value.int .i64 (S.yhi)), .slice A S.cs.length ca, (Value.int .i64 (S.wrong))] 105) (.cells #[.pointer (some ⟨w1.heap.size, 0, none⟩)] 75)
      have hbV0 := bl_call hb0 hb1
      have hbV := bl_alloc (o := .cells #[.pointer (some ⟨w1.heap.size, 0, none⟩)] 75) (bl_alloc (o := .cells #[(Value.int .i64 (S.xlo)), (Value.int .i64 (S.xhi)), (Value.int .i64 (S.ylo)), (Value.int .i64 (S.yhi)), .slice A S.cs.length ca, (Value.int .i64 (S.wrong))] 105) hbV0)
      have c7 : Blk ((w1.alloc (.cells #[(Value.int .i64 (S.xlo)), (Value.int .i64 (S.xhi)), (Value.int .i64 (S.ylo)), (Value.int .i64 (S.yhi)), .slice A S.cs.length ca, (Value.int .i64 (S.wrong))] 105)).alloc (.cells #[.pointer (some ⟨w1.heap.size, 0, none⟩)] 75)) (w1.heap.size + 1) 75 #[.pointer (some ⟨w1.heap.size, 0, none⟩)] := Blk.new_at (by simp)
      have cK : ShKeep w1.heap.size A ca S ((w1.alloc (.cells #[(Value.int .i64 (S.xlo)), (Value.int .i64 (S.xhi)), (Value.int .i64 (S.ylo)), (Value.int .i64 (S.yhi)), .slice A S.cs.length ca, (Value.int .i64 (S.wrong))] 105)).alloc (.cells #[.pointer (some ⟨w1.heap.size, 0, none⟩)] 75)) := ⟨(Blk.new _ _ _).alloc _, ha.below hbV⟩
      have hg1 : w.heap.size + 1 + 1 < w1.heap.size := by have := hb1.size; simp at this; omega
      clear hc hb0 hb1 hk hf hzc hzf c2 la ya0 ya1 ya2 ya3 ya4 ya5 hbV0
      clear hc
      generalize (w1.alloc (.cells #[(Value.int .i64 (S.xlo)), (Value.int .i64 (S.xhi)), (Value.int .i64 (S.ylo)), (Value.int .i64 (S.yhi)), .slice A S.cs.length ca, (Value.int .i64 (S.wrong))] 105)).alloc (.cells #[.pointer (some ⟨w1.heap.size, 0, none⟩)] 75) = W1 at *
      generalize w1.heap.size = g at *
      have n1 : g ≠ w.heap.size + 1 := by omega
      have n2 : g ≠ w.heap.size + 1 + 1 := by omega
      have n3 : g + 1 ≠ w.heap.size + 1 := by omega
      have n4 : g + 1 ≠ w.heap.size + 1 + 1 := by omega
      refine range_g (gf := 52) (pre := #[.pointer (some ⟨g, 0, none⟩)]) (lb := #[]) rfl (enters_of Tryz.func52 (by kernel_rfl) rfl) (truths_iter4 g A ca S (sht_ok h0)) (fun x args W h => by rw [show args = _ from h]; rfl)
        (fun k W => k = 0 ∧ Blk W (w.heap.size + 1) 75 #[.pointer none] ∧ Blk W (w.heap.size + 1 + 1) 36 #[(Value.int .i64 (0))] ∧ Blk W (g + 1) 75 #[.pointer (some ⟨g, 0, none⟩)] ∧ ShKeep g A ca S W ∧ Below w.heap.size w W)
        (fun c W => c = .ret ∧ trs S ≠ [] ∧ Blk W (w.heap.size + 1) 75 #[.pointer (some ⟨g, 0, none⟩)] ∧ Blk W (w.heap.size + 1 + 1) 36 #[(Value.int .i64 (0))] ∧ ShKeep g A ca S W ∧ Below w.heap.size w W)
        (fun k W W' h hs => ⟨h.1, hs.blk h.2.1, hs.blk h.2.2.1, hs.blk h.2.2.2.1, h.2.2.2.2.1.step hs, hs.below h.2.2.2.2.2 hbV.size⟩)
        (fun c W W' h hs => ⟨h.1, h.2.1, hs.blk h.2.2.1, hs.blk h.2.2.2.1, h.2.2.2.2.1.step hs, hs.below h.2.2.2.2.2 hbV.size⟩)
        (fun k W h => h.2.2.2.2.1)
        ⟨rfl, c4, c5, c7, cK, hbV⟩ ?round ?done ?stop
      case round =>
        rintro lp k x args W hx hA hle ⟨r, hr⟩ ⟨rfl, e4, e5, e7, eK, hbk⟩
        obtain rfl : args = #[(Value.agg #[.int .i64 x.1, .int .i64 x.2])] := hA
        gi_wp2
        refine ⟨KeepsFrom.refl _ _, CellsFrom.refl _ _, fun r1 r2 hr1 => ?_⟩
        have st := Step.put (o' := .loop r2) hr1 rfl hle
        replace e4 := st.blk e4
        replace e5 := st.blk e5
        replace e7 := st.blk e7
        replace eK := eK.step st
        replace hbk := st.below hbk hbV.size
        have hne : trs S ≠ [] := fun e => by rw [e] at hx; simp at hx
        generalize W.putObj lp (.loop r2) = W2 at e4 e5 e7 eK hbk ⊢
        clear st hr1 hx hr
        (have la := e4.lt); (have ya0 := e4.cell 0); simp only [List.getElem?_toArray, List.getElem?_cons_zero] at ya0
        (have lb := e5.lt); (have yb0 := e5.cell 0); simp only [List.getElem?_toArray, List.getElem?_cons_zero] at yb0
        (have lc := e7.lt); (have yc0 := e7.cell 0); simp only [List.getElem?_toArray, List.getElem?_cons_zero] at yc0
        have fz4 := e4.frozen 0
        have fz5 := e5.frozen 0
        gi_wp2
        (have d4 : Blk ((W2.setCell ⟨w.heap.size + 1, 0, none⟩ (.pointer (some ⟨g, 0, none⟩))).setCell ⟨w.heap.size + 1 + 1, 0, none⟩ (Value.int .i64 (0))) (w.heap.size + 1) 75 #[(.pointer (some ⟨g, 0, none⟩))] := (by (have h := (e4.set_ 0 (.pointer (some ⟨g, 0, none⟩))).far (p := ⟨w.heap.size + 1 + 1, 0, none⟩) (by simp) (Value.int .i64 (0))); simpa using h)); (have d5 : Blk ((W2.setCell ⟨w.heap.size + 1, 0, none⟩ (.pointer (some ⟨g, 0, none⟩))).setCell ⟨w.heap.size + 1 + 1, 0, none⟩ (Value.int .i64 (0))) (w.heap.size + 1 + 1) 36 #[(Value.int .i64 (0))] := (by (have h := (e5.far (p := ⟨w.heap.size + 1, 0, none⟩) (by simp) (.pointer (some ⟨g, 0, none⟩))).set_ 0 (Value.int .i64 (0))); simpa using h)); (have hbX : Below w.heap.size w ((W2.setCell ⟨w.heap.size + 1, 0, none⟩ (.pointer (some ⟨g, 0, none⟩))).setCell ⟨w.heap.size + 1 + 1, 0, none⟩ (Value.int .i64 (0))) := bl_setc (bl_setc hbk (by omega)) (by omega))
        exact ⟨by (repeat (first | with_reducible exact KeepsFrom.refl _ _ | with_reducible apply kf_alloc | with_reducible apply kf_set | with_reducible apply kf_drew | with_reducible apply kf_after | (with_reducible refine kf_call ?_ (by assumption)))), rfl, hne, d4, d5, (eK.far n1 (fun a e hn => by have := hAb a e hn; simp; omega) _).far n2 (fun a e hn => by have := hAb a e hn; simp; omega) _, hbX⟩
      case done =>
        rintro D W hD ⟨h0, e4, e5, e7, eK, hbk⟩ hK
        have hE := hne2 (List.eq_nil_of_length_eq_zero h0)
        have hE' := Lib.hid hE
        clear hE
        have hD2 : w.heap.size + 1 + 1 < D := by have := e7.lt; have := c7.lt; omega
        (have la := e4.lt); (have ya0 := e4.cell 0); simp only [List.getElem?_toArray, List.getElem?_cons_zero] at ya0
        (have lb := e5.lt); (have yb0 := e5.cell 0); simp only [List.getElem?_toArray, List.getElem?_cons_zero] at yb0
        have fz4 := e4.frozen 0
        have fz5 := e5.frozen 0
        gi_wp2
        (have d4 : Blk ((W.setCell ⟨w.heap.size + 1, 0, none⟩ (.pointer none)).setCell ⟨w.heap.size + 1 + 1, 0, none⟩ (Value.int .i64 (3))) (w.heap.size + 1) 75 #[(.pointer none)] := (by (have h := (e4.set_ 0 (.pointer none)).far (p := ⟨w.heap.size + 1 + 1, 0, none⟩) (by simp) (Value.int .i64 (3))); simpa using h)); (have d5 : Blk ((W.setCell ⟨w.heap.size + 1, 0, none⟩ (.pointer none)).setCell ⟨w.heap.size + 1 + 1, 0, none⟩ (Value.int .i64 (3))) (w.heap.size + 1 + 1) 36 #[(Value.int .i64 (3))] := (by (have h := (e5.far (p := ⟨w.heap.size + 1, 0, none⟩) (by simp) (.pointer none)).set_ 0 (Value.int .i64 (3))); simpa using h)); (have hbX : Below w.heap.size w ((W.setCell ⟨w.heap.size + 1, 0, none⟩ (.pointer none)).setCell ⟨w.heap.size + 1 + 1, 0, none⟩ (Value.int .i64 (3))) := bl_setc (bl_setc hbk (by omega)) (by omega))
        have hKX : ((W.setCell ⟨w.heap.size + 1, 0, none⟩ (.pointer none)).setCell ⟨w.heap.size + 1 + 1, 0, none⟩ (Value.int .i64 (3))).heap[D]? = some (.deferred (some [])) := (KeepsOthers.setCell _ _ _).same _ _ ((KeepsOthers.setCell _ _ _).same _ _ hK rfl) rfl
        generalize (W.setCell ⟨w.heap.size + 1, 0, none⟩ (.pointer none)).setCell ⟨w.heap.size + 1 + 1, 0, none⟩ (Value.int .i64 (3)) = X at d4 d5 hbX hKX ⊢
        have st := Step.put (B := W1.heap.size) (o' := .deferred none) hKX rfl hD
        have f4 := st.blk d4
        have f5 := st.blk d5
        have hbY := bl_put (o' := .deferred none) hbX hKX (by have := hbV.size; omega)
        have z4 := f4.cell 0
        have z5 := f5.cell 0
        simp only [List.getElem?_toArray, List.getElem?_cons_zero] at z4 z5
        refine ⟨by simp, .inl ⟨_, _, rfl, run_takeDeferred hKX, ?_⟩⟩
        exact ⟨.tuple #[.pointer none, (Value.int .i64 (3))], by simp [results, Tryz.results38, go_sem, z4, z5], ⟨⟨none, by rw [hE'.out], .inr ⟨by rw [hE'.out]; decide, rfl⟩⟩, hbY⟩⟩
      case stop =>
        rintro D c W hD ⟨rfl, hne, d4, d5, eK, hbX⟩ hK
        have hE := hne1 hne
        have hE' := Lib.hid hE
        clear hE
        gi_wp2
        have st := Step.put (B := W1.heap.size) (o' := .deferred none) hK rfl hD
        have f4 := st.blk d4
        have f5 := st.blk d5
        have fK := eK.step st
        have hbY := bl_put (o' := .deferred none) hbX hK (by have := hbV.size; omega)
        have z4 := f4.cell 0
        have z5 := f5.cell 0
        simp only [List.getElem?_toArray, List.getElem?_cons_zero] at z4 z5
        refine ⟨by simp, .inl ⟨_, _, rfl, run_takeDeferred hK, ?_⟩⟩
        exact ⟨.tuple #[.pointer (some ⟨g, 0, none⟩), (Value.int .i64 (0))], by simp [results, Tryz.results38, go_sem, z4, z5], ⟨⟨some ⟨g, 0, none⟩, by rw [hE'.out], .inl ⟨hE'.out, g, rfl, fK, by omega⟩⟩, hbY⟩⟩
  · rw [chkS, if_neg h0] at hc
    replace hc := Lib.hid hc
    have hE : opS S is = 40 := by rw [opS, if_neg h0]
    rw [hE]
    replace hE := Lib.hid hE
    go_enter Tryz.func38, Tryz.ntmps38
    go_wp2_with (go_at_call 66; with_reducible refine Calls.mono (hc.out _ (by (repeat (first | with_reducible exact Below.refl _ _ | with_reducible apply bl_alloc | with_reducible apply bl_drew | with_reducible apply bl_after | (with_reducible refine bl_call ?_ (by assumption)))))) ?_; rintro e w1 ⟨rfl, hb1⟩; first | ((with_reducible apply kp_in_step (hb := hb1)); (with_reducible assumption); rintro ⟨hk, hc, hf, hzc, hzf⟩) | ((with_reducible refine kp_in_first hb1 ?_); rintro ⟨hk, hc, hf, hzc, hzf⟩))
    ((replace c4 := c4.below hb1); (replace c5 := c5.below hb1); (have hbV := bl_call hb0 hb1); (have d4 : Blk ((w1.setCell ⟨w.heap.size + 1, 0, none⟩ (.pointer none)).setCell ⟨w.heap.size + 1 + 1, 0, none⟩ (Value.int .i64 (40))) (w.heap.size + 1) 75 #[(.pointer none)] := (by (have h := (c4.set_ 0 (.pointer none)).far (p := ⟨w.heap.size + 1 + 1, 0, none⟩) (by simp) (Value.int .i64 (40))); simpa using h)); (have d5 : Blk ((w1.setCell ⟨w.heap.size + 1, 0, none⟩ (.pointer none)).setCell ⟨w.heap.size + 1 + 1, 0, none⟩ (Value.int .i64 (40))) (w.heap.size + 1 + 1) 36 #[(Value.int .i64 (40))] := (by (have h := (c5.far (p := ⟨w.heap.size + 1, 0, none⟩) (by simp) (.pointer none)).set_ 0 (Value.int .i64 (40))); simpa using h)); (have hbX : Below w.heap.size w ((w1.setCell ⟨w.heap.size + 1, 0, none⟩ (.pointer none)).setCell ⟨w.heap.size + 1 + 1, 0, none⟩ (Value.int .i64 (40))) := bl_setc (bl_setc hbV (by omega)) (by omega)); clear c4 c5 hbV; generalize (w1.setCell ⟨w.heap.size + 1, 0, none⟩ (.pointer none)).setCell ⟨w.heap.size + 1 + 1, 0, none⟩ (Value.int .i64 (40)) = X at d4 d5 hbX ⊢; (have z4 := d4.cell 0); (have z5 := d5.cell 0); simp only [List.getElem?_toArray, List.getElem?_cons_zero] at z4 z5; refine bodyPost_ret (v := .tuple #[.pointer none, (Value.int .i64 (40))]) (by simp [results, Tryz.results38, go_sem, z4, z5]) rfl ⟨⟨none, rfl, .inr ⟨by rw [hE.out]; decide, rfl⟩⟩, hbX⟩)
end Go.Proofs.YtegdnbceiopklaaGreat
