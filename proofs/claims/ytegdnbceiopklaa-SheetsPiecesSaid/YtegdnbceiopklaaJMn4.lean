/- The iterator truths of sheets yields all truths. -/
import Derived.Test.YtegdnbceiopklaaAl4
import Derived.Laws.EntriesVeiled
namespace Go.Proofs.Ytegdnbceiopklaa
open Go.RowKit Go.Shelf
attribute [local go_sem] After.cell After.frozen Oper.semAt_some wide_fn wide_depth Fence.inRound_fn Fence.inRound_depth

def truP (S : Sht) (f : Pt) : Bool := decide (wrg S f ≤ S.wrong)
/-- How many of the first k factors are truths. -/
def tcn (S : Sht) (k : Nat) : Nat := cntTo (truP S) (prs S) k
theorem trs_def (S : Sht) : trs S = (prs S).filter (truP S) := rfl
theorem filter_at {α : Type} {p : α → Bool} : ∀ {l : List α} {k : Nat} {x : α}, l[k]? = some x → p x = true → (l.filter p)[((l.take k).filter p).length]? = some x
  | [], k, x, h, _ => by simp at h
  | a :: l, 0, x, h, hp => by
    simp only [List.getElem?_cons_zero, Option.some.injEq] at h
    subst h
    simp [List.filter_cons, hp]
  | a :: l, k + 1, x, h, hp => by
    simp only [List.getElem?_cons_succ] at h
    have ih := filter_at (p := p) h hp
    rw [List.take_succ_cons, List.filter_cons, List.filter_cons]
    cases p a
    · simpa using ih
    · simpa using ih
theorem tcn_get {S : Sht} {k : Nat} {x : Pt} (h : (prs S)[k]? = some x) (hp : truP S x = true) : (trs S)[tcn S k]? = some x := filter_at h hp
theorem tcn_all (S : Sht) : tcn S (prs S).length = (trs S).length := by rw [tcn, cntTo_all, cnt, trs_def]
theorem tcn_succ {S : Sht} {k : Nat} {x : Pt} (h : (prs S)[k]? = some x) : tcn S (k + 1) = tcn S k + (if truP S x = true then 1 else 0) := cntTo_succ h
def TrArg (x : Pt) (args : Array Value) (_ : World) : Prop := args = #[(Value.agg #[.int .i64 x.1, .int .i64 x.2])]

set_option maxRecDepth 100000 in
set_option maxHeartbeats 4000000 in
theorem truths_iter4 (g : Nat) (A : Option Addr) (ca : Nat) (S : Sht) (hS : ShtOk S) :
    IterG Try.prog 60 #[.pointer (some ⟨g, 0, none⟩)] #[] TrArg (trs S) (ShKeep g A ca S) := by
  intro lp B J Jx W hB hlW hJb hJs hJxs hY h0
  refine callsIn_of_wp_marks Try.func60 rfl trivial ?_ rfl
  simp only [Try.ntmps60, List.size_toArray, List.length_cons, List.length_nil, Nat.reduceAdd, Nat.reduceSub, Array.replicate_succ, Array.replicate_zero, List.push_toArray, List.append_toArray, List.nil_append, List.cons_append]
  gi_wp2
  have e2 : Blk ((W.alloc (.cells #[.pointer (some ⟨g, 0, none⟩)] 83)).alloc (.cells #[.func (.yield lp) #[] #[]] 90)) W.heap.size 83 #[.pointer (some ⟨g, 0, none⟩)] := (Blk.new _ _ _).alloc _
  have e3 : Blk ((W.alloc (.cells #[.pointer (some ⟨g, 0, none⟩)] 83)).alloc (.cells #[.func (.yield lp) #[] #[]] 90)) (W.heap.size + 1) 90 #[.func (.yield lp) #[] #[]] := Blk.new_at (by simp)
  have hbW : Below W.heap.size W ((W.alloc (.cells #[.pointer (some ⟨g, 0, none⟩)] 83)).alloc (.cells #[.func (.yield lp) #[] #[]] 90)) := by (repeat (first | with_reducible exact Below.refl _ _ | with_reducible apply bl_alloc | with_reducible apply bl_drew | with_reducible apply bl_after | (with_reducible refine bl_call ?_ (by assumption))))
  have hJ0 := hJs _ _ _ h0 (Step.of_below hbW)
  generalize (W.alloc (.cells #[.pointer (some ⟨g, 0, none⟩)] 83)).alloc (.cells #[.func (.yield lp) #[] #[]] 90) = W1 at e2 e3 hbW hJ0 ⊢
  have hsz := hbW.size
  generalize hg2 : W.heap.size = g2 at *
  refine range_g (gf := 72) (pre := #[.pointer (some ⟨g, 0, none⟩)]) (lb := #[]) rfl (enters_of Try.func72 (by kernel_rfl) rfl) (all_iter4 g A ca S hS) (fun x args W h => by rw [show args = _ from h]; rfl)
    (fun k V => J (tcn S k) V ∧ Blk V g2 83 #[.pointer (some ⟨g, 0, none⟩)] ∧ Blk V (g2 + 1) 90 #[.func (.yield lp) #[] #[]])
    (fun c V => c = .ret ∧ Jx V)
    (fun k V V' h hs => ⟨hJs _ _ _ h.1 (hs.mono hsz), hs.blk h.2.1, hs.blk h.2.2⟩)
    (fun c V V' h hs => ⟨h.1, hJxs _ _ h.2 (hs.mono hsz)⟩)
    (fun k V h => hJb _ _ h.1)
    ⟨hJ0, e2, e3⟩ ?round ?done ?stop
  case round =>
    rintro l2 k x args V hx hA hle ⟨r0, hr⟩ ⟨hj, d2, d3⟩
    obtain rfl : args = #[(Value.agg #[.int .i64 x.1.1, .int .i64 x.1.2]), (Value.int .i64 (x.2))] := hA
    have hsk := (hJb _ _ hj).blk
    gi_wp2
    refine ⟨by (repeat (first | with_reducible exact KeepsFrom.refl _ _ | with_reducible apply kf_alloc | with_reducible apply kf_set | with_reducible apply kf_drew | with_reducible apply kf_after | (with_reducible refine kf_call ?_ (by assumption)))), by (repeat (first | with_reducible exact CellsFrom.refl _ _ | with_reducible apply cf_alloc | with_reducible apply cf_drew | with_reducible apply cf_after | (with_reducible refine cf_call ?_ (by assumption)) | (with_reducible refine cf_set (by omega) ?_))), fun r1 r2 hr1 => ?_⟩
    have st := Step.put (o' := .loop r2) hr1 rfl hle
    have hbA : Below V.heap.size V (V.alloc (.cells #[(Value.int .i64 (x.1.1)), (Value.int .i64 (x.1.2))] 89)) := by (repeat (first | with_reducible exact Below.refl _ _ | with_reducible apply bl_alloc | with_reducible apply bl_drew | with_reducible apply bl_after | (with_reducible refine bl_call ?_ (by assumption))))
    have e4 := st.blk (Blk.new V 89 #[(Value.int .i64 (x.1.1)), (Value.int .i64 (x.1.2))])
    have hj2 := hJs _ _ _ (hJs _ _ _ hj (Step.of_below hbA)) (st.mono hsz)
    replace d2 := st.blk (d2.below hbA)
    replace d3 := st.blk (d3.below hbA)
    generalize (V.alloc (.cells #[(Value.int .i64 (x.1.1)), (Value.int .i64 (x.1.2))] 89)).putObj l2 (.loop r2) = V2 at hj2 d2 d3 e4 ⊢
    generalize V.heap.size = g4 at e4 ⊢
    clear st hr1 hbA hj hr hsk
    have hsk := (hJb _ _ hj2).blk
    (have la := hsk.lt); (have ya0 := hsk.cell 0); (have ya1 := hsk.cell 1); (have ya2 := hsk.cell 2); (have ya3 := hsk.cell 3); (have ya4 := hsk.cell 4); (have ya5 := hsk.cell 5); simp only [List.getElem?_toArray, List.getElem?_cons_zero, List.getElem?_cons_succ] at ya0 ya1 ya2 ya3 ya4 ya5
    (have lb := d2.lt); (have yb0 := d2.cell 0); simp only [List.getElem?_toArray, List.getElem?_cons_zero] at yb0
    (have lc := d3.lt); (have yc0 := d3.cell 0); simp only [List.getElem?_toArray, List.getElem?_cons_zero] at yc0
    (have ld := e4.lt); (have yd0 := e4.cell 0); (have yd1 := e4.cell 1); simp only [List.getElem?_toArray, List.getElem?_cons_zero, List.getElem?_cons_succ] at yd0 yd1
    have hkl : k < (prs S).length := by
      have := (List.getElem?_eq_some_iff.1 hx).1
      rwa [alS_len, ← prs_len] at this
    have hx2 : (prs S)[k]? = some x.1 ∧ x.2 = wrg S x.1 := by
      rw [alS, List.getElem?_map] at hx
      cases h : (prs S)[k]? with
      | none => rw [h] at hx; cases hx
      | some y => rw [h] at hx; cases hx; exact ⟨rfl, rfl⟩
    obtain ⟨hp, hw⟩ := hx2
    have hsu := tcn_succ hp
    by_cases ht : x.2 ≤ S.wrong
    · have htp : truP S x.1 = true := decide_eq_true (by rw [← hw]; exact ht)
      rw [if_pos htp] at hsu
      obtain ⟨fn, tmps, assign, body, hy, hR⟩ := hY (tcn S k) x.1 _ V2 (tcn_get hp htp) rfl hj2
      have HR := Lib.hid hR
      replace hsu := Lib.hid hsu
      clear hR hx htp hw hp hj2
      gi_wp2
      refine (roundWide (ro := none) (ro' := some l2) HR.out).mono ?_
      rintro e W3 (⟨rfl, hj3, hcf, hkf⟩ | ⟨rfl, hjx, hkf⟩)
      · gi_wp2
        exact ⟨kf_mono hkf (by omega), hcf.mono (by omega), by rw [hsu.out]; exact hj3, hcf.blk hB d2, hcf.blk (by omega) d3⟩
      · gi_wp2
        exact ⟨kf_mono hkf (by omega), rfl, hjx⟩
    · have htp : ¬ truP S x.1 = true := fun h => ht (by rw [hw]; exact of_decide_eq_true h)
      rw [if_neg htp] at hsu
      replace hsu := Lib.hid hsu
      clear hx htp hw hp
      gi_wp2
      exact ⟨by (repeat (first | with_reducible exact KeepsFrom.refl _ _ | with_reducible apply kf_alloc | with_reducible apply kf_set | with_reducible apply kf_drew | with_reducible apply kf_after | (with_reducible refine kf_call ?_ (by assumption)))), by (repeat (first | with_reducible exact CellsFrom.refl _ _ | with_reducible apply cf_alloc | with_reducible apply cf_drew | with_reducible apply cf_after | (with_reducible refine cf_call ?_ (by assumption)) | (with_reducible refine cf_set (by omega) ?_))), by rw [hsu.out]; exact hj2, d2, d3⟩
  case done =>
    rintro D V hD ⟨hj, d2, d3⟩ hK
    gi_wp2
    refine ⟨by simp, .inl ⟨_, _, rfl, run_takeDeferred hK, ?_⟩⟩
    exact ⟨_, results_none rfl _ _ _, ⟨_, rfl⟩, .inl (by rw [alS_len, ← prs_len, tcn_all] at hj; exact hJs _ _ _ hj (Step.put hK rfl (by omega)))⟩
  case stop =>
    rintro D c V hD ⟨rfl, hjx⟩ hK
    gi_wp2
    refine ⟨by simp, .inl ⟨_, _, rfl, run_takeDeferred hK, ?_⟩⟩
    exact ⟨_, results_none rfl _ _ _, ⟨_, rfl⟩, .inr (hJxs _ _ hjx (Step.put hK rfl (by omega)))⟩
end Go.Proofs.Ytegdnbceiopklaa
/- The function open of sheets answers a sheet at work, or the error of a sheet of which something is asked for. -/
namespace Go.Proofs.Ytegdnbceiopklaa
open Go.RowKit Go.Shelf
attribute [local go_sem] After.cell After.frozen Oper.semAt_some wide_fn wide_depth Fence.inRound_fn Fence.inRound_depth

theorem bl_setc {w X : World} {b o : Nat} {v : Value} (h : Below w.heap.size w X) (hb : w.heap.size ≤ b) : Below w.heap.size w (X.setCell ⟨b, o, none⟩ v) := h.setCell (p := ⟨b, o, none⟩) hb v
/-- What open hands back: the sheet at work, if there is no error. -/
def OpenR (A : Option Addr) (ca : Nat) (S : Sht) (is : Bool) (w w' : World) (p : Option Addr) : Prop :=
  (opS S is = 0 ∧ ∃ g, p = some ⟨g, 0, none⟩ ∧ ShKeep g A ca S w' ∧ w.heap.size ≤ g) ∨ (opS S is ≠ 0 ∧ p = none)
theorem ShKeep.far {g : Nat} {A : Option Addr} {ca : Nat} {S : Sht} {W : World} (h : ShKeep g A ca S W) {p : Addr} (hg : g ≠ p.block) (hA : ∀ a, A = some a → S.cs ≠ [] → a.block ≠ p.block) (v : Value) : ShKeep g A ca S (W.setCell p v) := by
  refine ⟨h.blk.far hg v, ?_⟩
  rcases h.cts with h0 | ⟨b, o, rfl, hI⟩
  · exact .inl h0
  · by_cases hn : S.cs = []
    · exact .inl hn
    · exact .inr ⟨b, o, rfl, by simpa using hI.lt, fun j u hj => (World.cell?_of_block (Below.heap_setCell W p v b (hA _ rfl hn))).trans (hI.x j u hj)⟩

theorem Blk.alloc2 {w : World} {g : Nat} {t : TypeId} {cs : Array Value} (h : Blk w g t cs) (o o' : Obj) : Blk ((w.alloc o).alloc o') g t cs := (h.alloc o).alloc o'

set_option maxRecDepth 100000 in
set_option maxHeartbeats 4000000 in
theorem open_any4 (A : Option Addr) (ca : Nat) (S : Sht) (is : Bool) (w : World) (ha : Cts w A S.cs) :
    Calls Try.prog 51 #[(Value.agg #[(Value.int .i64 (S.xlo)), (Value.int .i64 (S.xhi)), (Value.int .i64 (S.ylo)), (Value.int .i64 (S.yhi)), .slice A S.cs.length ca, (Value.int .i64 (S.wrong))]), .bool is] w fun e w' => (∃ p, e = .returned (.tuple #[.pointer p, (Value.int .i64 (opS S is))]) ∧ OpenR A ca S is w w' p) ∧ Below w.heap.size w w' := by
  have hc := fun (W : World) (h : Below w.heap.size w W) => sCheck_any A ca S W (ha.below h)
  have c2 : Blk (((w.alloc (.cells #[(Value.int .i64 (S.xlo)), (Value.int .i64 (S.xhi)), (Value.int .i64 (S.ylo)), (Value.int .i64 (S.yhi)), .slice A S.cs.length ca, (Value.int .i64 (S.wrong))] 26)).alloc (.cells #[.pointer none] 83)).alloc (.cells #[(Value.int .i64 (0))] 33)) w.heap.size 26 #[(Value.int .i64 (S.xlo)), (Value.int .i64 (S.xhi)), (Value.int .i64 (S.ylo)), (Value.int .i64 (S.yhi)), .slice A S.cs.length ca, (Value.int .i64 (S.wrong))] := ((Blk.new _ _ _).alloc _).alloc _
  have c4 : Blk (((w.alloc (.cells #[(Value.int .i64 (S.xlo)), (Value.int .i64 (S.xhi)), (Value.int .i64 (S.ylo)), (Value.int .i64 (S.yhi)), .slice A S.cs.length ca, (Value.int .i64 (S.wrong))] 26)).alloc (.cells #[.pointer none] 83)).alloc (.cells #[(Value.int .i64 (0))] 33)) (w.heap.size + 1) 83 #[.pointer none] := (Blk.new_at (by simp)).alloc _
  have c5 : Blk (((w.alloc (.cells #[(Value.int .i64 (S.xlo)), (Value.int .i64 (S.xhi)), (Value.int .i64 (S.ylo)), (Value.int .i64 (S.yhi)), .slice A S.cs.length ca, (Value.int .i64 (S.wrong))] 26)).alloc (.cells #[.pointer none] 83)).alloc (.cells #[(Value.int .i64 (0))] 33)) (w.heap.size + 1 + 1) 33 #[(Value.int .i64 (0))] := Blk.new_at (by simp)
  have hb0 : Below w.heap.size w (((w.alloc (.cells #[(Value.int .i64 (S.xlo)), (Value.int .i64 (S.xhi)), (Value.int .i64 (S.ylo)), (Value.int .i64 (S.yhi)), .slice A S.cs.length ca, (Value.int .i64 (S.wrong))] 26)).alloc (.cells #[.pointer none] 83)).alloc (.cells #[(Value.int .i64 (0))] 33)) := by (repeat (first | with_reducible exact Below.refl _ _ | with_reducible apply bl_alloc | with_reducible apply bl_drew | with_reducible apply bl_after | (with_reducible refine bl_call ?_ (by assumption))))
  (have la := c2.lt); (have ya0 := c2.cell 0); (have ya1 := c2.cell 1); (have ya2 := c2.cell 2); (have ya3 := c2.cell 3); (have ya4 := c2.cell 4); (have ya5 := c2.cell 5); simp only [List.getElem?_toArray, List.getElem?_cons_zero, List.getElem?_cons_succ] at ya0 ya1 ya2 ya3 ya4 ya5
  by_cases h0 : shtB S = true
  · rw [chkS, if_pos h0] at hc
    replace hc := Lib.hid hc
    cases is with
    | false =>
      have hE : opS S false = 1 := by rw [opS, if_pos h0]; rfl
      rw [hE]
      replace hE := Lib.hid hE
      go_enter Try.func51, Try.ntmps51
      go_wp2_with (go_at_call 28; with_reducible refine Calls.mono (hc.out _ (by (repeat (first | with_reducible exact Below.refl _ _ | with_reducible apply bl_alloc | with_reducible apply bl_drew | with_reducible apply bl_after | (with_reducible refine bl_call ?_ (by assumption)))))) ?_; rintro e w1 ⟨rfl, hb1⟩; first | ((with_reducible apply kp_in_step (hb := hb1)); (with_reducible assumption); rintro ⟨hk, hc, hf, hzc, hzf⟩) | ((with_reducible refine kp_in_first hb1 ?_); rintro ⟨hk, hc, hf, hzc, hzf⟩))
      ((replace c4 := c4.below hb1); (replace c5 := c5.below hb1); (have hbV := bl_call hb0 hb1); (have d4 : Blk ((w1.setCell ⟨w.heap.size + 1, 0, none⟩ (.pointer none)).setCell ⟨w.heap.size + 1 + 1, 0, none⟩ (Value.int .i64 (1))) (w.heap.size + 1) 83 #[(.pointer none)] := (by (have h := (c4.set_ 0 (.pointer none)).far (p := ⟨w.heap.size + 1 + 1, 0, none⟩) (by simp) (Value.int .i64 (1))); simpa using h)); (have d5 : Blk ((w1.setCell ⟨w.heap.size + 1, 0, none⟩ (.pointer none)).setCell ⟨w.heap.size + 1 + 1, 0, none⟩ (Value.int .i64 (1))) (w.heap.size + 1 + 1) 33 #[(Value.int .i64 (1))] := (by (have h := (c5.far (p := ⟨w.heap.size + 1, 0, none⟩) (by simp) (.pointer none)).set_ 0 (Value.int .i64 (1))); simpa using h)); (have hbX : Below w.heap.size w ((w1.setCell ⟨w.heap.size + 1, 0, none⟩ (.pointer none)).setCell ⟨w.heap.size + 1 + 1, 0, none⟩ (Value.int .i64 (1))) := bl_setc (bl_setc hbV (by omega)) (by omega)); clear c4 c5 hbV; generalize (w1.setCell ⟨w.heap.size + 1, 0, none⟩ (.pointer none)).setCell ⟨w.heap.size + 1 + 1, 0, none⟩ (Value.int .i64 (1)) = X at d4 d5 hbX ⊢; (have z4 := d4.cell 0); (have z5 := d5.cell 0); simp only [List.getElem?_toArray, List.getElem?_cons_zero] at z4 z5; refine bodyPost_ret (v := .tuple #[.pointer none, (Value.int .i64 (1))]) (by simp [results, Try.results51, go_sem, z4, z5]) rfl ⟨⟨none, rfl, .inr ⟨by rw [hE.out]; decide, rfl⟩⟩, hbX⟩)
    | true =>
      have hne1 : trs S ≠ [] → opS S true = 0 := fun h => opS_of h0 rfl h
      have hne2 : trs S = [] → opS S true = 3 := fun h => by rw [opS, if_pos h0, if_pos rfl, if_pos h]
      have hAb : ∀ a, A = some a → S.cs ≠ [] → a.block < w.heap.size := fun a e hn => by
        rcases ha with h | ⟨b, o, e2, hI⟩
        · exact absurd h hn
        · rw [e] at e2; cases e2; exact hI.lt
      refine (callsIn_wide (n := 0)).1 ?_; refine callsIn_of_wp_marks Try.func51 rfl trivial ?_ rfl; simp only [Try.ntmps51, List.size_toArray, List.length_cons, List.length_nil, Nat.reduceAdd, Nat.reduceSub, Array.replicate_succ, Array.replicate_zero, List.push_toArray, List.append_toArray, List.nil_append, List.cons_append]
      gi_wp2_with (gi_at_call 28; (first | with_reducible refine CallsIn.mono (callsIn_wide.2 (hc.out _ (by (repeat (first | with_reducible exact Below.refl _ _ | with_reducible apply bl_alloc | with_reducible apply bl_drew | with_reducible apply bl_after | (with_reducible refine bl_call ?_ (by assumption))))))) ?_ | with_reducible refine CallsIn.mono (callsIn_rnd (hc.out _ (by (repeat (first | with_reducible exact Below.refl _ _ | with_reducible apply bl_alloc | with_reducible apply bl_drew | with_reducible apply bl_after | (with_reducible refine bl_call ?_ (by assumption))))))) ?_); rintro e w1 ⟨rfl, hb1⟩; first | ((with_reducible apply kp_in_step (hb := hb1)); (with_reducible assumption); rintro ⟨hk, hc, hf, hzc, hzf⟩) | ((with_reducible refine kp_in_first hb1 ?_); rintro ⟨hk, hc, hf, hzc, hzf⟩))
      replace c4 := (c4.below hb1).alloc2 (.cells #[(Value.int .i64 (S.xlo)), (Value.int .i64 (S.xhi)), (Value.int .i64 (S.ylo)), (Value.int .i64 (S.yhi)), .slice A S.cs.length ca, (Value.int .i64 (S.wrong))] 108) (.cells #[.pointer (some ⟨w1.heap.size, 0, none⟩)] 83)
      replace c5 := (c5.below hb1).alloc2 (.cells #[(Value.int .i64 (S.xlo)), (Value.int .i64 (S.xhi)), (Value.int .i64 (S.ylo)), (Value.int .i64 (S.yhi)), .slice A S.cs.length ca, (Value.int .i64 (S.wrong))] 108) (.cells #[.pointer (some ⟨w1.heap.size, 0, none⟩)] 83)
      have hbV0 := bl_call hb0 hb1
      have hbV := bl_alloc (o := .cells #[.pointer (some ⟨w1.heap.size, 0, none⟩)] 83) (bl_alloc (o := .cells #[(Value.int .i64 (S.xlo)), (Value.int .i64 (S.xhi)), (Value.int .i64 (S.ylo)), (Value.int .i64 (S.yhi)), .slice A S.cs.length ca, (Value.int .i64 (S.wrong))] 108) hbV0)
      have c7 : Blk ((w1.alloc (.cells #[(Value.int .i64 (S.xlo)), (Value.int .i64 (S.xhi)), (Value.int .i64 (S.ylo)), (Value.int .i64 (S.yhi)), .slice A S.cs.length ca, (Value.int .i64 (S.wrong))] 108)).alloc (.cells #[.pointer (some ⟨w1.heap.size, 0, none⟩)] 83)) (w1.heap.size + 1) 83 #[.pointer (some ⟨w1.heap.size, 0, none⟩)] := Blk.new_at (by simp)
      have cK : ShKeep w1.heap.size A ca S ((w1.alloc (.cells #[(Value.int .i64 (S.xlo)), (Value.int .i64 (S.xhi)), (Value.int .i64 (S.ylo)), (Value.int .i64 (S.yhi)), .slice A S.cs.length ca, (Value.int .i64 (S.wrong))] 108)).alloc (.cells #[.pointer (some ⟨w1.heap.size, 0, none⟩)] 83)) := ⟨(Blk.new _ _ _).alloc _, ha.below hbV⟩
      have hg1 : w.heap.size + 1 + 1 < w1.heap.size := by have := hb1.size; simp at this; omega
      clear hc hb0 hb1 hk hf hzc hzf c2 la ya0 ya1 ya2 ya3 ya4 ya5 hbV0
      clear hc
      generalize (w1.alloc (.cells #[(Value.int .i64 (S.xlo)), (Value.int .i64 (S.xhi)), (Value.int .i64 (S.ylo)), (Value.int .i64 (S.yhi)), .slice A S.cs.length ca, (Value.int .i64 (S.wrong))] 108)).alloc (.cells #[.pointer (some ⟨w1.heap.size, 0, none⟩)] 83) = W1 at *
      generalize w1.heap.size = g at *
      have n1 : g ≠ w.heap.size + 1 := by omega
      have n2 : g ≠ w.heap.size + 1 + 1 := by omega
      have n3 : g + 1 ≠ w.heap.size + 1 := by omega
      have n4 : g + 1 ≠ w.heap.size + 1 + 1 := by omega
      refine range_g (gf := 60) (pre := #[.pointer (some ⟨g, 0, none⟩)]) (lb := #[]) rfl (enters_of Try.func60 (by kernel_rfl) rfl) (truths_iter4 g A ca S (sht_ok h0)) (fun x args W h => by rw [show args = _ from h]; rfl)
        (fun k W => k = 0 ∧ Blk W (w.heap.size + 1) 83 #[.pointer none] ∧ Blk W (w.heap.size + 1 + 1) 33 #[(Value.int .i64 (0))] ∧ Blk W (g + 1) 83 #[.pointer (some ⟨g, 0, none⟩)] ∧ ShKeep g A ca S W ∧ Below w.heap.size w W)
        (fun c W => c = .ret ∧ trs S ≠ [] ∧ Blk W (w.heap.size + 1) 83 #[.pointer (some ⟨g, 0, none⟩)] ∧ Blk W (w.heap.size + 1 + 1) 33 #[(Value.int .i64 (0))] ∧ ShKeep g A ca S W ∧ Below w.heap.size w W)
        (fun k W W' h hs => ⟨h.1, hs.blk h.2.1, hs.blk h.2.2.1, hs.blk h.2.2.2.1, h.2.2.2.2.1.step hs, hs.below h.2.2.2.2.2 hbV.size⟩)
        (fun c W W' h hs => ⟨h.1, h.2.1, hs.blk h.2.2.1, hs.blk h.2.2.2.1, h.2.2.2.2.1.step hs, hs.below h.2.2.2.2.2 hbV.size⟩)
        (fun k W h => h.2.2.2.2.1)
        ⟨rfl, c4, c5, c7, cK, hbV⟩ ?round ?done ?stop
      case round =>
        rintro lp k x args W hx hA hle ⟨r, hr⟩ ⟨rfl, e4, e5, e7, eK, hbk⟩
        obtain rfl : args = #[(Value.agg #[.int .i64 x.1, .int .i64 x.2])] := hA
        gi_wp2
        refine ⟨KeepsFrom.refl _ _, CellsFrom.refl _ _, fun r1 r2 hr1 => ?_⟩
        have st := Step.put (o' := .loop r2) hr1 rfl hle
        replace e4 := st.blk e4
        replace e5 := st.blk e5
        replace e7 := st.blk e7
        replace eK := eK.step st
        replace hbk := st.below hbk hbV.size
        have hne : trs S ≠ [] := fun e => by rw [e] at hx; simp at hx
        generalize W.putObj lp (.loop r2) = W2 at e4 e5 e7 eK hbk ⊢
        clear st hr1 hx hr
        (have la := e4.lt); (have ya0 := e4.cell 0); simp only [List.getElem?_toArray, List.getElem?_cons_zero] at ya0
        (have lb := e5.lt); (have yb0 := e5.cell 0); simp only [List.getElem?_toArray, List.getElem?_cons_zero] at yb0
        (have lc := e7.lt); (have yc0 := e7.cell 0); simp only [List.getElem?_toArray, List.getElem?_cons_zero] at yc0
        have fz4 := e4.frozen 0
        have fz5 := e5.frozen 0
        gi_wp2
        (have d4 : Blk ((W2.setCell ⟨w.heap.size + 1, 0, none⟩ (.pointer (some ⟨g, 0, none⟩))).setCell ⟨w.heap.size + 1 + 1, 0, none⟩ (Value.int .i64 (0))) (w.heap.size + 1) 83 #[(.pointer (some ⟨g, 0, none⟩))] := (by (have h := (e4.set_ 0 (.pointer (some ⟨g, 0, none⟩))).far (p := ⟨w.heap.size + 1 + 1, 0, none⟩) (by simp) (Value.int .i64 (0))); simpa using h)); (have d5 : Blk ((W2.setCell ⟨w.heap.size + 1, 0, none⟩ (.pointer (some ⟨g, 0, none⟩))).setCell ⟨w.heap.size + 1 + 1, 0, none⟩ (Value.int .i64 (0))) (w.heap.size + 1 + 1) 33 #[(Value.int .i64 (0))] := (by (have h := (e5.far (p := ⟨w.heap.size + 1, 0, none⟩) (by simp) (.pointer (some ⟨g, 0, none⟩))).set_ 0 (Value.int .i64 (0))); simpa using h)); (have hbX : Below w.heap.size w ((W2.setCell ⟨w.heap.size + 1, 0, none⟩ (.pointer (some ⟨g, 0, none⟩))).setCell ⟨w.heap.size + 1 + 1, 0, none⟩ (Value.int .i64 (0))) := bl_setc (bl_setc hbk (by omega)) (by omega))
        exact ⟨by (repeat (first | with_reducible exact KeepsFrom.refl _ _ | with_reducible apply kf_alloc | with_reducible apply kf_set | with_reducible apply kf_drew | with_reducible apply kf_after | (with_reducible refine kf_call ?_ (by assumption)))), rfl, hne, d4, d5, (eK.far n1 (fun a e hn => by have := hAb a e hn; simp; omega) _).far n2 (fun a e hn => by have := hAb a e hn; simp; omega) _, hbX⟩
      case done =>
        rintro D W hD ⟨h0, e4, e5, e7, eK, hbk⟩ hK
        have hE := hne2 (List.eq_nil_of_length_eq_zero h0)
        have hE' := Lib.hid hE
        clear hE
        have hD2 : w.heap.size + 1 + 1 < D := by have := e7.lt; have := c7.lt; omega
        (have la := e4.lt); (have ya0 := e4.cell 0); simp only [List.getElem?_toArray, List.getElem?_cons_zero] at ya0
        (have lb := e5.lt); (have yb0 := e5.cell 0); simp only [List.getElem?_toArray, List.getElem?_cons_zero] at yb0
        have fz4 := e4.frozen 0
        have fz5 := e5.frozen 0
        gi_wp2
        (have d4 : Blk ((W.setCell ⟨w.heap.size + 1, 0, none⟩ (.pointer none)).setCell ⟨w.heap.size + 1 + 1, 0, none⟩ (Value.int .i64 (3))) (w.heap.size + 1) 83 #[(.pointer none)] := (by (have h := (e4.set_ 0 (.pointer none)).far (p := ⟨w.heap.size + 1 + 1, 0, none⟩) (by simp) (Value.int .i64 (3))); simpa using h)); (have d5 : Blk ((W.setCell ⟨w.heap.size + 1, 0, none⟩ (.pointer none)).setCell ⟨w.heap.size + 1 + 1, 0, none⟩ (Value.int .i64 (3))) (w.heap.size + 1 + 1) 33 #[(Value.int .i64 (3))] := (by (have h := (e5.far (p := ⟨w.heap.size + 1, 0, none⟩) (by simp) (.pointer none)).set_ 0 (Value.int .i64 (3))); simpa using h)); (have hbX : Below w.heap.size w ((W.setCell ⟨w.heap.size + 1, 0, none⟩ (.pointer none)).setCell ⟨w.heap.size + 1 + 1, 0, none⟩ (Value.int .i64 (3))) := bl_setc (bl_setc hbk (by omega)) (by omega))
        have hKX : ((W.setCell ⟨w.heap.size + 1, 0, none⟩ (.pointer none)).setCell ⟨w.heap.size + 1 + 1, 0, none⟩ (Value.int .i64 (3))).heap[D]? = some (.deferred (some [])) := (KeepsOthers.setCell _ _ _).same _ _ ((KeepsOthers.setCell _ _ _).same _ _ hK rfl) rfl
        generalize (W.setCell ⟨w.heap.size + 1, 0, none⟩ (.pointer none)).setCell ⟨w.heap.size + 1 + 1, 0, none⟩ (Value.int .i64 (3)) = X at d4 d5 hbX hKX ⊢
        have st := Step.put (B := W1.heap.size) (o' := .deferred none) hKX rfl hD
        have f4 := st.blk d4
        have f5 := st.blk d5
        have hbY := bl_put (o' := .deferred none) hbX hKX (by have := hbV.size; omega)
        have z4 := f4.cell 0
        have z5 := f5.cell 0
        simp only [List.getElem?_toArray, List.getElem?_cons_zero] at z4 z5
        refine ⟨by simp, .inl ⟨_, _, rfl, run_takeDeferred hKX, ?_⟩⟩
        exact ⟨.tuple #[.pointer none, (Value.int .i64 (3))], by simp [results, Try.results51, go_sem, z4, z5], ⟨⟨none, by rw [hE'.out], .inr ⟨by rw [hE'.out]; decide, rfl⟩⟩, hbY⟩⟩
      case stop =>
        rintro D c W hD ⟨rfl, hne, d4, d5, eK, hbX⟩ hK
        have hE := hne1 hne
        have hE' := Lib.hid hE
        clear hE
        gi_wp2
        have st := Step.put (B := W1.heap.size) (o' := .deferred none) hK rfl hD
        have f4 := st.blk d4
        have f5 := st.blk d5
        have fK := eK.step st
        have hbY := bl_put (o' := .deferred none) hbX hK (by have := hbV.size; omega)
        have z4 := f4.cell 0
        have z5 := f5.cell 0
        simp only [List.getElem?_toArray, List.getElem?_cons_zero] at z4 z5
        refine ⟨by simp, .inl ⟨_, _, rfl, run_takeDeferred hK, ?_⟩⟩
        exact ⟨.tuple #[.pointer (some ⟨g, 0, none⟩), (Value.int .i64 (0))], by simp [results, Try.results51, go_sem, z4, z5], ⟨⟨some ⟨g, 0, none⟩, by rw [hE'.out], .inl ⟨hE'.out, g, rfl, fK, by omega⟩⟩, hbY⟩⟩
  · rw [chkS, if_neg h0] at hc
    replace hc := Lib.hid hc
    have hE : opS S is = 40 := by rw [opS, if_neg h0]
    rw [hE]
    replace hE := Lib.hid hE
    go_enter Try.func51, Try.ntmps51
    go_wp2_with (go_at_call 28; with_reducible refine Calls.mono (hc.out _ (by (repeat (first | with_reducible exact Below.refl _ _ | with_reducible apply bl_alloc | with_reducible apply bl_drew | with_reducible apply bl_after | (with_reducible refine bl_call ?_ (by assumption)))))) ?_; rintro e w1 ⟨rfl, hb1⟩; first | ((with_reducible apply kp_in_step (hb := hb1)); (with_reducible assumption); rintro ⟨hk, hc, hf, hzc, hzf⟩) | ((with_reducible refine kp_in_first hb1 ?_); rintro ⟨hk, hc, hf, hzc, hzf⟩))
    ((replace c4 := c4.below hb1); (replace c5 := c5.below hb1); (have hbV := bl_call hb0 hb1); (have d4 : Blk ((w1.setCell ⟨w.heap.size + 1, 0, none⟩ (.pointer none)).setCell ⟨w.heap.size + 1 + 1, 0, none⟩ (Value.int .i64 (40))) (w.heap.size + 1) 83 #[(.pointer none)] := (by (have h := (c4.set_ 0 (.pointer none)).far (p := ⟨w.heap.size + 1 + 1, 0, none⟩) (by simp) (Value.int .i64 (40))); simpa using h)); (have d5 : Blk ((w1.setCell ⟨w.heap.size + 1, 0, none⟩ (.pointer none)).setCell ⟨w.heap.size + 1 + 1, 0, none⟩ (Value.int .i64 (40))) (w.heap.size + 1 + 1) 33 #[(Value.int .i64 (40))] := (by (have h := (c5.far (p := ⟨w.heap.size + 1, 0, none⟩) (by simp) (.pointer none)).set_ 0 (Value.int .i64 (40))); simpa using h)); (have hbX : Below w.heap.size w ((w1.setCell ⟨w.heap.size + 1, 0, none⟩ (.pointer none)).setCell ⟨w.heap.size + 1 + 1, 0, none⟩ (Value.int .i64 (40))) := bl_setc (bl_setc hbV (by omega)) (by omega)); clear c4 c5 hbV; generalize (w1.setCell ⟨w.heap.size + 1, 0, none⟩ (.pointer none)).setCell ⟨w.heap.size + 1 + 1, 0, none⟩ (Value.int .i64 (40)) = X at d4 d5 hbX ⊢; (have z4 := d4.cell 0); (have z5 := d5.cell 0); simp only [List.getElem?_toArray, List.getElem?_cons_zero] at z4 z5; refine bodyPost_ret (v := .tuple #[.pointer none, (Value.int .i64 (40))]) (by simp [results, Try.results51, go_sem, z4, z5]) rfl ⟨⟨none, rfl, .inr ⟨by rw [hE.out]; decide, rfl⟩⟩, hbX⟩)
end Go.Proofs.Ytegdnbceiopklaa
/- The functions Many and Fewest of sheets answer the number of truths, and the least number of wrong controls. -/
namespace Go.Proofs.Ytegdnbceiopklaa
open Go.RowKit Go.Shelf
attribute [local go_sem] After.cell After.frozen Oper.semAt_some wide_fn wide_depth Fence.inRound_fn Fence.inRound_depth

theorem prs_bd {S : Sht} (hS : ShtOk S) : (prs S).length ≤ 100000 := by
  rw [prs_len]
  have := hS.x0; have := hS.x2; have := hS.y0; have := hS.y2
  have h1 : nX S ≤ 201 := by unfold nX; omega
  have h2 : nY S ≤ 201 := by unfold nY; omega
  exact Nat.le_trans (Nat.mul_le_mul h1 h2) (by decide)
theorem trs_bd {S : Sht} (hS : ShtOk S) : (trs S).length ≤ 100000 := Nat.le_trans (List.length_filter_le _ _) (prs_bd hS)
theorem Blk.ne_type {w : World} {g g' : Nat} {t t' : TypeId} {cs cs' : Array Value} (h : Blk w g t cs) (h' : Blk w g' t' cs') (ht : t ≠ t') : g ≠ g' := by
  rintro rfl
  have h1 := h.symm.trans h'
  rw [Option.some.injEq, Obj.cells.injEq] at h1
  exact ht h1.2.1
def CtsLow (A : Option Addr) (S : Sht) (B : Nat) : Prop := ∀ a, A = some a → S.cs ≠ [] → a.block < B
theorem cts_low {A : Option Addr} {S : Sht} {w : World} (ha : Cts w A S.cs) : CtsLow A S w.heap.size := fun a e hn => by
  rcases ha with h | ⟨b, o, e2, hI⟩
  · exact absurd h hn
  · rw [e] at e2; cases e2; exact hI.lt
theorem ShKeep.set {g : Nat} {A : Option Addr} {ca : Nat} {S : Sht} {W : World} {B : Nat} (h : ShKeep g A ca S W) (hL : CtsLow A S B) {p : Addr} (hg : g ≠ p.block) (hB : B ≤ p.block) (v : Value) : ShKeep g A ca S (W.setCell p v) :=
  h.far hg (fun a e hn => Nat.ne_of_lt (Nat.lt_of_lt_of_le (hL a e hn) hB)) v
def mnS (S : Sht) : Int := if opS S true = 0 then ((trs S).length : Int) else 0
set_option maxRecDepth 100000 in
set_option maxHeartbeats 4000000 in
theorem Many_any4 (A : Option Addr) (ca : Nat) (S : Sht) (w : World) (ha : Cts w A S.cs) :
    Calls Try.prog 22 #[(Value.agg #[(Value.int .i64 (S.xlo)), (Value.int .i64 (S.xhi)), (Value.int .i64 (S.ylo)), (Value.int .i64 (S.yhi)), .slice A S.cs.length ca, (Value.int .i64 (S.wrong))])] w fun e w' => e = .returned (.tuple #[(Value.int .i64 (mnS S)), (Value.int .i64 (opS S true))]) ∧ Below w.heap.size w w' := by
  have hc := Lib.hid fun (W : World) (h : Below w.heap.size w W) => open_any4 A ca S true W (ha.below h)
  have c1 : Blk ((w.alloc (.cells #[(Value.int .i64 (S.xlo)), (Value.int .i64 (S.xhi)), (Value.int .i64 (S.ylo)), (Value.int .i64 (S.yhi)), .slice A S.cs.length ca, (Value.int .i64 (S.wrong))] 26)).alloc (.cells #[(Value.int .i64 (0))] 3)) w.heap.size 26 #[(Value.int .i64 (S.xlo)), (Value.int .i64 (S.xhi)), (Value.int .i64 (S.ylo)), (Value.int .i64 (S.yhi)), .slice A S.cs.length ca, (Value.int .i64 (S.wrong))] := (Blk.new _ _ _).alloc _
  have c2 : Blk ((w.alloc (.cells #[(Value.int .i64 (S.xlo)), (Value.int .i64 (S.xhi)), (Value.int .i64 (S.ylo)), (Value.int .i64 (S.yhi)), .slice A S.cs.length ca, (Value.int .i64 (S.wrong))] 26)).alloc (.cells #[(Value.int .i64 (0))] 3)) (w.heap.size + 1) 3 #[(Value.int .i64 (0))] := Blk.new_at (by simp)
  have hb0 : Below w.heap.size w ((w.alloc (.cells #[(Value.int .i64 (S.xlo)), (Value.int .i64 (S.xhi)), (Value.int .i64 (S.ylo)), (Value.int .i64 (S.yhi)), .slice A S.cs.length ca, (Value.int .i64 (S.wrong))] 26)).alloc (.cells #[(Value.int .i64 (0))] 3)) := by (repeat (first | with_reducible exact Below.refl _ _ | with_reducible apply bl_alloc | with_reducible apply bl_drew | with_reducible apply bl_after | (with_reducible refine bl_call ?_ (by assumption))))
  (have la := c1.lt); (have ya0 := c1.cell 0); (have ya1 := c1.cell 1); (have ya2 := c1.cell 2); (have ya3 := c1.cell 3); (have ya4 := c1.cell 4); (have ya5 := c1.cell 5); simp only [List.getElem?_toArray, List.getElem?_cons_zero, List.getElem?_cons_succ] at ya0 ya1 ya2 ya3 ya4 ya5
  by_cases h0 : opS S true = 0
  · have hS := sht_ok (opS_zero h0).1
    have hE : mnS S = ((trs S).length : Int) := if_pos h0
    rw [hE]
    clear hE
    have h0' := Lib.hid h0
    have hlen := trs_bd hS
    have hL := cts_low ha
    rw [h0] at hc ⊢
    clear h0
    refine (callsIn_wide (n := 0)).1 ?_; refine callsIn_of_wp_marks Try.func22 rfl trivial ?_ rfl; simp only [Try.ntmps22, List.size_toArray, List.length_cons, List.length_nil, Nat.reduceAdd, Nat.reduceSub, Array.replicate_succ, Array.replicate_zero, List.push_toArray, List.append_toArray, List.nil_append, List.cons_append]
    gi_wp2_with ((gi_at_call 51); (with_reducible refine CallsIn.mono (callsIn_wide.2 (hc.out _ (by (repeat (first | with_reducible exact Below.refl _ _ | with_reducible apply bl_alloc | with_reducible apply bl_drew | with_reducible apply bl_after | (with_reducible refine bl_call ?_ (by assumption))))))) ?_); rintro e w1 ⟨⟨p, rfl, hO⟩, hb1⟩)
    have hO' : ∃ g, p = some ⟨g, 0, none⟩ ∧ ShKeep g A ca S w1 := by
      rcases hO with ⟨_, g, e, hk, _⟩ | ⟨h, _⟩
      · exact ⟨g, e, hk⟩
      · exact absurd h0'.out h
    obtain ⟨g, rfl, cK⟩ := hO'
    replace c2 := c2.below hb1
    have hbW := bl_call hb0 hb1
    clear hO hc hb0 hb1 c1 la ya0 ya1 ya2 ya3 ya4 ya5
    generalize hg2 : w.heap.size + 1 = g2 at *
    have hg : w.heap.size ≤ g2 := by omega
    refine range_g (gf := 60) (pre := #[.pointer (some ⟨g, 0, none⟩)]) (lb := #[]) rfl (enters_of Try.func60 (by kernel_rfl) rfl) (truths_iter4 g A ca S hS) (fun x args W h => by rw [show args = _ from h]; rfl)
      (fun k W => Blk W g2 3 #[(Value.int .i64 ((k : Int)))] ∧ ShKeep g A ca S W ∧ Below w.heap.size w W)
      (fun _ _ => False)
      (fun k W W' h hs => ⟨hs.blk h.1, h.2.1.step hs, hs.below h.2.2 hbW.size⟩)
      (fun _ _ _ h _ => h)
      (fun k W h => h.2.1)
      ⟨c2, cK, hbW⟩ ?round ?done (fun _ _ _ _ h _ => h.elim)
    case round =>
      rintro lp k x args W hx hA hle ⟨r, hr⟩ ⟨e2, eK, hbk⟩
      obtain rfl : args = #[(Value.agg #[.int .i64 x.1, .int .i64 x.2])] := hA
      gi_wp2
      refine ⟨KeepsFrom.refl _ _, CellsFrom.refl _ _, fun r1 r2 hr1 => ?_⟩
      have st := Step.put (o' := .loop r2) hr1 rfl hle
      replace e2 := st.blk e2
      replace eK := eK.step st
      replace hbk := st.below hbk hbW.size
      have hkl : k < (trs S).length := (List.getElem?_eq_some_iff.1 hx).1
      have hgk := eK.blk.ne_type e2 (by decide)
      generalize W.putObj lp (.loop r2) = W2 at e2 eK hbk ⊢
      clear st hr1 hx hr
      (have la := e2.lt); (have ya0 := e2.cell 0); simp only [List.getElem?_toArray, List.getElem?_cons_zero] at ya0
      have fz := e2.frozen 0
      have l2 := c2.lt
      gi_wp2
      refine ⟨by (repeat (first | with_reducible exact KeepsFrom.refl _ _ | with_reducible apply kf_alloc | with_reducible apply kf_set | with_reducible apply kf_drew | with_reducible apply kf_after | (with_reducible refine kf_call ?_ (by assumption)))), by (repeat (first | with_reducible exact CellsFrom.refl _ _ | with_reducible apply cf_alloc | with_reducible apply cf_drew | with_reducible apply cf_after | (with_reducible refine cf_call ?_ (by assumption)) | (with_reducible refine cf_set (by simp; omega) ?_))), ?_, eK.set hL hgk hg _, bl_setc hbk hg⟩
      have h := e2.set_ 0 (Value.int .i64 (((k + 1 : Nat) : Int)))
      simpa using h
    case done =>
      rintro D W hD ⟨e2, eK, hbk⟩ hK
      (have la := e2.lt); (have ya0 := e2.cell 0); simp only [List.getElem?_toArray, List.getElem?_cons_zero] at ya0
      have fz := e2.frozen 0
      have l2 := c2.lt
      gi_wp2
      have e2' : Blk (W.setCell ⟨g2, 0, none⟩ (Value.int .i64 (((trs S).length : Int)))) g2 3 #[(Value.int .i64 (((trs S).length : Int)))] := by
        have h := e2.set_ 0 (Value.int .i64 (((trs S).length : Int)))
        simpa using h
      have hKX := (KeepsOthers.setCell W ⟨g2, 0, none⟩ (Value.int .i64 (((trs S).length : Int)))).same _ _ hK rfl
      have hbX : Below w.heap.size w (W.setCell ⟨g2, 0, none⟩ (Value.int .i64 (((trs S).length : Int)))) := bl_setc hbk hg
      generalize W.setCell ⟨g2, 0, none⟩ (Value.int .i64 (((trs S).length : Int))) = X at e2' hKX hbX ⊢
      have f2 := (Step.put (B := w1.heap.size) (o' := .deferred none) hKX rfl hD).blk e2'
      have z2 := f2.cell 0
      simp only [List.getElem?_toArray, List.getElem?_cons_zero] at z2
      refine ⟨by simp, .inl ⟨_, _, rfl, run_takeDeferred hKX, ?_⟩⟩
      exact ⟨.tuple #[(Value.int .i64 (((trs S).length : Int))), (Value.int .i64 (0))], by simp [results, Try.results22, go_sem, z2], rfl, bl_put hbX hKX (by have := hbW.size; omega)⟩
  · have hE : mnS S = 0 := if_neg h0
    rw [hE]
    clear hE
    have h1 : (opS S true != 0) = true := by rw [bne_iff_ne]; exact h0
    clear h0
    go_enter Try.func22, Try.ntmps22
    go_wp2_with ((go_at_call 51); (with_reducible refine Calls.mono (hc.out _ (by (repeat (first | with_reducible exact Below.refl _ _ | with_reducible apply bl_alloc | with_reducible apply bl_drew | with_reducible apply bl_after | (with_reducible refine bl_call ?_ (by assumption)))))) ?_); rintro e w1 ⟨⟨p, rfl, hO⟩, hb1⟩; first | ((with_reducible apply kp_in_step (hb := hb1)); (with_reducible assumption); rintro ⟨hk, hc, hf, hzc, hzf⟩) | ((with_reducible refine kp_in_first hb1 ?_); rintro ⟨hk, hc, hf, hzc, hzf⟩))
    have e2' : Blk (w1.setCell ⟨w.heap.size + 1, 0, none⟩ (Value.int .i64 (0))) (w.heap.size + 1) 3 #[(Value.int .i64 (0))] := by
      have h := (c2.below hb1).set_ 0 (Value.int .i64 (0))
      simpa using h
    have hbX : Below w.heap.size w (w1.setCell ⟨w.heap.size + 1, 0, none⟩ (Value.int .i64 (0))) := bl_setc (bl_call hb0 hb1) (by omega)
    generalize w1.setCell ⟨w.heap.size + 1, 0, none⟩ (Value.int .i64 (0)) = X at e2' hbX ⊢
    have z2 := e2'.cell 0
    simp only [List.getElem?_toArray, List.getElem?_cons_zero] at z2
    refine bodyPost_ret (v := .tuple #[(Value.int .i64 (0)), (Value.int .i64 (opS S true))]) (by simp [results, Try.results22, go_sem, z2]) rfl ⟨rfl, hbX⟩
end Go.Proofs.Ytegdnbceiopklaa
