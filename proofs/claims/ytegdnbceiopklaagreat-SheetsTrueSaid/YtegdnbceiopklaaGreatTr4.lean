/- The iterator truths of sheets yields all truths. -/
import Derived.Test.YtegdnbceiopklaaGreatAl4
namespace Go.Proofs.YtegdnbceiopklaaGreat
open Go.RowKit Go.Shelf
attribute [local go_sem] After.cell After.frozen Oper.semAt_some wide_fn wide_depth Fence.inRound_fn Fence.inRound_depth

def truP (S : Sht) (f : Pt) : Bool := decide (wrg S f ≤ S.wrong)
/-- How many of the first k factors are truths. -/
def tcn (S : Sht) (k : Nat) : Nat := cntTo (truP S) (prs S) k
theorem trs_def (S : Sht) : trs S = (prs S).filter (truP S) := rfl
theorem filter_at {α : Type} {p : α → Bool} : ∀ {l : List α} {k : Nat} {x : α}, l[k]? = some x → p x = true → (l.filter p)[((l.take k).filter p).length]? = some x
  | [], k, x, h, _ => by simp at h
  | a :: l, 0, x, h, hp => by
    simp only [List.getElem?_cons_zero, Option.some.injEq] at h
    subst h
    simp [List.filter_cons, hp]
  | a :: l, k + 1, x, h, hp => by
    simp only [List.getElem?_cons_succ] at h
    have ih := filter_at (p := p) h hp
    rw [List.take_succ_cons, List.filter_cons, List.filter_cons]
    cases p a
    · simpa using ih
    · simpa using ih
theorem tcn_get {S : Sht} {k : Nat} {x : Pt} (h : (prs S)[k]? = some x) (hp : truP S x = true) : (trs S)[tcn S k]? = some x := filter_at h hp
theorem tcn_all (S : Sht) : tcn S (prs S).length = (trs S).length := by rw [tcn, cntTo_all, cnt, trs_def]
theorem tcn_succ {S : Sht} {k : Nat} {x : Pt} (h : (prs S)[k]? = some x) : tcn S (k + 1) = tcn S k + (if truP S x = true then 1 else 0) := cntTo_succ h
def TrArg (x : Pt) (args : Array Value) (_ : World) : Prop := args = #[(Value.agg #[.int .i64 x.1, .int .i64 x.2])]

set_option maxRecDepth 100000 in
set_option maxHeartbeats 4000000 in
theorem truths_iter4 (g : Nat) (A : Option Addr) (ca : Nat) (S : Sht) (hS : ShtOk S) :
    IterG Tryz.prog 52 #[.pointer (some ⟨g, 0, none⟩)] #[] TrArg (trs S) (ShKeep g A ca S) := by
  intro lp B J Jx W hB hlW hJb hJs hJxs hY h0
  refine callsIn_of_wp_marks Tryz.func52 rfl trivial ?_ rfl
  simp only [Tryz.ntmps52, List.size_toArray, List.length_cons, List.length_nil, Nat.reduceAdd, Nat.reduceSub, Array.replicate_succ, Array.replicate_zero, List.push_toArray, List.append_toArray, List.nil_append, List.cons_append]
  gi_wp2
  have e2 : Blk ((W.alloc (.cells #[.pointer (some ⟨g, 0, none⟩)] 75)).alloc (.cells #[.func (.yield lp) #[] #[]] 97)) W.heap.size 75 #[.pointer (some ⟨g, 0, none⟩)] := (Blk.new _ _ _).alloc _
  have e3 : Blk ((W.alloc (.cells #[.pointer (some ⟨g, 0, none⟩)] 75)).alloc (.cells #[.func (.yield lp) #[] #[]] 97)) (W.heap.size + 1) 97 #[.func (.yield lp) #[] #[]] := Blk.new_at (by simp)
  have hbW : Below W.heap.size W ((W.alloc (.cells #[.pointer (some ⟨g, 0, none⟩)] 75)).alloc (.cells #[.func (.yield lp) #[] #[]] 97)) := by (repeat (first | with_reducible exact Below.refl _ _ | with_reducible apply bl_alloc | with_reducible apply bl_drew | with_reducible apply bl_after | (with_reducible refine bl_call ?_ (by assumption))))
  have hJ0 := hJs _ _ _ h0 (Step.of_below hbW)
  generalize (W.alloc (.cells #[.pointer (some ⟨g, 0, none⟩)] 75)).alloc (.cells #[.func (.yield lp) #[] #[]] 97) = W1 at e2 e3 hbW hJ0 ⊢
  have hsz := hbW.size
  generalize hg2 : W.heap.size = g2 at *
  refine range_g (gf := 73) (pre := #[.pointer (some ⟨g, 0, none⟩)]) (lb := #[]) rfl (enters_of Tryz.func73 (by kernel_rfl) rfl) (all_iter4 g A ca S hS) (fun x args W h => by rw [show args = _ from h]; rfl)
    (fun k V => J (tcn S k) V ∧ Blk V g2 75 #[.pointer (some ⟨g, 0, none⟩)] ∧ Blk V (g2 + 1) 97 #[.func (.yield lp) #[] #[]])
    (fun c V => c = .ret ∧ Jx V)
    (fun k V V' h hs => ⟨hJs _ _ _ h.1 (hs.mono hsz), hs.blk h.2.1, hs.blk h.2.2⟩)
    (fun c V V' h hs => ⟨h.1, hJxs _ _ h.2 (hs.mono hsz)⟩)
    (fun k V h => hJb _ _ h.1)
    ⟨hJ0, e2, e3⟩ ?round ?done ?stop
  case round =>
    rintro l2 k x args V hx hA hle ⟨r0, hr⟩ ⟨hj, d2, d3⟩
    obtain rfl : args = #[(Value.agg #[.int .i64 x.1.1, .int .i64 x.1.2]), (Value.int .i64 (x.2))] := hA
    have hsk := (hJb _ _ hj).blk
    gi_wp2
    refine ⟨by (repeat (first | with_reducible exact KeepsFrom.refl _ _ | with_reducible apply kf_alloc | with_reducible apply kf_set | with_reducible apply kf_drew | with_reducible apply kf_after | (with_reducible refine kf_call ?_ (by assumption)))), by (repeat (first | with_reducible exact CellsFrom.refl _ _ | with_reducible apply cf_alloc | with_reducible apply cf_drew | with_reducible apply cf_after | (with_reducible refine cf_call ?_ (by assumption)) | (with_reducible refine cf_set (by omega) ?_))), fun r1 r2 hr1 => ?_⟩
    have st := Step.put (o' := .loop r2) hr1 rfl hle
    have hbA : Below V.heap.size V (V.alloc (.cells #[(Value.int .i64 (x.1.1)), (Value.int .i64 (x.1.2))] 80)) := by (repeat (first | with_reducible exact Below.refl _ _ | with_reducible apply bl_alloc | with_reducible apply bl_drew | with_reducible apply bl_after | (with_reducible refine bl_call ?_ (by assumption))))
    have e4 := st.blk (Blk.new V 80 #[(Value.int .i64 (x.1.1)), (Value.int .i64 (x.1.2))])
    have hj2 := hJs _ _ _ (hJs _ _ _ hj (Step.of_below hbA)) (st.mono hsz)
    replace d2 := st.blk (d2.below hbA)
    replace d3 := st.blk (d3.below hbA)
    generalize (V.alloc (.cells #[(Value.int .i64 (x.1.1)), (Value.int .i64 (x.1.2))] 80)).putObj l2 (.loop r2) = V2 at hj2 d2 d3 e4 ⊢
    generalize V.heap.size = g4 at e4 ⊢
    clear st hr1 hbA hj hr hsk
    have hsk := (hJb _ _ hj2).blk
    (have la := hsk.lt); (have ya0 := hsk.cell 0); (have ya1 := hsk.cell 1); (have ya2 := hsk.cell 2); (have ya3 := hsk.cell 3); (have ya4 := hsk.cell 4); (have ya5 := hsk.cell 5); simp only [List.getElem?_toArray, List.getElem?_cons_zero, List.getElem?_cons_succ] at ya0 ya1 ya2 ya3 ya4 ya5
    (have lb := d2.lt); (have yb0 := d2.cell 0); simp only [List.getElem?_toArray, List.getElem?_cons_zero] at yb0
    (have lc := d3.lt); (have yc0 := d3.cell 0); simp only [List.getElem?_toArray, List.getElem?_cons_zero] at yc0
    (have ld := e4.lt); (have yd0 := e4.cell 0); (have yd1 := e4.cell 1); simp only [List.getElem?_toArray, List.getElem?_cons_zero, List.getElem?_cons_succ] at yd0 yd1
    have hkl : k < (prs S).length := by
      have := (List.getElem?_eq_some_iff.1 hx).1
      rwa [alS_len, ← prs_len] at this
    have hx2 : (prs S)[k]? = some x.1 ∧ x.2 = wrg S x.1 := by
      rw [alS, List.getElem?_map] at hx
      cases h : (prs S)[k]? with
      | none => rw [h] at hx; cases hx
      | some y => rw [h] at hx; cases hx; exact ⟨rfl, rfl⟩
    obtain ⟨hp, hw⟩ := hx2
    have hsu := tcn_succ hp
    by_cases ht : x.2 ≤ S.wrong
    · have htp : truP S x.1 = true := decide_eq_true (by rw [← hw]; exact ht)
      rw [if_pos htp] at hsu
      obtain ⟨fn, tmps, assign, body, hy, hR⟩ := hY (tcn S k) x.1 _ V2 (tcn_get hp htp) rfl hj2
      have HR := Lib.hid hR
      replace hsu := Lib.hid hsu
      clear hR hx htp hw hp hj2
      gi_wp2
      refine (roundWide (ro := none) (ro' := some l2) HR.out).mono ?_
      rintro e W3 (⟨rfl, hj3, hcf, hkf⟩ | ⟨rfl, hjx, hkf⟩)
      · gi_wp2
        exact ⟨kf_mono hkf (by omega), hcf.mono (by omega), by rw [hsu.out]; exact hj3, hcf.blk hB d2, hcf.blk (by omega) d3⟩
      · gi_wp2
        exact ⟨kf_mono hkf (by omega), rfl, hjx⟩
    · have htp : ¬ truP S x.1 = true := fun h => ht (by rw [hw]; exact of_decide_eq_true h)
      rw [if_neg htp] at hsu
      replace hsu := Lib.hid hsu
      clear hx htp hw hp
      gi_wp2
      exact ⟨by (repeat (first | with_reducible exact KeepsFrom.refl _ _ | with_reducible apply kf_alloc | with_reducible apply kf_set | with_reducible apply kf_drew | with_reducible apply kf_after | (with_reducible refine kf_call ?_ (by assumption)))), by (repeat (first | with_reducible exact CellsFrom.refl _ _ | with_reducible apply cf_alloc | with_reducible apply cf_drew | with_reducible apply cf_after | (with_reducible refine cf_call ?_ (by assumption)) | (with_reducible refine cf_set (by omega) ?_))), by rw [hsu.out]; exact hj2, d2, d3⟩
  case done =>
    rintro D V hD ⟨hj, d2, d3⟩ hK
    gi_wp2
    refine ⟨by simp, .inl ⟨_, _, rfl, run_takeDeferred hK, ?_⟩⟩
    exact ⟨_, results_none rfl _ _ _, ⟨_, rfl⟩, .inl (by rw [alS_len, ← prs_len, tcn_all] at hj; exact hJs _ _ _ hj (Step.put hK rfl (by omega)))⟩
  case stop =>
    rintro D c V hD ⟨rfl, hjx⟩ hK
    gi_wp2
    refine ⟨by simp, .inl ⟨_, _, rfl, run_takeDeferred hK, ?_⟩⟩
    exact ⟨_, results_none rfl _ _ _, ⟨_, rfl⟩, .inr (hJxs _ _ hjx (Step.put hK rfl (by omega)))⟩
end Go.Proofs.YtegdnbceiopklaaGreat
