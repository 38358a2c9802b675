/- The law WalksCut answers true where the points are no walk, or the two numbers no places of it; appends to points that a walk owns. -/
import Derived.Test.YtfgplmgkejeoiaaQc
import Derived.Test.YtfgplmgkejeoiaaPth
import Derived.Test.YtfgplmgkejeoiaaWorks5
import Derived.Test.YtfgplmgkejeoiaaApp5
import Derived.Test.YtfgplmgkejeoiaaCop
namespace Go.Proofs.Ytfgplmgkejeoiaa
open Go.ChangeShapes Go.WideShapes Go.RowKit
attribute [local go_sem] After.cell After.frozen

theorem PtsAt.sub {w : World} {b o : Nat} {l : List Pt} (h : PtsAt w b o l) (k n : Nat) : PtsAt w b (o + k * 2) ((l.drop k).take n) := by
  have e : ∀ i p, ((l.drop k).take n)[i]? = some p → l[k + i]? = some p := fun i p hi => by
    rw [List.getElem?_take] at hi
    split at hi
    · rwa [List.getElem?_drop] at hi
    · cases hi
  refine ⟨h.lt, fun i p hi => ?_, fun i p hi => ?_⟩
  · have := h.x _ p (e i p hi)
    rw [show o + k * 2 + i * 2 = o + (k + i) * 2 by omega]
    exact this
  · have := h.y _ p (e i p hi)
    rw [show o + k * 2 + i * 2 + 1 = o + (k + i) * 2 + 1 by omega]
    exact this

theorem wpList_copy_n {ops : Array Oper} {rest : List Oper} {o : Oper} {a : Act} {X : World} {Q : Exit → Act → World → Prop} (hgd : o.guard = none) (s x : Operand) (ho : o.op = .call { callee := .builtin .append, args := #[s, x], argTypes := #[22, 22] })
    (B : Option Addr) (cb n : Nat) (m : List Pt) (hn : m.length = n) (hs : a.eval s = .slice (some ⟨X.heap.size, 0, none⟩) 0 0) (hx : a.eval x = .slice B n cb) (hc : B = none → cb = 0) (hP : Pts X B m) (hl : m.length ≤ 1000000)
    (h : ∀ A' ca' w', Pts w' A' m → Below X.heap.size X w' → (A' = none → ca' = 0) → wpList Try.prog ops Q rest (a.put o.dst (.slice A' n ca')) w') : wpList Try.prog ops Q (o :: rest) a (X.alloc (.cells #[] 31)) := by
  subst hn
  exact wpList_copy_pts hgd s x ho B cb m hs hx hc hP hl h
theorem area_n {A : Option Addr} {ca n : Nat} {m : List Pt} {w : World} (hn : m.length = n) (ha : Pts w A m) (hw : walkB m = true) :
    Calls Try.prog 15 #[.slice A n ca] w fun e w' => e = .returned (.tuple #[(Value.int .i64 (dbl m)), (Value.int .i64 (0))]) ∧ Below w.heap.size w w' := by
  subst hn
  have h := wArea_any A ca m w ha (by have := walkB_bd hw; omega)
  rw [arV, arE, if_pos hw, if_pos hw] at h
  exact h
theorem walkB_of {l m : List Pt} (hl : walkB l = true) (h1 : 1 ≤ m.length) (h8 : m.length ≤ 8) (h : ∀ p ∈ m, p ∈ l ∨ isPt p = true) : walkB m = true := by
  simp only [walkB, arePts, within, Bool.and_eq_true, decide_eq_true_eq, List.all_eq_true] at hl ⊢
  refine ⟨fun p hp => ?_, by omega, by omega⟩
  rcases h p hp with h | h
  · exact hl.1 p h
  · exact h
theorem own_parts_n {w : World} {B n : Nat} {v : Value} {l : List Pt} (h : w.ownsRow B 31 2 v n (ptsV l)) : ∃ A ca, v = .slice A n ca ∧ Pts w A l := by
  obtain ⟨hn, A, ca, hv, hP⟩ := own_parts h
  exact ⟨A, ca, by rw [hv, hn], hP⟩
/-- An append of points in memory to points that the walk owns, as one step. -/
theorem app_pts {o : Oper} {a : Act} {K : Act → World → Prop} {Q : Exit → Act → World → Prop} {w0 X : World} (s x : Operand) (ho : o.op = .call { callee := .builtin .append, args := #[s, x], argTypes := #[22, 22] })
    (hb : Below w0.heap.size w0 X) (v : Value) (n : Nat) (l : List Pt) (hs : a.eval s = v) (hown : X.ownsRow w0.heap.size 31 2 v n (ptsV l)) (b o' c k : Nat) (m : List Pt) (hk : m.length = k) (hx : a.eval x = .slice (some ⟨b, o', none⟩) k c) (hP : PtsAt X b o' m) (hl : n + k ≤ 1000)
    (h : ∀ v' w', w'.ownsRow w0.heap.size 31 2 v' (n + k) (ptsV (l ++ m)) → Below w0.heap.size w0 w' → (∀ g t cs, Blk X g t cs → v.ownBlock ≠ some g → Blk w' g t cs) → K (a.put o.dst v') w') : o.wp Try.prog a X K Q := by
  obtain ⟨i0, hi, hz0, hz1, hz2⟩ := info_parts infoPt
  subst hk
  refine wp_append_own X s x 22 ho w0.heap.size 31 i0 _ 2 16 undPts hi hz0 hz1 hz2 rfl (by decide) v n (ptsV l) hs hown ⟨b, o', none⟩ m.length c (ptsV m) hx (ptsV_len m) hP.cellsV (ptsV_one m) (by unfold maxLen; omega) (by omega) hb.size ?_
  intro v' w' h1 h2 h3
  rw [← ptsV_append] at h1
  exact h v' w' h1 (bl_grown hb hown h2) fun g t cs hg hne => (h2.block g hg.lt (fun e => hne e.symm)).trans hg

set_option maxRecDepth 100000 in
set_option maxHeartbeats 4000000 in
theorem cut_off (A : Option Addr) (ca : Nat) (l : List Pt) (x y : Int) (w : World) (ha : Pts w A l) (hla : l.length ≤ 9223372036854775807) (hbad : 40 < l.length ∨ walkB l = false ∨ x < 0 ∨ y ≤ x ∨ (l.length : Int) ≤ y) :
    Calls Try.prog 3 #[.slice A l.length ca, .agg #[(Value.int .i64 (x)), (Value.int .i64 (y))]] w fun e w' => e = .returned (.bool true) ∧ Below w.heap.size w w' := by
  have c0 : Blk (w.alloc (.cells #[(Value.int .i64 (x)), (Value.int .i64 (y))] 24)) w.heap.size 24 #[(Value.int .i64 (x)), (Value.int .i64 (y))] := Blk.new _ _ _
  by_cases hfar : 40 < l.length
  · clear ha hbad c0
    go_enter Try.func3, Try.ntmps3
    go_wp2_with ((go_at_call 14); (with_reducible refine Calls.mono (works_any _) ?_); rintro e w1 ⟨rfl, hb1⟩; first | ((with_reducible apply kp_in_step (hb := hb1)); (with_reducible assumption); rintro ⟨hk, hc, hf, hzc, hzf⟩) | ((with_reducible refine kp_in_first hb1 ?_); rintro ⟨hk, hc, hf, hzc, hzf⟩))
    go_ret
    exact ⟨rfl, by (repeat (first | with_reducible exact Below.refl _ _ | with_reducible apply bl_alloc | with_reducible apply bl_drew | with_reducible apply bl_after | (with_reducible refine bl_call ?_ (by assumption))))⟩
  · have g1 : l.length ≤ 1000000 := by omega
    have hi := fun (W : World) (h : Below w.heap.size w W) => r5IsWalk_any A ca l W (ha.below h) g1
    cases hw : walkB l with
    | false =>
      rw [hw] at hi
      replace hi := Lib.hid hi
      clear ha hbad hw c0
      go_enter Try.func3, Try.ntmps3
      go_wp2_with (first | (go_at_call 13; with_reducible refine Calls.mono (hi.out _ (by (repeat (first | with_reducible exact Below.refl _ _ | with_reducible apply bl_alloc | with_reducible apply bl_drew | with_reducible apply bl_after | (with_reducible refine bl_call ?_ (by assumption)))))) ?_; rintro e w1 ⟨rfl, hb1⟩; first | ((with_reducible apply kp_in_step (hb := hb1)); (with_reducible assumption); rintro ⟨hk, hc, hf, hzc, hzf⟩) | ((with_reducible refine kp_in_first hb1 ?_); rintro ⟨hk, hc, hf, hzc, hzf⟩)) | ((go_at_call 14); (with_reducible refine Calls.mono (works_any _) ?_); rintro e w2 ⟨rfl, hb2⟩; first | ((with_reducible apply kp_in_step (hb := hb2)); (with_reducible assumption); rintro ⟨hk, hc, hf, hzc, hzf⟩) | ((with_reducible refine kp_in_first hb2 ?_); rintro ⟨hk, hc, hf, hzc, hzf⟩)))
      go_ret
      exact ⟨rfl, by (repeat (first | with_reducible exact Below.refl _ _ | with_reducible apply bl_alloc | with_reducible apply bl_drew | with_reducible apply bl_after | (with_reducible refine bl_call ?_ (by assumption))))⟩
    | true =>
      rw [hw] at hi
      replace hi := Lib.hid hi
      have hb3 : x < 0 ∨ y ≤ x ∨ (l.length : Int) ≤ y := by
        rcases hbad with h | h | h
        · omega
        · rw [hw] at h; cases h
        · exact h
      clear ha hbad hw
      rcases hb3 with h | h | h
      all_goals
        go_enter Try.func3, Try.ntmps3
        go_wp2_with (first | ((go_at_call 13); (with_reducible refine Calls.mono (hi.out _ (by (repeat (first | with_reducible exact Below.refl _ _ | with_reducible apply bl_alloc | with_reducible apply bl_drew | with_reducible apply bl_after | (with_reducible refine bl_call ?_ (by assumption)))))) ?_); rintro e w1 ⟨rfl, hb1⟩; (have e0 := c0.below hb1); (have l0 := e0.lt); (have u0 := e0.cell 0); (have u1 := e0.cell 1); simp only [List.getElem?_toArray, List.getElem?_cons_zero, List.getElem?_cons_succ] at u0 u1; first | ((with_reducible apply kp_in_step (hb := hb1)); (with_reducible assumption); rintro ⟨hk, hc, hf, hzc, hzf⟩) | ((with_reducible refine kp_in_first hb1 ?_); rintro ⟨hk, hc, hf, hzc, hzf⟩)) | ((go_at_call 14); (with_reducible refine Calls.mono (works_any _) ?_); rintro e w2 ⟨rfl, hb2⟩; first | ((with_reducible apply kp_in_step (hb := hb2)); (with_reducible assumption); rintro ⟨hk, hc, hf, hzc, hzf⟩) | ((with_reducible refine kp_in_first hb2 ?_); rintro ⟨hk, hc, hf, hzc, hzf⟩)))
        all_goals go_ret
        all_goals exact ⟨rfl, by (repeat (first | with_reducible exact Below.refl _ _ | with_reducible apply bl_alloc | with_reducible apply bl_drew | with_reducible apply bl_after | (with_reducible refine bl_call ?_ (by assumption))))⟩
end Go.Proofs.Ytfgplmgkejeoiaa
