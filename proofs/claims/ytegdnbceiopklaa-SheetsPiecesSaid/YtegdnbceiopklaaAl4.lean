/- The iterator all of sheets yields all factors of both spans, with how many controls are wrong with them. -/
import Derived.Test.YtegdnbceiopklaaShL
import Derived.Test.YtegdnbceiopklaaItg
namespace Go.Proofs.Ytegdnbceiopklaa
open Go.RowKit Go.Shelf
attribute [local go_sem] After.cell After.frozen Oper.semAt_some wide_fn wide_depth Fence.inRound_fn Fence.inRound_depth

theorem Blk.new_at {w : World} {g : Nat} {t : TypeId} {cs : Array Value} (h : w.heap.size = g) : Blk (w.alloc (.cells cs t)) g t cs := by subst h; exact Blk.new w t cs
def alS (S : Sht) : List (Pt × Int) := (prs S).map fun f => (f, wrg S f)
theorem alS_len (S : Sht) : (alS S).length = nX S * nY S := by rw [alS, List.length_map, prs_len]
theorem alS_get {S : Sht} {t : Nat} (h : t < nX S * nY S) : (alS S)[t]? = some (prAt S t, wrg S (prAt S t)) := by
  rw [alS, List.getElem?_map, prs_get h]; rfl
def AllArg (x : Pt × Int) (args : Array Value) (_ : World) : Prop := args = #[(Value.agg #[.int .i64 x.1.1, .int .i64 x.1.2]), (Value.int .i64 (x.2))]
/-- The sheet at work lies in block g, its controls at A. -/
structure ShKeep (g : Nat) (A : Option Addr) (ca : Nat) (S : Sht) (W : World) : Prop where
  blk : Blk W g 108 #[(Value.int .i64 (S.xlo)), (Value.int .i64 (S.xhi)), (Value.int .i64 (S.ylo)), (Value.int .i64 (S.yhi)), .slice A S.cs.length ca, (Value.int .i64 (S.wrong))]
  cts : Cts W A S.cs
theorem ShKeep.below {g : Nat} {A : Option Addr} {ca : Nat} {S : Sht} {W W' : World} (h : ShKeep g A ca S W) (hb : Below W.heap.size W W') : ShKeep g A ca S W' := ⟨h.blk.below hb, h.cts.below hb⟩
theorem ShKeep.step {g : Nat} {A : Option Addr} {ca : Nat} {S : Sht} {B : Nat} {W W' : World} (h : ShKeep g A ca S W) (hs : Step B W W') : ShKeep g A ca S W' :=
  ⟨hs.blk h.blk, h.cts.step (fun k o hk hc => hs.same k o hk (.inl hc)) hs.size⟩
theorem prAt_ok {S : Sht} (hS : ShtOk S) {i j : Nat} (hi : i < nX S) (hj : j < nY S) : FacOk (S.xlo + (i : Int), S.ylo + (j : Int)) := by
  have := hS.x0; have := hS.x2; have := hS.y0; have := hS.y2
  unfold nX at hi
  unfold nY at hj
  exact ⟨⟨by simp only; omega, by simp only; omega⟩, by simp only; omega, by simp only; omega⟩

set_option maxRecDepth 100000 in
set_option maxHeartbeats 4000000 in
theorem all_iter4 (g : Nat) (A : Option Addr) (ca : Nat) (S : Sht) (hS : ShtOk S) :
    IterG Try.prog 72 #[.pointer (some ⟨g, 0, none⟩)] #[] AllArg (alS S) (ShKeep g A ca S) := by
  intro lp B J Jx W hB hlW hJb hJs hJxs hY h0
  refine callsIn_of_wp Try.func72 rfl trivial ?_ rfl
  simp only [Try.ntmps72, List.size_toArray, List.length_cons, List.length_nil, Nat.reduceAdd, Nat.reduceSub, Array.replicate_succ, Array.replicate_zero, List.push_toArray, List.append_toArray, List.nil_append, List.cons_append]
  have hK0 := hJb 0 W h0
  have e0 := hK0.blk
  (have la := e0.lt); (have ya0 := e0.cell 0); (have ya1 := e0.cell 1); (have ya2 := e0.cell 2); (have ya3 := e0.cell 3); (have ya4 := e0.cell 4); (have ya5 := e0.cell 5); simp only [List.getElem?_toArray, List.getElem?_cons_zero, List.getElem?_cons_succ] at ya0 ya1 ya2 ya3 ya4 ya5
  have hx0 := hS.x0; have hx1 := hS.x1; have hx2 := hS.x2
  have hy0 := hS.y0; have hy1 := hS.y1; have hy2 := hS.y2
  gi_wp2
  clear la ya0 ya1 ya2 ya3 ya4 ya5 e0 hK0
  gi_loopg [4] (nX S) (fun n i wr => ∃ k : Nat, k ≤ nX S ∧ n = nX S - k ∧ i = (Value.int .i64 (S.xlo + (k : Int))) ∧ J (k * nY S) wr)
  case atStart => exact ⟨0, Nat.zero_le _, rfl, by simp, by rw [Nat.zero_mul]; exact h0⟩
  case round =>
    obtain ⟨k, kn, rfl, rfl, hj⟩ := hrel
    have e0 := (hJb _ wr hj).blk
    (have la := e0.lt); (have ya0 := e0.cell 0); (have ya1 := e0.cell 1); (have ya2 := e0.cell 2); (have ya3 := e0.cell 3); (have ya4 := e0.cell 4); (have ya5 := e0.cell 5); simp only [List.getElem?_toArray, List.getElem?_cons_zero, List.getElem?_cons_succ] at ya0 ya1 ya2 ya3 ya4 ya5
    by_cases hlt : k < nX S
    · have hk1 : S.xlo + (k : Int) ≤ S.xhi := by unfold nX at hlt; omega
      gi_wp2
      clear la ya0 ya1 ya2 ya3 ya4 ya5 e0
      gi_loopg [5] (nY S) (fun n i wr => ∃ j : Nat, j ≤ nY S ∧ n = nY S - j ∧ i = (Value.int .i64 (S.ylo + (j : Int))) ∧ J (k * nY S + j) wr)
      case atStart => exact ⟨0, Nat.zero_le _, rfl, by simp, hj⟩
      case round =>
        clear hj
        obtain ⟨j, jn, rfl, rfl, hj⟩ := hrel
        have hKp := hJb _ wr hj
        have e0 := hKp.blk
        (have la := e0.lt); (have ya0 := e0.cell 0); (have ya1 := e0.cell 1); (have ya2 := e0.cell 2); (have ya3 := e0.cell 3); (have ya4 := e0.cell 4); (have ya5 := e0.cell 5); simp only [List.getElem?_toArray, List.getElem?_cons_zero, List.getElem?_cons_succ] at ya0 ya1 ya2 ya3 ya4 ya5
        by_cases hjt : j < nY S
        · have hj1 : S.ylo + (j : Int) ≤ S.yhi := by unfold nY at hjt; omega
          gi_wp2
          clear la ya0 ya1 ya2 ya3 ya4 ya5 e0
          have hf := Lib.hid (prAt_ok hS hlt hjt)
          have hJ1 := hJs _ _ _ hj (Step.of_below (bl_alloc (o := .cells #[(Value.int .i64 (S.xlo + (k : Int))), (Value.int .i64 (S.ylo + (j : Int)))] 89) (Below.refl _ _)))
          have hK1 := hJb _ _ hJ1
          have e6 := Blk.new wr 89 #[(Value.int .i64 (S.xlo + (k : Int))), (Value.int .i64 (S.ylo + (j : Int)))]
          generalize wr.alloc (.cells #[(Value.int .i64 (S.xlo + (k : Int))), (Value.int .i64 (S.ylo + (j : Int)))] 89) = W1 at hJ1 hK1 e6 ⊢
          generalize wr.heap.size = g6 at e6 ⊢
          clear hj hKp
          gi_loopg [7, 51] S.cs.length (fun n wv i wq => ∃ t : Nat, t ≤ S.cs.length ∧ n = S.cs.length - t ∧ wv = (Value.int .i64 (wrgTo S (S.xlo + (k : Int), S.ylo + (j : Int)) t)) ∧ i = (Value.int .i64 ((t : Int))) ∧ Below W1.heap.size W1 wq)
          case atStart => exact ⟨0, Nat.zero_le _, rfl, rfl, rfl, Below.refl _ _⟩
          case round =>
            obtain ⟨t, tn, rfl, rfl, rfl, hb⟩ := hrel
            have ht8 := hS.len
            have hwb := wrgTo_bd S (S.xlo + (k : Int), S.ylo + (j : Int)) t
            by_cases htt : t < S.cs.length
            · obtain ⟨bc, oc, hA, pc⟩ := (hK1.cts.below hb).at_ htt
              subst hA
              obtain ⟨lc, x1, x2, x3, x4⟩ := ctl_cells pc htt
              have e6' := e6.below hb
              (have lb := e6'.lt); (have yb0 := e6'.cell 0); (have yb1 := e6'.cell 1); simp only [List.getElem?_toArray, List.getElem?_cons_zero, List.getElem?_cons_succ] at yb0 yb1
              have hc : Hid (CtlOk (cat S.cs t)) := Lib.hid (hS.all _ (cat_mem htt)).2
              have hsu := wrgTo_succ (f := (S.xlo + (k : Int), S.ylo + (j : Int))) htt
              have hi := Lib.hid fun (V : World) => isRight_any (S.xlo + (k : Int), S.ylo + (j : Int)) (cat S.cs t) hf.out hc.out V
              cases hr : rightB (cat S.cs t) (S.xlo + (k : Int), S.ylo + (j : Int)) <;> rw [hr] at hi hsu <;> replace hsu := Lib.hid hsu
              all_goals
                clear hr pc e6'
                gi_wp2_with ((gi_at_call 85); (with_reducible refine CallsIn.mono (callsIn_wide.2 (hi.out _)) ?_); rintro e w1 ⟨rfl, hb1⟩)
                gi_roundg (S.cs.length - (t + 1))
                case measure => omega
                case rel => exact ⟨t + 1, by omega, rfl, by rw [hsu.out]; simp, by go_num, bl_call (bl_alloc hb) hb1⟩
            · obtain rfl : t = S.cs.length := by omega
              have hJ2 := hJs _ _ _ hJ1 (Step.of_below hb)
              have e6' := e6.below hb
              (have lb := e6'.lt); (have yb0 := e6'.cell 0); (have yb1 := e6'.cell 1); simp only [List.getElem?_toArray, List.getElem?_cons_zero, List.getElem?_cons_succ] at yb0 yb1
              have hlt2 : k * nY S + j < nX S * nY S := by
                have := Nat.mul_le_mul_right (nY S) (show k + 1 ≤ nX S from hlt)
                rw [Nat.succ_mul] at this
                omega
              have hg := alS_get hlt2
              rw [prAt_at hjt] at hg
              unfold wrg at hg
              obtain ⟨fn, tmps, assign, body, hy, hR⟩ := hY (k * nY S + j) _ _ wr hg rfl hJ2
              have HR := Lib.hid hR
              clear hR hg hJ2 e6'
              dsimp only at hy
              gi_wp2
              refine (roundW HR.out).mono ?_
              rintro e W3 (⟨rfl, hj3, -, -⟩ | ⟨rfl, hjx, -⟩)
              · gi_wp2
                gi_roundg (nY S - (j + 1))
                case measure => omega
                case rel => exact ⟨j + 1, by omega, rfl, by go_num, hj3⟩
              · gi_wp2
                refine bodyPost_ret (results_none rfl _ _ _) rfl ?_
                exact ⟨⟨_, rfl⟩, .inr hjx⟩
        · obtain rfl : j = nY S := by omega
          have hj1 : S.yhi < S.ylo + (nY S : Int) := by unfold nY; omega
          gi_wp2
          gi_roundg (nX S - (k + 1))
          case measure => omega
          case rel => exact ⟨k + 1, by omega, rfl, by go_num, by rw [Nat.succ_mul]; exact hj⟩
    · obtain rfl : k = nX S := by omega
      have hk1 : S.xhi < S.xlo + (nX S : Int) := by unfold nX; omega
      gi_wp2
      go_end0
      exact ⟨⟨_, rfl⟩, .inl (by rw [alS_len]; exact hj)⟩
end Go.Proofs.Ytegdnbceiopklaa
