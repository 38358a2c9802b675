/- The function corners.sides yields the sides of a polygon in their order, for points in memory. -/
import Derived.Test.YthijegacjboclaaGreatSl
import Derived.Test.YthijegacjboclaaGreatRf
import Derived.Shelf.Abstract
import Derived.OwnWalkIn
import Derived.TacticsInMore
import Derived.LoopNIn
import Derived.LoopIn
import Derived.Sort.LoopGhostIn
namespace Go.Proofs.YthijegacjboclaaGreat
open Go.RowKit Go.Shelf
attribute [local go_sem] After.cell After.frozen Oper.semAt_some

/-- The sides of a polygon, with their numbers. -/
def sidesOf (l : List Pt) : List (Nat × Pt × Pt) := (List.range l.length).map fun i => (i, pat l i, pat l (nxt l i))
def sideArgs (x : Nat × Pt × Pt) : Array Value := #[(Value.int .i64 ((x.1 : Int))), (Value.agg #[.int .i64 x.2.1.1, .int .i64 x.2.1.2, .int .i64 x.2.2.1, .int .i64 x.2.2.2])]

theorem sidesOf_get {l : List Pt} {i : Nat} (h : i < l.length) : (sidesOf l)[i]? = some (i, pat l i, pat l (nxt l i)) := by
  simp [sidesOf, h]
theorem sidesOf_len (l : List Pt) : (sidesOf l).length = l.length := by simp [sidesOf]

set_option maxHeartbeats 400000 in
theorem sides_any (A : Option Addr) (n ca : Nat) (w : World) :
    Calls Tryz.prog 101 #[.slice A n ca] w fun e w' => e = .returned (.func (.func 119) #[] #[.pointer (some ⟨w.heap.size, 0, none⟩)]) ∧ w.alloc (.cells #[.slice A n ca] 22) = w' := by
  go_enter Tryz.func101, Tryz.ntmps101
  go_wp2
  go_ret
  exact ⟨rfl, rfl⟩

/-- What the iterator of sides reads between the rounds. -/
structure SidesKeep (Bn b o ca : Nat) (l : List Pt) (W : World) : Prop where
  box : W.cell? ⟨Bn, 0, none⟩ = some (.slice (some ⟨b, o, none⟩) l.length ca)
  lt : Bn < W.heap.size
  pts : PtsAt W b o l

set_option maxRecDepth 100000 in
set_option maxHeartbeats 1000000 in
theorem sides_iter (Bn b o ca : Nat) (l : List Pt) (hn : 0 < l.length) (hl : l.length ≤ 1000000) :
    IterOn Tryz.prog 119 #[.pointer (some ⟨Bn, 0, none⟩)] sideArgs (sidesOf l) (SidesKeep Bn b o ca l) := by
  intro lp J Jx W hJb hJs hJxs hY h0
  refine callsIn_of_wp Tryz.func119 rfl trivial ?_ rfl
  simp only [Tryz.ntmps119, List.size_toArray, List.length_cons, List.length_nil, Nat.reduceAdd, Nat.reduceSub, Array.replicate_succ, Array.replicate_zero, List.push_toArray, List.append_toArray, List.nil_append, List.cons_append]
  have x0 := (hJb 0 W h0).box
  gi_wp2
  gi_loopg [6] l.length (fun g i wr => ∃ k : Nat, k ≤ l.length ∧ g = l.length - k ∧ i = (Value.int .i64 ((k : Int))) ∧ J k wr)
  case atStart => exact ⟨0, Nat.zero_le _, rfl, rfl, h0⟩
  case round =>
    obtain ⟨k, kn, rfl, rfl, hj⟩ := hrel
    have hbr := hJb k wr hj
    by_cases hlt : k < l.length
    · have y0 := hbr.box
      have hBr := hbr.lt
      have pa := hbr.pts
      have hnk : nxt l k < l.length := nxt_lt k hn
      have x1 := pa.xp hlt
      have x2 := pa.yp hlt
      have x3 := pa.xp hnk
      have x4 := pa.yp hnk
      have lb := pa.lt
      have e1 : ((k : Int) + 1) % (l.length : Int) = (nxt l k : Int) := by simp [nxt]
      have i1 : 0 ≤ ((k : Int) + 1) % (l.length : Int) := by rw [e1]; omega
      have i2 : ((k : Int) + 1) % (l.length : Int) < (l.length : Int) := by rw [e1]; omega
      have i3 : (((k : Int) + 1) % (l.length : Int)).toNat = nxt l k := by rw [e1]; omega
      clear e1
      gi_wp2
      (first | refine wpIn_tail_w 15 (by kernel_rfl) (by kernel_rfl) (by kernel_rfl) ?_ | refine wpIn_tail_r 15 (by kernel_rfl) (by kernel_rfl) (by kernel_rfl) ?_); simp only [List.take_succ_cons, List.take_zero, List.drop_succ_cons, List.drop_zero]; (repeat (go_big_quiet_step ((fail)))); refine wpQuiet_nil ?_; rintro _ ⟨z, rfl⟩; (first | ((with_reducible apply kp_in_after (z := z)); (with_reducible assumption); rintro ⟨hk, hc, hf, hzc, hzf⟩) | ((with_reducible refine kp_in_after0 z ?_); rintro ⟨hk, hc, hf, hzc, hzf⟩))
      obtain ⟨fn, tmps, assign, body, hy, hR⟩ := hY k _ z.val (sidesOf_get hlt) (hJs _ _ _ hj z.ok)
      dsimp only [sideArgs] at hy
      gi_wp2
      refine ⟨rfl, (roundW hR).mono ?_⟩
      rintro e W3 (⟨rfl, hj3⟩ | ⟨rfl, hjx⟩)
      · gi_wp2
        gi_roundg (l.length - (k + 1))
        case measure => omega
        case rel => exact ⟨k + 1, by omega, rfl, by go_num, hj3⟩
      · gi_wp2
        refine bodyPost_ret (results_none rfl _ _ _) rfl ?_
        exact ⟨⟨_, rfl⟩, .inr hjx⟩
    · gi_wp2
      obtain rfl : k = l.length := by omega
      go_end0
      exact ⟨⟨_, rfl⟩, .inl (by rw [sidesOf_len]; exact hj)⟩
end Go.Proofs.YthijegacjboclaaGreat
