/- The functions list and many of discord's faults, and isRight: the bits of a set; whether a walk is right. -/
import Derived.Test.YthijegacjboclaaGreatWhC
import Derived.Test.YthijegacjboclaaGreatDsr
import Derived.Test.YthijegacjboclaaGreatBts
import Derived.Test.YthijegacjboclaaGreatRowI
import Derived.OwnWalk
import Derived.Deep.LoopGhost
import Derived.Deep.DeepCutAuto
import Derived.StillTactics
import Derived.IntWalk
import Derived.Test.YthijegacjboclaaGreatJQtb
namespace Go.Proofs.YthijegacjboclaaGreat
open Go.RowKit Go.Shelf
attribute [local go_sem] After.cell After.frozen

/-- Numbers as Go's ints. -/
def natI (l : List Nat) : List Int := l.map fun n : Nat => (n : Int)
theorem natI_len (l : List Nat) : (natI l).length = l.length := by simp [natI]
def upB (s k : Nat) : List Nat := (List.range k).filter fun i => s.testBit i
theorem upB_succ (s k : Nat) : upB s (k + 1) = if s.testBit k = true then upB s k ++ [k] else upB s k := by
  unfold upB
  rw [List.range_succ, List.filter_append]
  cases h : s.testBit k <;> simp [h]
theorem upB_len (s k : Nat) : (upB s k).length ≤ k := by
  have := List.length_filter_le (fun i => s.testBit i) (List.range k)
  simpa [upB] using this
theorem upB_all {s k : Nat} (hk : k ≤ 8) (h : s >>> k = 0) : upB s k = bitL s := by
  unfold upB bitL
  rw [← range_filter hk]
  refine List.filter_congr fun i _ => ?_
  by_cases hi : i < k
  · simp [hi]
  · simp [hi, (shr_zero k).1 h i (by omega)]
set_option maxRecDepth 100000 in
set_option maxHeartbeats 2000000 in
theorem list_any (s : Nat) (hs : s < 256) (w : World) :
    Calls Tryz.prog 68 #[.int .u64 (s : Int)] w fun e w' => (∃ v, e = .returned v ∧ RowI w' w.heap.size v (natI (bitL s))) ∧ Below w.heap.size w w' := by
  obtain ⟨i0, hi, hz0, hz1, hz2⟩ := info_parts infoInt
  go_enter Tryz.func68, Tryz.ntmps68
  go_wp2
  go_loopg [3, 4] 8 (fun gh v i wr => ∃ k : Nat, k ≤ 8 ∧ gh = 8 - k ∧ i = (Value.int .i64 ((k : Int))) ∧ RowI wr w.heap.size v (natI (upB s k)) ∧ Below w.heap.size w wr)
  case atStart => exact ⟨0, by omega, rfl, rfl, (rowI_nil _ _ : RowI w w.heap.size _ []), Below.refl _ _⟩
  case round =>
    obtain ⟨k, kn, rfl, rfl, hO, hbw⟩ := hrel
    by_cases h0 : s >>> k = 0
    · have e1 : (s : Int) / 2 ^ k = 0 := by rw [shr_nat, h0]; rfl
      rw [upB_all kn h0] at hO
      replace hO := Lib.hid hO
      clear h0
      go_wp2
      go_ret
      exact ⟨⟨_, rfl, hO.out⟩, hbw⟩
    · have hk : k < 8 := by
        refine Nat.lt_of_not_le fun h => h0 ?_
        have : k = 8 := by omega
        subst this
        rw [Nat.shiftRight_eq_div_pow]
        omega
      have hq : s >>> k < 256 := by
        rw [Nat.shiftRight_eq_div_pow]
        exact Nat.lt_of_le_of_lt (Nat.div_le_self _ _) hs
      have e1 := shr_nat s k
      have e2 := and_u64 hq (show 1 < 256 by decide)
      have hb := bit_and1 s k
      have hsu := upB_succ s k
      have hlen := upB_len s k
      generalize s >>> k = q at *
      have h0' : ((q : Int) != 0) = true := by simp; omega
      by_cases hb1 : s.testBit k = true
      · rw [hb.2 hb1] at e2
        rw [if_pos hb1] at hsu
        have e2' : bits .and .u64 (q : Int) 1 = 1 := e2
        replace hsu := Lib.hid hsu
        clear e2 hb hb1 h0
        have hl2 := natI_len (upB s k)
        go_wp2_with (at_builtin; refine wpList_append_own _ rfl (.tmp 16) (.tmp 18) 23 rfl w.heap.size 3 i0 _ 1 8 undInts hi hz0 hz1 hz2 rfl (by decide) _ _ _ rfl (World.ownsRow.alloc hO _) ⟨wr.heap.size, 0, none⟩ 1 1 [(Value.int .i64 ((k : Int)))] rfl rfl (cell_one_new _ _ _) (one_int _) (by unfold maxLen; omega) (by omega) (by have := hbw.size; simp; omega) ?_)
        intro v' w9 hown hgrow _
        have hb9 : Below w.heap.size w w9 := bl_grown (bl_alloc hbw) (World.ownsRow.alloc hO _) hgrow
        have HV := Lib.hid (RowI.snoc hown hl2.symm)
        clear hown hgrow
        go_wp2
        go_roundg (8 - (k + 1))
        case measure => omega
        case rel => exact ⟨k + 1, by omega, rfl, by go_num, by rw [hsu.out]; simpa [natI] using HV.out, hb9⟩
      · have hq1 : q &&& 1 = 0 := by
          have h1 : q &&& 1 ≤ 1 := Nat.and_le_right
          have h2 : ¬ (q &&& 1 = 1) := fun h => hb1 (hb.1 h)
          omega
        rw [hq1] at e2
        have e2' : bits .and .u64 (q : Int) 1 = 0 := e2
        rw [if_neg hb1] at hsu
        replace hsu := Lib.hid hsu
        replace hO := Lib.hid hO
        clear e2 hb hb1 h0 hq1
        go_wp2
        go_roundg (8 - (k + 1))
        case measure => omega
        case rel => exact ⟨k + 1, by omega, rfl, by go_num, by rw [hsu.out]; exact hO.out, hbw⟩
set_option maxRecDepth 100000 in
set_option maxHeartbeats 2000000 in
theorem many_any (c d : Nat) (hc : c < 256) (hd : d < 256) (w : World) :
    Calls Tryz.prog 40 #[.agg #[.int .u64 (c : Int), .int .u64 (d : Int)]] w fun e w' => e = .returned (Value.int .i64 ((((bitL c).length + (bitL d).length : Nat) : Int))) ∧ Below w.heap.size w w' := by
  have e0 : Blk (w.alloc (.cells #[.int .u64 (c : Int), .int .u64 (d : Int)] 73)) w.heap.size 73 #[.int .u64 (c : Int), .int .u64 (d : Int)] := Blk.new _ _ _
  have hb0 : Below w.heap.size w (w.alloc (.cells #[.int .u64 (c : Int), .int .u64 (d : Int)] 73)) := by (repeat (first | with_reducible exact Below.refl _ _ | with_reducible apply bl_alloc | with_reducible apply bl_drew | with_reducible apply bl_after | (with_reducible refine bl_call ?_ (by assumption))))
  (have la := e0.lt); (have ya0 := e0.cell 0); (have ya1 := e0.cell 1); simp only [List.getElem?_toArray, List.getElem?_cons_zero, List.getElem?_cons_succ] at ya0 ya1
  have h1 := fun (W : World) => list_any c hc W
  have h2 := fun (W : World) => list_any d hd W
  have l1 := bitL_len c
  have l2 := bitL_len d
  have n1 := natI_len (bitL c)
  have n2 := natI_len (bitL d)
  have z := wrap64_in (x := ((bitL c).length : Int) + ((bitL d).length : Int)) (by omega) (by omega)
  go_enter Tryz.func40, Tryz.ntmps40
  go_upto_region 1 with fail
  refine wp_region_CN (fun w' => ∃ z : After (w.alloc (.cells #[.int .u64 (c : Int), .int .u64 (d : Int)] 73)), w' = z.val) (by kernel_rfl) ?_
  change wpAnyC _ _ _ _ _ _ _ (World.drew (w.alloc (.cells #[.int .u64 (c : Int), .int .u64 (d : Int)] 73)))
  have hd0 : Below ((w.alloc (.cells #[.int .u64 (c : Int), .int .u64 (d : Int)] 73))).heap.size (w.alloc (.cells #[.int .u64 (c : Int), .int .u64 (d : Int)] 73)) ((w.alloc (.cells #[.int .u64 (c : Int), .int .u64 (d : Int)] 73))).drew := bl_drew (Below.refl _ _)
  refine wpAnyC_take (i := 0) (v := ?v0u) rfl (by kernel_rfl) (by kernel_rfl) (by kernel_rfl) ?q0u rfl ?y0u ?r0u; (case q0u => exact fun _ _ _ h => h); (case y0u => ((rintro _ ⟨z, rfl⟩); (go_simp); (try with_reducible rfl))); simp only [Act.put, List.getElem_toArray, List.getElem_cons_succ, List.getElem_cons_zero, List.setIfInBounds_toArray, List.set_cons_succ, List.set_cons_zero]
  refine wpAnyC_take (i := 1) (v := ?v1u) rfl (by kernel_rfl) (by kernel_rfl) (by kernel_rfl) ?q1u rfl ?y1u ?r1u; (case q1u => exact fun _ _ _ h => h); (case y1u => ((rintro _ ⟨z, rfl⟩); (go_simp); (try with_reducible rfl))); simp only [Act.put, List.getElem_toArray, List.getElem_cons_succ, List.getElem_cons_zero, List.setIfInBounds_toArray, List.set_cons_succ, List.set_cons_zero]
  refine wpAnyC_take (i := 4) (v := ?v4u) rfl (by kernel_rfl) (by kernel_rfl) (by kernel_rfl) ?q4u rfl ?y4u ?r4u; (case q4u => exact fun _ _ _ h => h); (case y4u => ((rintro _ ⟨z, rfl⟩); (go_simp); (try with_reducible rfl))); simp only [Act.put, List.getElem_toArray, List.getElem_cons_succ, List.getElem_cons_zero, List.setIfInBounds_toArray, List.set_cons_succ, List.set_cons_zero]
  refine wpAnyC_take (i := 5) (v := ?v5u) rfl (by kernel_rfl) (by kernel_rfl) (by kernel_rfl) ?q5u rfl ?y5u ?r5u; (case q5u => exact fun _ _ _ h => h); (case y5u => ((rintro _ ⟨z, rfl⟩); (go_simp); (try with_reducible rfl))); simp only [Act.put, List.getElem_toArray, List.getElem_cons_succ, List.getElem_cons_zero, List.setIfInBounds_toArray, List.set_cons_succ, List.set_cons_zero]
  refine wpAnyC_one (i := 2) (by kernel_rfl) rfl ⟨⟨_, hd0⟩, rfl⟩ rfl (fun K hK => ?_)
  go_simp
  go_at_call 68
  (with_reducible refine Calls.mono (h1 _) ?_)
  rintro e1 w1 ⟨⟨v1, rfl, hv1⟩, hb1⟩
  obtain ⟨A1, c1, rfl, -⟩ := hv1.parts
  refine hK _ _ ?_
  clear hK K hv1
  have hd1 := hd0.trans (hb1.mono hd0.size)
  refine wpAnyC_take (i := 3) (v := ?v3u) rfl (by kernel_rfl) (by kernel_rfl) (by kernel_rfl) ?q3u rfl ?y3u ?r3u; (case q3u => exact fun _ _ _ h => h); (case y3u => ((rintro _ ⟨z, rfl⟩); (go_simp); (try with_reducible rfl))); simp only [Act.put, List.getElem_toArray, List.getElem_cons_succ, List.getElem_cons_zero, List.setIfInBounds_toArray, List.set_cons_succ, List.set_cons_zero]
  refine wpAnyC_one (i := 6) (by kernel_rfl) rfl ⟨⟨_, hd1⟩, rfl⟩ rfl (fun K hK => ?_)
  go_simp
  go_at_call 68
  (with_reducible refine Calls.mono (h2 _) ?_)
  rintro e2 w2 ⟨⟨v2, rfl, hv2⟩, hb2⟩
  obtain ⟨A2, c2, rfl, -⟩ := hv2.parts
  refine hK _ _ ?_
  clear hK K hv2
  have hd2 := hd1.trans (hb2.mono hd1.size)
  refine wpAnyC_take (i := 7) (v := ?v7u) rfl (by kernel_rfl) (by kernel_rfl) (by kernel_rfl) ?q7u rfl ?y7u ?r7u; (case q7u => exact fun _ _ _ h => h); (case y7u => ((rintro _ ⟨z, rfl⟩); (go_simp); (try with_reducible rfl))); simp only [Act.put, List.getElem_toArray, List.getElem_cons_succ, List.getElem_cons_zero, List.setIfInBounds_toArray, List.set_cons_succ, List.set_cons_zero]
  refine wpAnyC_take (i := 8) (v := ?v8u) rfl (by kernel_rfl) (by kernel_rfl) (by kernel_rfl) ?q8u rfl ?y8u ?r8u; (case q8u => exact fun _ _ _ h => h); (case y8u => ((rintro _ ⟨z, rfl⟩); (go_simp); (try with_reducible rfl))); simp only [Act.put, List.getElem_toArray, List.getElem_cons_succ, List.getElem_cons_zero, List.setIfInBounds_toArray, List.set_cons_succ, List.set_cons_zero]
  refine wpAnyC_take (i := 9) (v := ?v9u) rfl (by kernel_rfl) (by kernel_rfl) (by kernel_rfl) ?q9u rfl ?y9u ?r9u; (case q9u => exact fun _ _ _ h => h); (case y9u => ((rintro _ ⟨z, rfl⟩); (go_simp); (try with_reducible rfl))); simp only [Act.put, List.getElem_toArray, List.getElem_cons_succ, List.getElem_cons_zero, List.setIfInBounds_toArray, List.set_cons_succ, List.set_cons_zero]
  refine wpAnyC_doneN (by kernel_rfl) ⟨⟨_, hd2⟩, rfl⟩ ?_ _
  have hbF := bl_call hb0 hd2
  go_wp2
  go_ret
  exact ⟨ret_int ((IntWalk.i64_in _ (by omega)).trans (by omega)), hbF⟩
set_option maxRecDepth 100000 in
set_option maxHeartbeats 4000000 in
theorem isRight_any (v : Whl) (x : Wk) (a s : Int) (w : World) (hv : WhlOk v) (hx : WkOk v x) (ha : 0 ≤ a ∧ a ≤ 9999) (hs : -20 ≤ s ∧ s ≤ 20) :
    Calls Tryz.prog 67 #[(Value.agg #[(Value.int .i64 (v.full)), (Value.int .i64 (v.read)), (Value.int .i64 (v.slip)), (Value.int .i64 (v.skew)), (Value.int .i64 (v.circle)), (Value.int .i64 (v.glo)), (Value.int .i64 (v.ghi)), (Value.int .i64 (v.wrong))]), (Value.agg #[(Value.int .i64 (x.sense)), (Value.int .i64 (x.side)), (Value.int .i64 (x.inside)), (Value.int .i64 (x.start)), (Value.int .i64 (x.fin))]), (Value.int .i64 (a)), (Value.int .i64 (s))] w fun e w' => e = .returned (.bool (rgtB v x a s)) ∧ Below w.heap.size w w' := by
  have c0 : Blk ((w.alloc (.cells #[(Value.int .i64 (v.full)), (Value.int .i64 (v.read)), (Value.int .i64 (v.slip)), (Value.int .i64 (v.skew)), (Value.int .i64 (v.circle)), (Value.int .i64 (v.glo)), (Value.int .i64 (v.ghi)), (Value.int .i64 (v.wrong))] 27)).alloc (.cells #[(Value.int .i64 (x.sense)), (Value.int .i64 (x.side)), (Value.int .i64 (x.inside)), (Value.int .i64 (x.start)), (Value.int .i64 (x.fin))] 88)) w.heap.size 27 #[(Value.int .i64 (v.full)), (Value.int .i64 (v.read)), (Value.int .i64 (v.slip)), (Value.int .i64 (v.skew)), (Value.int .i64 (v.circle)), (Value.int .i64 (v.glo)), (Value.int .i64 (v.ghi)), (Value.int .i64 (v.wrong))] := (Blk.new _ _ _).alloc _
  have c1 : Blk ((w.alloc (.cells #[(Value.int .i64 (v.full)), (Value.int .i64 (v.read)), (Value.int .i64 (v.slip)), (Value.int .i64 (v.skew)), (Value.int .i64 (v.circle)), (Value.int .i64 (v.glo)), (Value.int .i64 (v.ghi)), (Value.int .i64 (v.wrong))] 27)).alloc (.cells #[(Value.int .i64 (x.sense)), (Value.int .i64 (x.side)), (Value.int .i64 (x.inside)), (Value.int .i64 (x.start)), (Value.int .i64 (x.fin))] 88)) (w.heap.size + 1) 88 #[(Value.int .i64 (x.sense)), (Value.int .i64 (x.side)), (Value.int .i64 (x.inside)), (Value.int .i64 (x.start)), (Value.int .i64 (x.fin))] := blk_new_at (by simp)
  (have la := c0.lt); (have ya0 := c0.cell 0); (have ya1 := c0.cell 1); (have ya2 := c0.cell 2); (have ya3 := c0.cell 3); (have ya4 := c0.cell 4); (have ya5 := c0.cell 5); (have ya6 := c0.cell 6); (have ya7 := c0.cell 7); simp only [List.getElem?_toArray, List.getElem?_cons_zero, List.getElem?_cons_succ] at ya0 ya1 ya2 ya3 ya4 ya5 ya6 ya7
  (have lb := c1.lt); (have yb0 := c1.cell 0); (have yb1 := c1.cell 1); (have yb2 := c1.cell 2); (have yb3 := c1.cell 3); (have yb4 := c1.cell 4); simp only [List.getElem?_toArray, List.getElem?_cons_zero, List.getElem?_cons_succ] at yb0 yb1 yb2 yb3 yb4
  obtain ⟨f0, f1, r0, r1, s0, s1, k0, k1, d0, d1, g0, g1, g2, w0, w1⟩ := hv
  obtain ⟨x1, x2, x3, x4, x5, x6, x7, x8⟩ := hx
  have m1 := mul_bd (x := x.inside) (y := v.circle) (A := 1) (B := 9999) (by omega) (by omega) (by omega) (by omega)
  have m2 := mul_bd (x := x.sense) (y := a - x.inside * v.circle) (A := 1) (B := 20000) (by omega) (by omega) (by omega) (by omega)
  have m3 := mul_bd (x := x.side) (y := s) (A := 1) (B := 20) (by omega) (by omega) (by omega) (by omega)
  have z1 := wrap64_in (x := x.fin - x.start) (by omega) (by omega)
  have z2 := wrap64_in (x := x.inside * v.circle) (by omega) (by omega)
  have z3 := wrap64_in (x := a - x.inside * v.circle) (by omega) (by omega)
  have z4 := wrap64_in (x := x.sense * (a - x.inside * v.circle)) (by omega) (by omega)
  have z5 := wrap64_in (x := x.fin - x.start - x.sense * (a - x.inside * v.circle)) (by omega) (by omega)
  have z6 := wrap64_in (x := x.side * s) (by omega) (by omega)
  have z7 := wrap64_in (x := x.fin - x.start - x.sense * (a - x.inside * v.circle) - x.side * s) (by omega) (by omega)
  have z8 := wrap64_in (x := -2 * v.read) (by omega) (by omega)
  have z9 := wrap64_in (x := 2 * v.read) (by omega) (by omega)
  have zA := wrap64_in (x := -2 * v.read - v.slip) (by omega) (by omega)
  have zB := wrap64_in (x := 2 * v.read + v.slip) (by omega) (by omega)
  have hL : -1000000 ≤ (x.fin - x.start - x.sense * (a - x.inside * v.circle) - x.side * s) ∧ (x.fin - x.start - x.sense * (a - x.inside * v.circle) - x.side * s) ≤ 1000000 := by omega
  have hR : rgtB v x a s = decide (wkLo v x + ((x.fin - x.start - x.sense * (a - x.inside * v.circle) - x.side * s) - wkLo v x) % v.full ≤ wkHi v x) := rfl
  have key : ∀ lo : Int, -1000 ≤ lo → lo ≤ 1000 → IntKind.i64.wrap ((x.fin - x.start - x.sense * (a - x.inside * v.circle) - x.side * s) - lo) = (x.fin - x.start - x.sense * (a - x.inside * v.circle) - x.side * s) - lo ∧ IntKind.i64.wrap (((x.fin - x.start - x.sense * (a - x.inside * v.circle) - x.side * s) - lo).tmod v.full) = ((x.fin - x.start - x.sense * (a - x.inside * v.circle) - x.side * s) - lo).tmod v.full ∧ IntKind.i64.wrap (((x.fin - x.start - x.sense * (a - x.inside * v.circle) - x.side * s) - lo).tmod v.full + v.full) = ((x.fin - x.start - x.sense * (a - x.inside * v.circle) - x.side * s) - lo).tmod v.full + v.full ∧ IntKind.i64.wrap ((((x.fin - x.start - x.sense * (a - x.inside * v.circle) - x.side * s) - lo).tmod v.full + v.full).tmod v.full) = ((x.fin - x.start - x.sense * (a - x.inside * v.circle) - x.side * s) - lo) % v.full ∧ IntKind.i64.wrap (lo + ((x.fin - x.start - x.sense * (a - x.inside * v.circle) - x.side * s) - lo) % v.full) = lo + ((x.fin - x.start - x.sense * (a - x.inside * v.circle) - x.side * s) - lo) % v.full ∧ (((x.fin - x.start - x.sense * (a - x.inside * v.circle) - x.side * s) - lo).tmod v.full + v.full).tmod v.full = ((x.fin - x.start - x.sense * (a - x.inside * v.circle) - x.side * s) - lo) % v.full := fun lo h1 h2 => by
    generalize (x.fin - x.start - x.sense * (a - x.inside * v.circle) - x.side * s) = L at hL ⊢
    have t1 := Int.tmod_lt_of_pos (L - lo) (show 0 < v.full by omega)
    have t2 := Int.lt_tmod_of_pos (L - lo) (show 0 < v.full by omega)
    have t3 := Int.emod_nonneg (L - lo) (show v.full ≠ 0 by omega)
    have t4 := Int.emod_lt_of_pos (L - lo) (show 0 < v.full by omega)
    have t5 := tmod_up (x := L - lo) (show 0 < v.full by omega)
    rw [t5]
    exact ⟨IntWalk.i64_in _ (by omega), IntWalk.i64_in _ (by omega), IntWalk.i64_in _ (by omega), IntWalk.i64_in _ (by omega), IntWalk.i64_in _ (by omega), rfl⟩
  by_cases hq : x.sense = 1
  · have hq' : (x.sense == 1) = true := by simp [hq]
    obtain ⟨y1, y2, y3, y4, y5, y6⟩ := key (-2 * v.read - v.slip) (by omega) (by omega)
    have e1 : wkLo v x = -2 * v.read - v.slip := by rw [wkLo, if_pos hq]; omega
    have e2 : wkHi v x = 2 * v.read := by rw [wkHi, if_pos hq]
    rw [e1, e2] at hR
    replace hR := Lib.hid hR
    have hf : (v.full == 0) = false := by simp; omega
    clear e1 e2 key hq
    go_enter Tryz.func67, Tryz.ntmps67
    go_wp2
    refine wp_region_after (by kernel_rfl) (by kernel_rfl) ?_; (repeat (go_big_quiet_step ((fail)))); refine wpQuiet_nil ?_; rintro _ ⟨z, rfl⟩; (first | ((with_reducible apply kp_in_after (z := z)); (with_reducible assumption); rintro ⟨hk, hc, hf, hzc, hzf⟩) | ((with_reducible refine kp_in_after0 z ?_); rintro ⟨hk, hc, hf, hzc, hzf⟩))
    go_wp2
    refine wp_region_after (by kernel_rfl) (by kernel_rfl) ?_; (repeat (go_big_quiet_step ((fail)))); refine wpQuiet_nil ?_; rintro _ ⟨z2, rfl⟩; (first | ((with_reducible apply kp_in_after (z := z2)); (with_reducible assumption); rintro ⟨hk, hc, hf, hzc, hzf⟩) | ((with_reducible refine kp_in_after0 z2 ?_); rintro ⟨hk, hc, hf, hzc, hzf⟩))
    go_wp2
    go_ret
    exact ⟨ret_bool hR.out.symm, by (repeat (first | with_reducible exact Below.refl _ _ | with_reducible apply bl_alloc | with_reducible apply bl_drew | with_reducible apply bl_after | (with_reducible refine bl_call ?_ (by assumption))))⟩
  · have hq' : (x.sense == 1) = false := by simp [hq]
    obtain ⟨y1, y2, y3, y4, y5, y6⟩ := key (-2 * v.read) (by omega) (by omega)
    have e1 : wkLo v x = -2 * v.read := by rw [wkLo, if_neg hq]; omega
    have e2 : wkHi v x = 2 * v.read + v.slip := by rw [wkHi, if_neg hq]
    rw [e1, e2] at hR
    replace hR := Lib.hid hR
    have hf : (v.full == 0) = false := by simp; omega
    clear e1 e2 key hq
    go_enter Tryz.func67, Tryz.ntmps67
    go_wp2
    refine wp_region_after (by kernel_rfl) (by kernel_rfl) ?_; (repeat (go_big_quiet_step ((fail)))); refine wpQuiet_nil ?_; rintro _ ⟨z, rfl⟩; (first | ((with_reducible apply kp_in_after (z := z)); (with_reducible assumption); rintro ⟨hk, hc, hf, hzc, hzf⟩) | ((with_reducible refine kp_in_after0 z ?_); rintro ⟨hk, hc, hf, hzc, hzf⟩))
    go_wp2
    refine wp_region_after (by kernel_rfl) (by kernel_rfl) ?_; (repeat (go_big_quiet_step ((fail)))); refine wpQuiet_nil ?_; rintro _ ⟨z2, rfl⟩; (first | ((with_reducible apply kp_in_after (z := z2)); (with_reducible assumption); rintro ⟨hk, hc, hf, hzc, hzf⟩) | ((with_reducible refine kp_in_after0 z2 ?_); rintro ⟨hk, hc, hf, hzc, hzf⟩))
    go_wp2
    go_ret
    exact ⟨ret_bool hR.out.symm, by (repeat (first | with_reducible exact Below.refl _ _ | with_reducible apply bl_alloc | with_reducible apply bl_drew | with_reducible apply bl_after | (with_reducible refine bl_call ?_ (by assumption))))⟩
end Go.Proofs.YthijegacjboclaaGreat
