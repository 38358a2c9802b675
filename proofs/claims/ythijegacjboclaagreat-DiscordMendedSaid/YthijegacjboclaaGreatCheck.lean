/- The function corners.Check answers OK just for a valid polygon, for slices of at most a million points. -/
import Derived.Test.YthijegacjboclaaGreatSimple
import Derived.Test.YthijegacjboclaaGreatFind
import Derived.Test.YthijegacjboclaaGreatMap
import Derived.RegionTactic
import Derived.Deep.LoopGhost
namespace Go.Proofs.YthijegacjboclaaGreat
open Go.RowKit
attribute [local go_sem] After.cell After.frozen

theorem anyNot (l : List Pt) : (l.any fun p => !isPt p) = true ↔ ¬ ∀ i, i < l.length → isPt (pat l i) = true := by
  constructor
  · intro h hall
    obtain ⟨x, hx, hn⟩ := List.any_eq_true.1 h
    obtain ⟨i, hi, rfl⟩ := List.getElem_of_mem hx
    rw [pat_eq hi, hall i hi] at hn
    cases hn
  · intro h
    rcases hb : (l.any fun p => !isPt p) with _ | _
    · exfalso
      apply h
      intro i hi
      rw [List.any_eq_false] at hb
      have := hb l[i] (List.getElem_mem hi)
      rw [pat_eq hi] at this
      simpa using this
    · rfl

def keysTo (l : List Pt) (k : Nat) : List (Pt × Int) := (List.range k).map fun i => (pat l i, 1)
theorem keysTo_len (l : List Pt) (k : Nat) : (keysTo l k).length = k := by simp [keysTo]
theorem keysTo_succ (l : List Pt) (k : Nat) : keysTo l (k + 1) = keysTo l k ++ [(pat l k, 1)] := by simp [keysTo, List.range_succ]

theorem keysTo_split (l : List Pt) {j k : Nat} (h : j < k) : ∃ ys, keysTo l k = keysTo l j ++ (pat l j, 1) :: ys := by
  obtain ⟨d, rfl⟩ : ∃ d, k = j + 1 + d := ⟨k - j - 1, by omega⟩
  induction d with
  | zero => exact ⟨[], by rw [Nat.add_zero, keysTo_succ]⟩
  | succ d ih =>
    obtain ⟨ys, hy⟩ := ih (by omega)
    exact ⟨ys ++ [(pat l (j + 1 + d), 1)], by rw [← Nat.add_assoc, keysTo_succ, hy]; simp⟩

set_option maxRecDepth 100000 in
set_option maxHeartbeats 2000000 in
theorem Check_any (A : Option Addr) (ca : Nat) (l : List Pt) (w : World) (ha : Pts w A l) (hla : l.length ≤ 1000000) :
    Calls Tryz.prog 60 #[.slice A l.length ca] w fun e w' => e = .returned (Value.int .i64 (chk l)) ∧ Below w.heap.size w w' := by
  by_cases hn : 3 ≤ l.length ∧ l.length ≤ 10
  · obtain ⟨hn1, hn2⟩ := hn
    have hwi : within (l.length : Int) 3 10 = true := by simp [within]; omega
    have hCF := ContainsFunc_any A ca 83 #[] (fun p => !isPt p) l w ha hla (enters_of Tryz.func83 (by kernel_rfl) rfl) (fun p W _ => Check1_any p W)
    by_cases hpt : ∀ i, i < l.length → isPt (pat l i) = true
    · have hany : (l.any fun p => !isPt p) = false := by
        rcases hb : (l.any fun p => !isPt p) with _ | _
        · rfl
        · exact absurd hpt ((anyNot l).1 hb)
      rw [hany] at hCF
      have HP := Lib.hid hpt
      clear hpt hany
      have hmm := @run_makeMap Tryz.prog
      go_enter Tryz.func60, Tryz.ntmps60
      go_wp2_with (first | (go_at_call 81; with_reducible refine Calls.mono (within_any _ _ _ _) ?_; rintro e w' ⟨rfl, rfl⟩) | ((with_reducible refine Calls.mono hCF ?_); rintro e w1 ⟨rfl, hb1⟩))
      go_loopg [17] l.length (fun g i wr => ∃ k : Nat, k ≤ l.length ∧ g = l.length - k ∧ i = (Value.int .i64 ((k : Int))) ∧ (∀ j, j < k → ∀ m, m < j → pat l m ≠ pat l j) ∧ MapAt wr w1.heap.size (keysTo l k) ∧ Below w.heap.size w wr)
      case atStart => exact ⟨0, Nat.zero_le _, rfl, rfl, (fun j hj => by omega), heap_alloc_new w1 _, by (repeat (first | with_reducible exact Below.refl _ _ | with_reducible apply bl_alloc | with_reducible apply bl_drew | with_reducible apply bl_after | (with_reducible refine bl_call ?_ (by assumption))))⟩
      case round =>
        obtain ⟨k, kn, rfl, rfl, HD, hM, hbw⟩ := hrel
        replace HD := Lib.hid HD
        have hwr : w.heap.size ≤ w1.heap.size := hb1.size
        clear hCF hb1 hmm
        by_cases hlt : k < l.length
        · obtain ⟨b, o, rfl, pa⟩ := (ha.below hbw).at_ hlt
          have x1 := pa.xp hlt
          have x2 := pa.yp hlt
          have lb := pa.lt
          go_wp2
          have c5 := Blk.new wr 98 #[(Value.int .i64 ((pat l k).1)), (Value.int .i64 ((pat l k).2))]
          have hM5 : MapAt (wr.alloc (.cells #[(Value.int .i64 ((pat l k).1)), (Value.int .i64 ((pat l k).2))] 98)) w1.heap.size (keysTo l k) := (Below.heap_alloc wr _ _ hM.lt).trans hM
          have hb5 : Below w.heap.size w (wr.alloc (.cells #[(Value.int .i64 ((pat l k).1)), (Value.int .i64 ((pat l k).2))] 98)) := bl_alloc hbw
          generalize wr.alloc (.cells #[(Value.int .i64 ((pat l k).1)), (Value.int .i64 ((pat l k).2))] 98) = V at c5 hM5 hb5 ⊢
          have y1 := c5.cell 0
          have y2 := c5.cell 1
          clear x1 x2 lb
          by_cases hd : ∃ j, j < k ∧ pat l j = pat l k
          · obtain ⟨j, hjk, hje⟩ := hd
            obtain ⟨ys, hys⟩ := keysTo_split l hjk
            rw [hje] at hys
            have hne : ∀ x ∈ keysTo l j, pat l k ≠ x.1 := by
              intro x hx he
              obtain ⟨i, hi, rfl⟩ := List.mem_map.1 hx
              have hij : i < j := by simpa using hi
              exact HD.out j hjk i hij (by rw [hje]; exact he.symm)
            rw [hys] at hM5 hM
            clear hys
            have hMd : MapAt V.drew w1.heap.size (keysTo l j ++ (pat l k, 1) :: ys) := hM5
            have q1 := run_lookup_at hMd hne
            have q2 := run_entry_at hMd hne
            have hM6 := mapAt_put (xs := keysTo l j ++ (pat l k, 1) :: ys) hMd rfl
            have c6 : Blk (V.drew.putObj w1.heap.size (.map (ents (keysTo l j ++ (pat l k, 1) :: ys)) (keysTo l j ++ (pat l k, 1) :: ys).length)) wr.heap.size 98 #[(Value.int .i64 ((pat l k).1)), (Value.int .i64 ((pat l k).2))] := (World.putObj_heap_other (by have := hM.lt; omega)).trans c5
            have hb6 : Below w.heap.size w (V.drew.putObj w1.heap.size (.map (ents (keysTo l j ++ (pat l k, 1) :: ys)) (keysTo l j ++ (pat l k, 1) :: ys).length)) := bl_put (bl_drew hb5) hMd hwr
            generalize V.drew.putObj w1.heap.size (.map (ents (keysTo l j ++ (pat l k, 1) :: ys)) (keysTo l j ++ (pat l k, 1) :: ys).length) = V6 at q2 hM6 c6 hb6
            have q3 := run_lookup_at hM6 hne
            have q4 := run_entryStore_at (u := 2) hM6 (n := (keysTo l j).length) rfl
            have hM7 := mapAt_put (xs := keysTo l j ++ (pat l k, 2) :: ys) hM6 rfl
            have c7 : Blk (V6.putObj w1.heap.size (.map (ents (keysTo l j ++ (pat l k, 2) :: ys)) (keysTo l j ++ (pat l k, 2) :: ys).length)) wr.heap.size 98 #[(Value.int .i64 ((pat l k).1)), (Value.int .i64 ((pat l k).2))] := (World.putObj_heap_other (by have := hM.lt; omega)).trans c6
            have hb7 : Below w.heap.size w (V6.putObj w1.heap.size (.map (ents (keysTo l j ++ (pat l k, 2) :: ys)) (keysTo l j ++ (pat l k, 2) :: ys).length)) := bl_put hb6 hM6 hwr
            generalize V6.putObj w1.heap.size (.map (ents (keysTo l j ++ (pat l k, 2) :: ys)) (keysTo l j ++ (pat l k, 2) :: ys).length) = V7 at q4 hM7 c7 hb7
            have q5 := run_lookup_at hM7 hne
            have y3 := c6.cell 0
            have y4 := c6.cell 1
            have y5 := c7.cell 0
            have y6 := c7.cell 1
            go_region
            go_wp2
            go_ret
            exact ⟨ret_int (chk_no fun h => h.2.2.1 k hlt j hjk hje).symm, hb7⟩
          · have hne : ∀ x ∈ keysTo l k, pat l k ≠ x.1 := by
              intro x hx he
              obtain ⟨j, hj, rfl⟩ := List.mem_map.1 hx
              exact hd ⟨j, by simpa using hj, he.symm⟩
            have hMd : MapAt V.drew w1.heap.size (keysTo l k) := hM5
            have q1 := run_lookup_new hMd hne
            have q2 := run_entry_new hMd hne
            have hM6 := mapAt_put (xs := keysTo l k ++ [(pat l k, 0)]) (n := (keysTo l k).length + 1) hMd (by simp)
            have c6 : Blk (V.drew.putObj w1.heap.size (.map (ents (keysTo l k ++ [(pat l k, 0)])) ((keysTo l k).length + 1))) wr.heap.size 98 #[(Value.int .i64 ((pat l k).1)), (Value.int .i64 ((pat l k).2))] := (World.putObj_heap_other (by have := hM.lt; omega)).trans c5
            have hb6 : Below w.heap.size w (V.drew.putObj w1.heap.size (.map (ents (keysTo l k ++ [(pat l k, 0)])) ((keysTo l k).length + 1))) := bl_put (bl_drew hb5) hMd hwr
            generalize V.drew.putObj w1.heap.size (.map (ents (keysTo l k ++ [(pat l k, 0)])) ((keysTo l k).length + 1)) = V6 at q2 hM6 c6 hb6
            have q3 := run_lookup_at (ys := []) hM6 hne
            have q4 := run_entryStore_at (ys := []) (u := 1) hM6 (n := (keysTo l k).length) rfl
            have hM7 := mapAt_put (xs := keysTo l k ++ [(pat l k, 1)]) (n := (keysTo l k ++ [(pat l k, 1)]).length) hM6 rfl
            have c7 : Blk (V6.putObj w1.heap.size (.map (ents (keysTo l k ++ [(pat l k, 1)])) (keysTo l k ++ [(pat l k, 1)]).length)) wr.heap.size 98 #[(Value.int .i64 ((pat l k).1)), (Value.int .i64 ((pat l k).2))] := (World.putObj_heap_other (by have := hM.lt; omega)).trans c6
            have hb7 : Below w.heap.size w (V6.putObj w1.heap.size (.map (ents (keysTo l k ++ [(pat l k, 1)])) (keysTo l k ++ [(pat l k, 1)]).length)) := bl_put hb6 hM6 hwr
            generalize V6.putObj w1.heap.size (.map (ents (keysTo l k ++ [(pat l k, 1)])) (keysTo l k ++ [(pat l k, 1)]).length) = V7 at q4 hM7 c7 hb7
            have q5 := run_lookup_at (ys := []) hM7 hne
            have y3 := c6.cell 0
            have y4 := c6.cell 1
            have y5 := c7.cell 0
            have y6 := c7.cell 1
            rw [← keysTo_succ] at hM7
            go_region
            go_wp2
            go_roundg (l.length - (k + 1))
            case measure => omega
            case rel => exact ⟨k + 1, by omega, rfl, by go_num, (fun j hj => by rcases Nat.lt_succ_iff_lt_or_eq.1 hj with h | h; exact HD.out j h; subst h; exact fun m hm he => hd ⟨m, hm, he⟩), hM7, hb7⟩
        · obtain rfl : k = l.length := by omega
          obtain ⟨b, o, rfl, pa⟩ := (ha.below hbw).at_ (k := 0) (by omega)
          go_wp2_with ((go_at_call 85; (with_reducible refine Calls.mono (isSimple_any b o ca l _ hn1 hn2 pa HP.out) ?_); rintro e w2 ⟨⟨t, rfl, ht⟩, hb2⟩))
          · have hT : (!t) = true := by assumption
            go_ret
            exact ⟨ret_int (chk_no fun h => by have := ht.2 ((ok_iff l).1 h).2.2.2; rw [this] at hT; cases hT).symm, by (repeat (first | with_reducible exact Below.refl _ _ | with_reducible apply bl_alloc | with_reducible apply bl_drew | with_reducible apply bl_after | (with_reducible refine bl_call ?_ (by assumption))))⟩
          · have hT : (!t) = false := by assumption
            go_ret
            exact ⟨ret_int (chk_ok ((ok_iff l).2 ⟨⟨hn1, hn2⟩, HP.out, HD.out, ht.1 (by simpa using hT)⟩)).symm, by (repeat (first | with_reducible exact Below.refl _ _ | with_reducible apply bl_alloc | with_reducible apply bl_drew | with_reducible apply bl_after | (with_reducible refine bl_call ?_ (by assumption))))⟩
    · have hany : (l.any fun p => !isPt p) = true := (anyNot l).2 hpt
      rw [hany] at hCF
      clear hany
      go_enter Tryz.func60, Tryz.ntmps60
      go_wp2_with (first | (go_at_call 81; with_reducible refine Calls.mono (within_any _ _ _ _) ?_; rintro e w' ⟨rfl, rfl⟩) | ((with_reducible refine Calls.mono hCF ?_); rintro e w1 ⟨rfl, hb1⟩))
      go_ret
      exact ⟨ret_int (chk_no fun h => hpt h.2.1).symm, by (repeat (first | with_reducible exact Below.refl _ _ | with_reducible apply bl_alloc | with_reducible apply bl_drew | with_reducible apply bl_after | (with_reducible refine bl_call ?_ (by assumption))))⟩
  · have hwi : within (l.length : Int) 3 10 = false := by simp [within]; omega
    go_enter Tryz.func60, Tryz.ntmps60
    go_wp2_with (go_at_call 81; with_reducible refine Calls.mono (within_any _ _ _ _) ?_; rintro e w' ⟨rfl, rfl⟩)
    go_ret
    exact ⟨ret_int (chk_no fun h => hn h.1).symm, by (repeat (first | with_reducible exact Below.refl _ _ | with_reducible apply bl_alloc | with_reducible apply bl_drew | with_reducible apply bl_after | (with_reducible refine bl_call ?_ (by assumption))))⟩
end Go.Proofs.YthijegacjboclaaGreat
