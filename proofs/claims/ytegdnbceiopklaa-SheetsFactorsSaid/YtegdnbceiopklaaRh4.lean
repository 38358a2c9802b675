/- The reference's function Factors of sheets. -/
import Derived.Test.YtegdnbceiopklaaRe4
namespace Go.Proofs.Ytegdnbceiopklaa
open Go.RowKit Go.Shelf
attribute [local go_sem] After.cell After.frozen

theorem mem_facs {l : List Pt} {way n : Int} : n ∈ (l.map fun f => fac f way) ↔ ∃ j, j < l.length ∧ fac (pat l j) way = n := by
  rw [List.mem_map]
  constructor
  · rintro ⟨f, hf, rfl⟩
    obtain ⟨j, hj, rfl⟩ := List.getElem_of_mem hf
    exact ⟨j, hj, by rw [← pat_eq hj]⟩
  · rintro ⟨j, hj, rfl⟩
    exact ⟨pat l j, by rw [← pat_eq hj]; exact List.getElem_mem hj, rfl⟩
set_option maxRecDepth 100000 in
set_option maxHeartbeats 4000000 in
theorem rFactors4 (A : Option Addr) (ca : Nat) (S : Sht) (way : Int) (w : World) (ha : Cts w A S.cs) :
    Calls Try.prog 34 #[(Value.agg #[(Value.int .i64 (S.xlo)), (Value.int .i64 (S.xhi)), (Value.int .i64 (S.ylo)), (Value.int .i64 (S.yhi)), .slice A S.cs.length ca, (Value.int .i64 (S.wrong))]), (Value.int .i64 (way))] w fun e w' => (∃ A' ca', e = .returned (.tuple #[.slice A' (fcV S way).length ca', (Value.int .i64 (opS S (wayB way)))]) ∧ Ints w' A' (fcV S way)) ∧ Below w.heap.size w w' := by
  have hok := fun (W : World) (h : Below w.heap.size w W) => rKn_ok A ca S 0 (wayB way) W (ha.below h)
  have hno := fun (W : World) (h : Below w.heap.size w W) => rKn_no A ca S 0 (wayB way) W (ha.below h)
  rw [knE_zero] at hok hno
  have c1 : Blk (w.alloc (.cells #[(Value.int .i64 (S.xlo)), (Value.int .i64 (S.xhi)), (Value.int .i64 (S.ylo)), (Value.int .i64 (S.yhi)), .slice A S.cs.length ca, (Value.int .i64 (S.wrong))] 26)) w.heap.size 26 #[(Value.int .i64 (S.xlo)), (Value.int .i64 (S.xhi)), (Value.int .i64 (S.ylo)), (Value.int .i64 (S.yhi)), .slice A S.cs.length ca, (Value.int .i64 (S.wrong))] := Blk.new _ _ _
  have hb0 : Below w.heap.size w (w.alloc (.cells #[(Value.int .i64 (S.xlo)), (Value.int .i64 (S.xhi)), (Value.int .i64 (S.ylo)), (Value.int .i64 (S.yhi)), .slice A S.cs.length ca, (Value.int .i64 (S.wrong))] 26)) := by (repeat (first | with_reducible exact Below.refl _ _ | with_reducible apply bl_alloc | with_reducible apply bl_drew | with_reducible apply bl_after | (with_reducible refine bl_call ?_ (by assumption))))
  (have la := c1.lt); (have ya0 := c1.cell 0); (have ya1 := c1.cell 1); (have ya2 := c1.cell 2); (have ya3 := c1.cell 3); (have ya4 := c1.cell 4); (have ya5 := c1.cell 5); simp only [List.getElem?_toArray, List.getElem?_cons_zero, List.getElem?_cons_succ] at ya0 ya1 ya2 ya3 ya4 ya5
  by_cases h : opS S (wayB way) = 0
  · have HK := Lib.hid fun W h1 => hok W h1 h
    have hS := sht_ok (opS_zero h).1
    have HV : fcV S way = rfTo ((trs S).map fun f => fac f way) 201 := by rw [fcV, if_pos h, fcS_eq hS]
    have hlen := trs_bd hS
    rw [h, HV]
    clear h hok hno HV
    obtain ⟨i0, hi, hz0, hz1, hz2⟩ := info_parts infoInt
    go_enter Try.func34, Try.ntmps34
    go_upto_region 1 with fail
    refine wp_region_CN (fun w' => ∃ z : After (w.alloc (.cells #[(Value.int .i64 (S.xlo)), (Value.int .i64 (S.xhi)), (Value.int .i64 (S.ylo)), (Value.int .i64 (S.yhi)), .slice A S.cs.length ca, (Value.int .i64 (S.wrong))] 26)), w' = z.val) (by kernel_rfl) ?_; change wpAnyC _ _ _ _ _ _ _ (World.drew (w.alloc (.cells #[(Value.int .i64 (S.xlo)), (Value.int .i64 (S.xhi)), (Value.int .i64 (S.ylo)), (Value.int .i64 (S.yhi)), .slice A S.cs.length ca, (Value.int .i64 (S.wrong))] 26))); (have hd0 : Below ((w.alloc (.cells #[(Value.int .i64 (S.xlo)), (Value.int .i64 (S.xhi)), (Value.int .i64 (S.ylo)), (Value.int .i64 (S.yhi)), .slice A S.cs.length ca, (Value.int .i64 (S.wrong))] 26))).heap.size (w.alloc (.cells #[(Value.int .i64 (S.xlo)), (Value.int .i64 (S.xhi)), (Value.int .i64 (S.ylo)), (Value.int .i64 (S.yhi)), .slice A S.cs.length ca, (Value.int .i64 (S.wrong))] 26)) ((w.alloc (.cells #[(Value.int .i64 (S.xlo)), (Value.int .i64 (S.xhi)), (Value.int .i64 (S.ylo)), (Value.int .i64 (S.yhi)), .slice A S.cs.length ca, (Value.int .i64 (S.wrong))] 26))).drew := bl_drew (Below.refl _ _)); refine wpAnyC_take (i := 0) (v := ?v0u) rfl (by kernel_rfl) (by kernel_rfl) (by kernel_rfl) ?q0u rfl ?y0u ?r0u; (case q0u => exact fun _ _ _ h => h); (case y0u => ((rintro _ ⟨z, rfl⟩); (go_simp); (try with_reducible rfl))); simp only [Act.put, List.getElem_toArray, List.getElem_cons_succ, List.getElem_cons_zero, List.setIfInBounds_toArray, List.set_cons_succ, List.set_cons_zero]; refine wpAnyC_take (i := 1) (v := ?v1u) rfl (by kernel_rfl) (by kernel_rfl) (by kernel_rfl) ?q1u rfl ?y1u ?r1u; (case q1u => exact fun _ _ _ h => h); (case y1u => ((rintro _ ⟨z, rfl⟩); (go_simp); (try with_reducible rfl))); simp only [Act.put, List.getElem_toArray, List.getElem_cons_succ, List.getElem_cons_zero, List.setIfInBounds_toArray, List.set_cons_succ, List.set_cons_zero]; (refine wpAnyC_one (i := 2) (by kernel_rfl) rfl ⟨⟨_, hd0⟩, rfl⟩ rfl (fun K hK => ?_); go_simp; go_at_call 71; (with_reducible refine Calls.mono (rIsWay_any _ _) ?_); rintro e w' ⟨rfl, rfl⟩; refine hK _ _ ?_; clear hK K); refine wpAnyC_one (i := 3) (by kernel_rfl) rfl ⟨⟨_, hd0⟩, rfl⟩ rfl (fun K hK => ?_); go_simp; go_at_call 55
    (with_reducible refine Calls.mono (HK.out _ (bl_drew hb0)) ?_)
    rintro e1 w1 ⟨⟨A1, ca1, rfl, hI⟩, hb1⟩
    refine hK _ _ ?_; clear hK K; (have hd1 := hd0.trans (hb1.mono hd0.size)); refine wpAnyC_take (i := 4) (v := ?v4u) rfl (by kernel_rfl) (by kernel_rfl) (by kernel_rfl) ?q4u rfl ?y4u ?r4u; (case q4u => exact fun _ _ _ h => h); (case y4u => ((rintro _ ⟨z, rfl⟩); (go_simp); (try with_reducible rfl))); simp only [Act.put, List.getElem_toArray, List.getElem_cons_succ, List.getElem_cons_zero, List.setIfInBounds_toArray, List.set_cons_succ, List.set_cons_zero]; refine wpAnyC_take (i := 5) (v := ?v5u) rfl (by kernel_rfl) (by kernel_rfl) (by kernel_rfl) ?q5u rfl ?y5u ?r5u; (case q5u => exact fun _ _ _ h => h); (case y5u => ((rintro _ ⟨z, rfl⟩); (go_simp); (try with_reducible rfl))); simp only [Act.put, List.getElem_toArray, List.getElem_cons_succ, List.getElem_cons_zero, List.setIfInBounds_toArray, List.set_cons_succ, List.set_cons_zero]; refine wpAnyC_take (i := 6) (v := ?v6u) rfl (by kernel_rfl) (by kernel_rfl) (by kernel_rfl) ?q6u rfl ?y6u ?r6u; (case q6u => exact fun _ _ _ h => h); (case y6u => ((rintro _ ⟨z, rfl⟩); (go_simp); (try with_reducible rfl))); simp only [Act.put, List.getElem_toArray, List.getElem_cons_succ, List.getElem_cons_zero, List.setIfInBounds_toArray, List.set_cons_succ, List.set_cons_zero]; refine wpAnyC_take (i := 7) (v := ?v7u) rfl (by kernel_rfl) (by kernel_rfl) (by kernel_rfl) ?q7u rfl ?y7u ?r7u; (case q7u => exact fun _ _ _ h => h); (case y7u => ((rintro _ ⟨z, rfl⟩); (go_simp); (try with_reducible rfl))); simp only [Act.put, List.getElem_toArray, List.getElem_cons_succ, List.getElem_cons_zero, List.setIfInBounds_toArray, List.set_cons_succ, List.set_cons_zero]; refine wpAnyC_take (i := 8) (v := ?v8u) rfl (by kernel_rfl) (by kernel_rfl) (by kernel_rfl) ?q8u rfl ?y8u ?r8u; (case q8u => exact fun _ _ _ h => h); (case y8u => ((rintro _ ⟨z, rfl⟩); (go_simp); (try with_reducible rfl))); simp only [Act.put, List.getElem_toArray, List.getElem_cons_succ, List.getElem_cons_zero, List.setIfInBounds_toArray, List.set_cons_succ, List.set_cons_zero]; refine wpAnyC_doneN (by kernel_rfl) ⟨⟨_, hd1⟩, rfl⟩ ?_ _; (have hbW := bl_call (bl_drew hb0) hb1)
    clear la ya0 ya1 ya2 ya3 ya4 ya5 hb0 hd0 hd1 hb1 HK ha c1
    have hmf := Lib.hid fun (n : Int) => mem_facs (l := trs S) (way := way) (n := n)
    have hofa := Lib.hid fun (f : Pt) (W : World) => rOf_any f way W
    go_wp2
    go_loopw [8, 9] (fun v n wr => ∃ k : Nat, k ≤ 201 ∧ n = (Value.int .i64 (900 + (k : Int))) ∧ Hid (RowI wr w1.heap.size v (rfTo ((trs S).map fun f => fac f way) k)) ∧ Below w1.heap.size w1 wr) (fun _ n _ => (1101 - intOf n).toNat)
    case atStart => exact ⟨0, Nat.zero_le _, rfl, Lib.hid (rowI_nil _ _), Below.refl _ _⟩
    case round =>
      obtain ⟨k, kn, rfl, hO, hbr⟩ := hrel
      have hsu := Lib.hid (rfTo_succ ((trs S).map fun f => fac f way) k)
      have hsl := rfTo_len ((trs S).map fun f => fac f way) k
      by_cases hlt : k < 201
      · have hle : 900 + (k : Int) ≤ 1100 := by omega
        go_wp2
        go_loopw [8, 10] (fun v i wi => ∃ j : Nat, j ≤ (trs S).length ∧ i = (Value.int .i64 ((j : Int))) ∧ Hid (RowI wi w1.heap.size v (rfTo ((trs S).map fun f => fac f way) k)) ∧ Hid (∀ q, q < j → fac (pat (trs S) q) way ≠ 900 + (k : Int)) ∧ Below w1.heap.size w1 wi) (fun _ i _ => (trs S).length - (intOf i).toNat)
        case atStart => exact ⟨0, Nat.zero_le _, rfl, hO, Lib.hid fun q hq => absurd hq (Nat.not_lt_zero _), hbr⟩
        case round =>
          obtain ⟨j, jn, rfl, hP, hall, hbs⟩ := hrel
          rename World => wi
          by_cases hlj : j < (trs S).length
          · obtain ⟨bp, op, rfl, pp⟩ := (hI.below hbs).at_ hlj
            obtain ⟨lp, y1, y2⟩ := prs_cells pp hlj
            clear pp
            by_cases h2 : fac (pat (trs S) j) way = 900 + (k : Int)
            · have hm := Lib.hid ((hmf.out _).2 ⟨j, hlj, h2⟩)
              have hbx := hbs
              go_wp2_with (first | ((go_at_call 77); (with_reducible refine Calls.mono (hofa.out _ _) ?_); rintro e2 w2 ⟨rfl, hb2⟩; first | ((with_reducible apply kp_in_step (hb := hb2)); (with_reducible assumption); rintro ⟨hk, hc, hf, hzc, hzf⟩) | ((with_reducible refine kp_in_first hb2 ?_); rintro ⟨hk, hc, hf, hzc, hzf⟩); (have hP2 := Lib.hid (hP.out.below hb2)); (have hbi := bl_call hbs hb2)) | (at_builtin; refine wpList_append_own _ rfl (.tmp 39) (.tmp 41) 55 rfl w1.heap.size 3 i0 _ 1 8 undInts hi hz0 hz1 hz2 rfl (by decide) _ _ _ rfl (World.ownsRow.alloc hP2.out _) ⟨w2.heap.size, 0, none⟩ 1 1 [(Value.int .i64 (900 + (k : Int)))] rfl rfl (cell_one_new _ _ _) (one_int _) (by unfold maxLen; omega) (by omega) (by have := hbi.size; simp; omega) ?_))
              intro v' w9 hown hgrow _
              have hb9 : Below w1.heap.size w1 w9 := bl_grown (bl_alloc hbi) (World.ownsRow.alloc hP2.out _) hgrow
              have HV := Lib.hid (RowI.snoc hown rfl)
              have hsu2 := hsu.out
              rw [if_pos hm.out] at hsu2
              have HSU := Lib.hid hsu2
              clear hown hgrow hsu2 hsu hm
              go_wp2
              go_roundw
              case rel => exact ⟨k + 1, by omega, by go_num, Lib.hid (by rw [HSU.out]; exact HV.out), hb9⟩
              case measure => simp [intOf]; omega
            · have h3 : (fac (pat (trs S) j) way == 900 + (k : Int)) = false := by simpa using h2
              have hP2 := Lib.hid fun (z : After wi) => hP.out.below z.ok
              go_wp2_with ((go_at_call 77); (with_reducible refine Calls.mono (hofa.out _ _) ?_); rintro e2 w2 ⟨rfl, hb2⟩; (have hP2 := Lib.hid (hP.out.below hb2)); (have hbi := bl_call hbs hb2))
              go_roundw
              case rel =>
                refine ⟨j + 1, by omega, by go_num, hP2, Lib.hid fun q hq => ?_, hbi⟩
                rcases Nat.lt_succ_iff_lt_or_eq.1 hq with h | rfl
                · exact hall.out q h
                · exact h2
              case measure => simp [intOf]; omega
          · obtain rfl : j = (trs S).length := by omega
            have hno : ¬ 900 + (k : Int) ∈ ((trs S).map fun f => fac f way) := fun h => by
              obtain ⟨q, hq, e⟩ := (hmf.out _).1 h
              exact hall.out q hq e
            have hsu2 := hsu.out
            rw [if_neg hno, List.append_nil] at hsu2
            have HSU := Lib.hid hsu2
            clear hsu2 hno hsu
            go_wp2
            go_roundw
            case rel => exact ⟨k + 1, by omega, by go_num, Lib.hid (by rw [HSU.out]; exact hP.out), hbs⟩
            case measure => simp [intOf]; omega
      · obtain rfl : k = 201 := by omega
        obtain ⟨A', ca', rfl, hI2⟩ := hO.out.parts
        have hbR := bl_call hbW hbr
        clear hO hsu
        go_wp2
        go_ret2
        exact ⟨⟨A', ca', rfl, hI2⟩, hbR⟩
  · have HK := Lib.hid fun W h1 => hno W h1 h
    have HV : fcV S way = [] := if_neg h
    rw [HV]
    have h1 : (opS S (wayB way) != 0) = true := by rw [bne_iff_ne]; exact h
    clear h hok hno HV
    go_enter Try.func34, Try.ntmps34
    go_upto_region 1 with fail
    refine wp_region_CN (fun w' => ∃ z : After (w.alloc (.cells #[(Value.int .i64 (S.xlo)), (Value.int .i64 (S.xhi)), (Value.int .i64 (S.ylo)), (Value.int .i64 (S.yhi)), .slice A S.cs.length ca, (Value.int .i64 (S.wrong))] 26)), w' = z.val) (by kernel_rfl) ?_; change wpAnyC _ _ _ _ _ _ _ (World.drew (w.alloc (.cells #[(Value.int .i64 (S.xlo)), (Value.int .i64 (S.xhi)), (Value.int .i64 (S.ylo)), (Value.int .i64 (S.yhi)), .slice A S.cs.length ca, (Value.int .i64 (S.wrong))] 26))); (have hd0 : Below ((w.alloc (.cells #[(Value.int .i64 (S.xlo)), (Value.int .i64 (S.xhi)), (Value.int .i64 (S.ylo)), (Value.int .i64 (S.yhi)), .slice A S.cs.length ca, (Value.int .i64 (S.wrong))] 26))).heap.size (w.alloc (.cells #[(Value.int .i64 (S.xlo)), (Value.int .i64 (S.xhi)), (Value.int .i64 (S.ylo)), (Value.int .i64 (S.yhi)), .slice A S.cs.length ca, (Value.int .i64 (S.wrong))] 26)) ((w.alloc (.cells #[(Value.int .i64 (S.xlo)), (Value.int .i64 (S.xhi)), (Value.int .i64 (S.ylo)), (Value.int .i64 (S.yhi)), .slice A S.cs.length ca, (Value.int .i64 (S.wrong))] 26))).drew := bl_drew (Below.refl _ _)); refine wpAnyC_take (i := 0) (v := ?v0v) rfl (by kernel_rfl) (by kernel_rfl) (by kernel_rfl) ?q0v rfl ?y0v ?r0v; (case q0v => exact fun _ _ _ h => h); (case y0v => ((rintro _ ⟨z, rfl⟩); (go_simp); (try with_reducible rfl))); simp only [Act.put, List.getElem_toArray, List.getElem_cons_succ, List.getElem_cons_zero, List.setIfInBounds_toArray, List.set_cons_succ, List.set_cons_zero]; refine wpAnyC_take (i := 1) (v := ?v1v) rfl (by kernel_rfl) (by kernel_rfl) (by kernel_rfl) ?q1v rfl ?y1v ?r1v; (case q1v => exact fun _ _ _ h => h); (case y1v => ((rintro _ ⟨z, rfl⟩); (go_simp); (try with_reducible rfl))); simp only [Act.put, List.getElem_toArray, List.getElem_cons_succ, List.getElem_cons_zero, List.setIfInBounds_toArray, List.set_cons_succ, List.set_cons_zero]; (refine wpAnyC_one (i := 2) (by kernel_rfl) rfl ⟨⟨_, hd0⟩, rfl⟩ rfl (fun K hK => ?_); go_simp; go_at_call 71; (with_reducible refine Calls.mono (rIsWay_any _ _) ?_); rintro e w' ⟨rfl, rfl⟩; refine hK _ _ ?_; clear hK K); refine wpAnyC_one (i := 3) (by kernel_rfl) rfl ⟨⟨_, hd0⟩, rfl⟩ rfl (fun K hK => ?_); go_simp; go_at_call 55
    (with_reducible refine Calls.mono (HK.out _ (bl_drew hb0)) ?_)
    rintro e1 w1 ⟨⟨A1, ca1, rfl⟩, hb1⟩
    refine hK _ _ ?_; clear hK K; (have hd1 := hd0.trans (hb1.mono hd0.size)); refine wpAnyC_take (i := 4) (v := ?v4v) rfl (by kernel_rfl) (by kernel_rfl) (by kernel_rfl) ?q4v rfl ?y4v ?r4v; (case q4v => exact fun _ _ _ h => h); (case y4v => ((rintro _ ⟨z, rfl⟩); (go_simp); (try with_reducible rfl))); simp only [Act.put, List.getElem_toArray, List.getElem_cons_succ, List.getElem_cons_zero, List.setIfInBounds_toArray, List.set_cons_succ, List.set_cons_zero]; refine wpAnyC_take (i := 5) (v := ?v5v) rfl (by kernel_rfl) (by kernel_rfl) (by kernel_rfl) ?q5v rfl ?y5v ?r5v; (case q5v => exact fun _ _ _ h => h); (case y5v => ((rintro _ ⟨z, rfl⟩); (go_simp); (try with_reducible rfl))); simp only [Act.put, List.getElem_toArray, List.getElem_cons_succ, List.getElem_cons_zero, List.setIfInBounds_toArray, List.set_cons_succ, List.set_cons_zero]; refine wpAnyC_take (i := 6) (v := ?v6v) rfl (by kernel_rfl) (by kernel_rfl) (by kernel_rfl) ?q6v rfl ?y6v ?r6v; (case q6v => exact fun _ _ _ h => h); (case y6v => ((rintro _ ⟨z, rfl⟩); (go_simp); (try with_reducible rfl))); simp only [Act.put, List.getElem_toArray, List.getElem_cons_succ, List.getElem_cons_zero, List.setIfInBounds_toArray, List.set_cons_succ, List.set_cons_zero]; refine wpAnyC_take (i := 7) (v := ?v7v) rfl (by kernel_rfl) (by kernel_rfl) (by kernel_rfl) ?q7v rfl ?y7v ?r7v; (case q7v => exact fun _ _ _ h => h); (case y7v => ((rintro _ ⟨z, rfl⟩); (go_simp); (try with_reducible rfl))); simp only [Act.put, List.getElem_toArray, List.getElem_cons_succ, List.getElem_cons_zero, List.setIfInBounds_toArray, List.set_cons_succ, List.set_cons_zero]; refine wpAnyC_take (i := 8) (v := ?v8v) rfl (by kernel_rfl) (by kernel_rfl) (by kernel_rfl) ?q8v rfl ?y8v ?r8v; (case q8v => exact fun _ _ _ h => h); (case y8v => ((rintro _ ⟨z, rfl⟩); (go_simp); (try with_reducible rfl))); simp only [Act.put, List.getElem_toArray, List.getElem_cons_succ, List.getElem_cons_zero, List.setIfInBounds_toArray, List.set_cons_succ, List.set_cons_zero]; refine wpAnyC_doneN (by kernel_rfl) ⟨⟨_, hd1⟩, rfl⟩ ?_ _; (have hbW := bl_call (bl_drew hb0) hb1)
    go_wp2
    go_ret2
    exact ⟨⟨none, 0, rfl, .inl rfl⟩, hbW⟩
end Go.Proofs.Ytegdnbceiopklaa
